/- Lemmas, part 3: several texts in one. -/
import Derived.Test.YtjhlbeamfngebaaDoorX2
import Derived.Test.YtjhlbeamfngebaaDoorX1
import Derived.Test.YtjhlbeamfngebaaDoorProg
import Derived.Lib.TrailingZeros
import Derived.Laws.Bits64b
import Derived.Shelf.Spec.TrailingZeros
import Derived.Laws.IdiomStrings
import Derived.Maps.AppendAt
import Derived.BigQuiet
import Derived.BigRegion
import Derived.RegionTactic
set_option linter.unusedSimpArgs false
set_option linter.unusedVariables false

/- A statement that draws its order and whose calls may write some old blocks one after the other: one walk in the order of the text serves every order, if what holds behind m operations is told (I m). -/
namespace AG
open Go Go.RowKit

/-- The ways on of a world: what one operation may do (S), and what holds behind m operations (I m). -/
structure Way (S : World → World → Prop) (I : Nat → World → Prop) : Prop where
  refl : ∀ w, S w w
  trans : ∀ a b c, S a b → S b c → S a c
  more : ∀ m w, I m w → I (m + 1) w

theorem Way.mono {S : World → World → Prop} {I : Nat → World → Prop} (y : Way S I) {m : Nat} {w : World} (h : I m w) : ∀ k, I (m + k) w
  | 0 => h
  | k + 1 => y.more _ _ (y.mono h k)

namespace GK
section
variable {P : Program} {ops : Array Oper} {md : Region.Mode} {n M : Nat} {S : World → World → Prop} {I : Nat → World → Prop} {sp : Nat → Value → World → Prop}

/-- What the check says of the first n operations. -/
structure Ok (md : Region.Mode) (ops : Array Oper) (n : Nat) : Prop where
  sel : Region.noSelect ops = true
  size : n ≤ ops.size
  back : ∀ j, j < n → ∀ k ∈ predsOf md ops j, k < j
  one : ∀ i k t, i < n → k < n → dstOf ops i = some t → dstOf ops k = some t → i = k
  seen : ∀ j k t, j < n → k < n → dstOf ops k = some t → t ∈ looksOf ops j → k ∈ predsOf md ops j

/-- The frames of two ways look the same to an operation whose callers have all come up. -/
theorem Ok.same {L : Nat → Bool} {val vh : Nat → Value} {a0 ar a : Act} {j : Nat} {oj : Oper} (g : Ok md ops n) (hr : Pt ops n L val a0 ar) (hl : Pt ops n (fun k => decide (k < j)) vh a0 a) (hj : j < n)
    (ho : ops[j]? = some oj) (hp : ∀ k ∈ predsOf md ops j, L k = true) (hv : ∀ k, k < j → L k = true → vh k = val k) :
    execOp a.eval oj = execOp ar.eval oj ∧ Region.wanted oj (yielded ops a.tmps) = Region.wanted oj (yielded ops ar.tmps) := by
  refine look_same (Region.noSelect_spec g.sel j oj · · ho) fun t ht => hl.agree hr fun k hk hd => ?_
  have hm := g.seen j k t hj hk hd (by simpa [looksOf, ho] using ht)
  have hlt := g.back j hj k hm
  have hLk := hp k hm
  exact ⟨by simp [hlt, hLk], fun _ => hv k hlt hLk⟩

/-- A fact that stays whatever the operations do. -/
def Steady (S : World → World → Prop) (F : World → Prop) : Prop := ∀ w w', S w w' → F w → F w'

/-- The walk in the order of the text; L: the operations that have been carried out already (none, for who walks). -/
def Res (P : Program) (md : Region.Mode) (ops : Array Oper) (S : World → World → Prop) (I : Nat → World → Prop) (M : Nat) (sp : Nat → Value → World → Prop) (L : Nat → Bool) (val : Nat → Value) (wr : World)
    (Q : List (Nat × (World → Prop)) → Act → Prop) : List Oper → Nat → List (Nat × (World → Prop)) → Act → Prop
  | [], _, Γ, a => Q Γ a
  | o :: rest, i, Γ, a =>
    if Region.wanted o (yielded ops a.tmps) = true then
      (∃ v, (∀ m w, m < M → I m w → fnUpon (fun u w' => u = v ∧ w' = w) ((execOp a.eval o).run P w)) ∧ (L i = true → val i = v) ∧ Res P md ops S I M sp L val wr Q rest (i + 1) Γ (a.put o.dst v)) ∨
      (∃ Z : Value → World → Prop, (∀ u, Steady S (Z u)) ∧ (∀ m w, m < M → I m w → FactsAt md ops i Γ w → fnUpon (fun u w' => (S w w' ∧ I (m + 1) w') ∧ Z u w') ((execOp a.eval o).run P w)) ∧ (L i = true → Z (val i) wr) ∧
        ∀ u, (L i = true → u = val i) → (L i = false → ∃ m w', I m w' ∧ Z u w') → Res P md ops S I M sp L val wr Q rest (i + 1) ((i, Z u) :: Γ) (a.put o.dst u)) ∨
      ((∀ u, Steady S (sp i u)) ∧ (∀ m w, m < M → I m w → FactsAt md ops i Γ w → callUpon P w (fun e w' => ∃ u, e = .returned u ∧ (S w w' ∧ I (m + 1) w') ∧ sp i u w') ((execOp a.eval o).run P w)) ∧ (L i = true → sp i (val i) wr) ∧
        ∀ u, (L i = true → u = val i) → (L i = false → ∃ m w', I m w' ∧ sp i u w') → Res P md ops S I M sp L val wr Q rest (i + 1) ((i, sp i u) :: Γ) (a.put o.dst u))
    else (L i = true → val i = undef) ∧ Res P md ops S I M sp L val wr Q rest (i + 1) Γ (a.put o.dst undef)

variable {Q : List (Nat × (World → Prop)) → Act → Prop}

/-- Behind the place of what was carried out last: only the world has moved on. -/
theorem Res.later {L L' : Nat → Bool} {val val' : Nat → Value} {wr w1 : World} (hb : S wr w1) : ∀ (l : List Oper) (i : Nat) (Γ : List (Nat × (World → Prop))) (a : Act),
    (∀ k, i ≤ k → L' k = L k ∧ val' k = val k) → Res P md ops S I M sp L val wr Q l i Γ a → Res P md ops S I M sp L' val' w1 Q l i Γ a := by
  intro l
  induction l with
  | nil => intro i Γ a _ h; exact h
  | cons o rest ih =>
    intro i Γ a he h
    obtain ⟨hL, hv⟩ := he i (Nat.le_refl i)
    have he' : ∀ k, i + 1 ≤ k → L' k = L k ∧ val' k = val k := fun k hk => he k (by omega)
    unfold Res at h ⊢
    rw [hL, hv]
    split
    · rename_i hw
      rw [if_pos hw] at h
      rcases h with ⟨v, h1, h2, h3⟩ | ⟨Z, hs, h1, h2, h3⟩ | ⟨hs, h1, h2, h3⟩
      · exact .inl ⟨v, h1, h2, ih _ _ _ he' h3⟩
      · exact .inr (.inl ⟨Z, hs, h1, fun h => hs _ _ _ hb (h2 h), fun u hu hu' => ih _ _ _ he' (h3 u hu hu')⟩)
      · exact .inr (.inr ⟨hs, h1, fun h => hs _ _ _ hb (h2 h), fun u hu hu' => ih _ _ _ he' (h3 u hu hu')⟩)
    · rename_i hw
      rw [if_neg hw] at h
      exact ⟨h.1, ih _ _ _ he' h.2⟩

/-- Some way leads to operation j. -/
theorem Res.reach {L : Nat → Bool} {val : Nat → Value} {wr : World} {a0 : Act} {j : Nat} {oj : Oper} (y : Way S I) (g : Ok md ops n) (hj : j < n) (ho : ops[j]? = some oj) :
    ∀ (l : List Oper) (i : Nat) (Γ : List (Nat × (World → Prop))) (a : Act) (vh : Nat → Value) (mh : Nat) (wh : World), (∀ m, m < l.length → l[m]? = ops[i + m]?) → i + l.length = n → i ≤ j → Res P md ops S I M sp L val wr Q l i Γ a →
      Pt ops n (fun k => decide (k < i)) vh a0 a → (∀ k, k < i → L k = true → vh k = val k) → (∀ p ∈ Γ, Steady S p.2) → (∀ p ∈ Γ, L p.1 = true → p.2 wr) → mh + l.length ≤ M → S wr wh → I mh wh → (∀ p ∈ Γ, p.2 wh) →
      ∃ rest Γj aj vj, Res P md ops S I M sp L val wr Q (oj :: rest) j Γj aj ∧ Pt ops n (fun k => decide (k < j)) vj a0 aj ∧ (∀ k, k < j → L k = true → vj k = val k) ∧ (∀ p ∈ Γj, L p.1 = true → p.2 wr) := by
  intro l
  induction l with
  | nil => intro i Γ a vh mh wh _ hn hij; simp at hn; omega
  | cons o rest ih =>
    intro i Γ a vh mh wh hl hn hij h hpt hv hst hlr hmh hrh hBh hfh
    have hio : ops[i]? = some o := by simpa using (hl 0 (by simp)).symm
    by_cases e : i = j
    · subst e
      obtain rfl : o = oj := Option.some.inj (hio.symm.trans ho)
      exact ⟨rest, Γ, a, vh, h, hpt, hv, hlr⟩
    · have hlt : i < j := by omega
      have hin : i < n := by omega
      have hl' : ∀ m, m < rest.length → rest[m]? = ops[i + 1 + m]? := fun m hm => by
        have := hl (m + 1) (by simp; omega)
        simpa [Nat.add_assoc, Nat.add_comm 1 m] using this
      have hn' : i + 1 + rest.length = n := by simp at hn; omega
      have hm1 : mh + rest.length ≤ M ∧ mh + 1 + rest.length ≤ M ∧ mh < M := by simp at hmh; omega
      have hput : ∀ u, Pt ops n (fun k => decide (k < i + 1)) (upd vh i u) a0 (a.put o.dst u) := fun u => by
        have := hpt.put (u := u) g.one hin (by simp) hio
        have e2 : ins (fun k => decide (k < i)) i = fun k => decide (k < i + 1) := by
          funext k; simp only [ins]; rw [Bool.eq_iff_iff]; simp; omega
        rwa [e2] at this
      have hvu : ∀ u, (L i = true → u = val i) → ∀ k, k < i + 1 → L k = true → upd vh i u k = val k := fun u hu k hk hLk => by
        unfold upd
        by_cases e : k = i
        · subst e; rw [if_pos rfl]; exact hu hLk
        · rw [if_neg e]; exact hv k (by omega) hLk
      unfold Res at h
      split at h
      · rcases h with ⟨v, h1, h2, h3⟩ | ⟨Z, hs, h1, h2, h3⟩ | ⟨hs, h1, h2, h3⟩
        · exact ih _ _ _ _ mh wh hl' hn' (by omega) h3 (hput v) (hvu v fun h => (h2 h).symm) hst hlr hm1.1 hrh hBh hfh
        · cases hLi : L i with
          | true =>
            refine ih _ _ _ _ mh wh hl' hn' (by omega) (h3 (val i) (fun _ => rfl) (fun h => by rw [hLi] at h; cases h)) (hput _) (hvu _ fun _ => rfl) ?_ ?_ hm1.1 hrh hBh ?_
            · exact fun p hp => by rcases List.mem_cons.1 hp with rfl | hp; exact hs _; exact hst p hp
            · exact fun p hp hL => by rcases List.mem_cons.1 hp with rfl | hp; exact h2 hLi; exact hlr p hp hL
            · exact fun p hp => by rcases List.mem_cons.1 hp with rfl | hp; exact hs _ _ _ hrh (h2 hLi); exact hfh p hp
          | false =>
            have hx := h1 mh wh hm1.2.2 hBh fun p hp _ => hfh p hp
            have hgo : ∀ u w', (S wh w' ∧ I (mh + 1) w') ∧ Z u w' → _ := fun u w' hz =>
              ih (i + 1) ((i, Z u) :: Γ) (a.put o.dst u) (upd vh i u) (mh + 1) w' hl' hn' (by omega) (h3 u (fun h => by rw [hLi] at h; cases h) (fun _ => ⟨_, w', hz.1.2, hz.2⟩)) (hput u)
                (hvu u fun h => by rw [hLi] at h; cases h) (fun p hp => by rcases List.mem_cons.1 hp with rfl | hp; exact hs _; exact hst p hp)
                (fun p hp hL => by rcases List.mem_cons.1 hp with rfl | hp; (rw [hLi] at hL; cases hL); exact hlr p hp hL) hm1.2.1 (y.trans _ _ _ hrh hz.1.1) hz.1.2
                (fun p hp => by rcases List.mem_cons.1 hp with rfl | hp; exact hz.2; exact hst p hp _ _ hz.1.1 (hfh p hp))
            generalize (execOp a.eval o).run P wh = r at hx
            cases r with
            | ok x w' => cases x <;> simp only [fnUpon] at hx <;> exact hgo _ _ hx
            | halt x w' => exact hx.elim
        · cases hLi : L i with
          | true =>
            refine ih _ _ _ _ mh wh hl' hn' (by omega) (h3 (val i) (fun _ => rfl) (fun h => by rw [hLi] at h; cases h)) (hput _) (hvu _ fun _ => rfl) ?_ ?_ hm1.1 hrh hBh ?_
            · exact fun p hp => by rcases List.mem_cons.1 hp with rfl | hp; exact hs _; exact hst p hp
            · exact fun p hp hL => by rcases List.mem_cons.1 hp with rfl | hp; exact h2 hLi; exact hlr p hp hL
            · exact fun p hp => by rcases List.mem_cons.1 hp with rfl | hp; exact hs _ _ _ hrh (h2 hLi); exact hfh p hp
          | false =>
            have hx := h1 mh wh hm1.2.2 hBh fun p hp _ => hfh p hp
            have hgo : ∀ u w', (S wh w' ∧ I (mh + 1) w') ∧ sp i u w' → _ := fun u w' hz =>
              ih (i + 1) ((i, sp i u) :: Γ) (a.put o.dst u) (upd vh i u) (mh + 1) w' hl' hn' (by omega) (h3 u (fun h => by rw [hLi] at h; cases h) (fun _ => ⟨_, w', hz.1.2, hz.2⟩)) (hput u)
                (hvu u fun h => by rw [hLi] at h; cases h) (fun p hp => by rcases List.mem_cons.1 hp with rfl | hp; exact hs _; exact hst p hp)
                (fun p hp hL => by rcases List.mem_cons.1 hp with rfl | hp; (rw [hLi] at hL; cases hL); exact hlr p hp hL) hm1.2.1 (y.trans _ _ _ hrh hz.1.1) hz.1.2
                (fun p hp => by rcases List.mem_cons.1 hp with rfl | hp; exact hz.2; exact hst p hp _ _ hz.1.1 (hfh p hp))
            generalize (execOp a.eval o).run P wh = r at hx
            cases r with
            | ok x w' =>
              cases x <;> simp only [callUpon] at hx
              obtain ⟨_, hc⟩ := hx
              obtain ⟨e', w'', _, ⟨u, _, hz⟩, _⟩ := hc []
              exact hgo u w'' hz
            | halt x w' => exact hx.elim
      · exact ih _ _ _ _ mh wh hl' hn' (by omega) h.2 (hput undef) (hvu undef fun hL => (h.1 hL).symm) hst hlr hm1.1 hrh hBh hfh

theorem Res.mark {L : Nat → Bool} {val : Nat → Value} {wr w1 : World} {a0 ar : Act} {j mr m1 : Nat} {oj : Oper} {u : Value} (g : Ok md ops n) (hj : j < n) (ho : ops[j]? = some oj) (hLj : L j = false)
    (hp : ∀ k ∈ predsOf md ops j, L k = true) (hdep : ∀ k, depB md ops j k = true → L k = true) (hr : Pt ops n L val a0 ar) (hmr : mr < M) (hBr : I mr wr) (hb : S wr w1) (hB1 : I m1 w1) (hout : Outc P ops sp j oj ar wr u w1) :
    ∀ (l : List Oper) (i : Nat) (Γ : List (Nat × (World → Prop))) (a : Act) (vh : Nat → Value), (∀ m, m < l.length → l[m]? = ops[i + m]?) → i + l.length = n → i ≤ j → Res P md ops S I M sp L val wr Q l i Γ a →
      Pt ops n (fun k => decide (k < i)) vh a0 a → (∀ k, k < i → L k = true → vh k = val k) → (∀ p ∈ Γ, L p.1 = true → p.2 wr) → Res P md ops S I M sp (ins L j) (upd val j u) w1 Q l i Γ a := by
  intro l
  induction l with
  | nil => intro i Γ a vh _ hn hij; simp at hn; omega
  | cons o rest ih =>
    intro i Γ a vh hl hn hij h hpt hv hlr
    have hio : ops[i]? = some o := by simpa using (hl 0 (by simp)).symm
    by_cases e : i = j
    · subst e
      obtain rfl : o = oj := Option.some.inj (hio.symm.trans ho)
      obtain ⟨hex, hwt⟩ := g.same hr hpt hj ho hp hv
      have hins : ins L i i = true := by simp [ins]
      have hupd : upd val i u i = u := by simp [upd]
      have hafter : ∀ k, i + 1 ≤ k → ins L i k = L k ∧ upd val i u k = val k := fun k hk => by
        have : k ≠ i := by omega
        simp [ins, upd, this]
      have hF : FactsAt md ops i Γ wr := fun p hp' hd => hlr p hp' (hdep _ hd)
      unfold Res at h ⊢
      rw [hins, hupd]
      unfold Outc at hout
      rw [← hex, ← hwt] at hout
      split
      · rename_i hw
        rw [if_pos hw] at h hout
        rcases h with ⟨v, h1, h2, h3⟩ | ⟨Z, hs, h1, h2, h3⟩ | ⟨hs, h1, h2, h3⟩
        · have hx := h1 mr wr hmr hBr
          have huv : u = v := by
            generalize (execOp a.eval o).run P wr = r at hx hout
            cases r with
            | ok x w' => cases x <;> simp only [fnUpon] at hx <;> simp only at hout <;> rw [← hout.1, hx.1]
            | halt x w' => exact hx.elim
          exact .inl ⟨v, h1, fun _ => huv, Res.later hb _ _ _ _ hafter h3⟩
        · have hx := h1 mr wr hmr hBr hF
          have hz : Z u w1 := by
            generalize (execOp a.eval o).run P wr = r at hx hout
            cases r with
            | ok x w' => cases x <;> simp only [fnUpon] at hx <;> simp only at hout <;> (obtain ⟨rfl, rfl⟩ := hout; exact hx.2)
            | halt x w' => exact hx.elim
          refine .inr (.inl ⟨Z, hs, h1, fun _ => hz, fun u' hu' _ => ?_⟩)
          obtain rfl := hu' rfl
          exact Res.later hb _ _ _ _ hafter (h3 u' (fun h => by rw [hLj] at h; cases h) (fun _ => ⟨m1, w1, hB1, hz⟩))
        · have hx := h1 mr wr hmr hBr hF
          have hz : sp i u w1 := by
            generalize (execOp a.eval o).run P wr = r at hx hout
            cases r with
            | ok x w' => cases x <;> simp only [callUpon] at hx; exact hout
            | halt x w' => exact hx.elim
          refine .inr (.inr ⟨hs, h1, fun _ => hz, fun u' hu' _ => ?_⟩)
          obtain rfl := hu' rfl
          exact Res.later hb _ _ _ _ hafter (h3 u' (fun h => by rw [hLj] at h; cases h) (fun _ => ⟨m1, w1, hB1, hz⟩))
      · rename_i hw
        rw [if_neg hw] at h hout
        exact ⟨fun _ => hout.1.symm, Res.later hb _ _ _ _ hafter h.2⟩
    · have hlt : i < j := by omega
      have hin : i < n := by omega
      have hl' : ∀ m, m < rest.length → rest[m]? = ops[i + 1 + m]? := fun m hm => by
        have := hl (m + 1) (by simp; omega)
        simpa [Nat.add_assoc, Nat.add_comm 1 m] using this
      have hn' : i + 1 + rest.length = n := by simp at hn; omega
      have hput : ∀ u, Pt ops n (fun k => decide (k < i + 1)) (upd vh i u) a0 (a.put o.dst u) := fun u => by
        have := hpt.put (u := u) g.one hin (by simp) hio
        have e2 : ins (fun k => decide (k < i)) i = fun k => decide (k < i + 1) := by
          funext k; simp only [ins]; rw [Bool.eq_iff_iff]; simp; omega
        rwa [e2] at this
      have hvu : ∀ u, (L i = true → u = val i) → ∀ k, k < i + 1 → L k = true → upd vh i u k = val k := fun u hu k hk hLk => by
        unfold upd
        by_cases e : k = i
        · subst e; rw [if_pos rfl]; exact hu hLk
        · rw [if_neg e]; exact hv k (by omega) hLk
      have hins : ins L j i = L i := by simp [ins, e]
      have hupd : upd val j u i = val i := by simp [upd, e]
      unfold Res at h ⊢
      rw [hins, hupd]
      split
      · rename_i hw
        rw [if_pos hw] at h
        rcases h with ⟨v, h1, h2, h3⟩ | ⟨Z, hs, h1, h2, h3⟩ | ⟨hs, h1, h2, h3⟩
        · exact .inl ⟨v, h1, h2, ih _ _ _ _ hl' hn' (by omega) h3 (hput v) (hvu v fun h => (h2 h).symm) hlr⟩
        · exact .inr (.inl ⟨Z, hs, h1, fun h => hs _ _ _ hb (h2 h), fun u' hu hu' => ih _ _ _ _ hl' hn' (by omega) (h3 u' hu hu') (hput u') (hvu u' hu) fun p hp hL => by
            rcases List.mem_cons.1 hp with rfl | hp
            · rw [hu hL]; exact h2 hL
            · exact hlr p hp hL⟩)
        · exact .inr (.inr ⟨hs, h1, fun h => hs _ _ _ hb (h2 h), fun u' hu hu' => ih _ _ _ _ hl' hn' (by omega) (h3 u' hu hu') (hput u') (hvu u' hu) fun p hp hL => by
            rcases List.mem_cons.1 hp with rfl | hp
            · rw [hu hL]; exact h2 hL
            · exact hlr p hp hL⟩)
      · rename_i hw
        rw [if_neg hw] at h
        exact ⟨h.1, ih _ _ _ _ hl' hn' (by omega) h.2 (hput undef) (hvu undef fun hL => (h.1 hL).symm) hlr⟩

/-- All have come up. -/
theorem Res.over {L : Nat → Bool} {val : Nat → Value} {wr : World} {a0 : Act} (g : Ok md ops n) (hL : ∀ k, k < n → L k = true) :
    ∀ (l : List Oper) (i : Nat) (Γ : List (Nat × (World → Prop))) (a : Act) (vh : Nat → Value), (∀ m, m < l.length → l[m]? = ops[i + m]?) → i + l.length = n → Res P md ops S I M sp L val wr Q l i Γ a →
      Pt ops n (fun k => decide (k < i)) vh a0 a → (∀ k, k < i → vh k = val k) → (∀ p ∈ Γ, p.2 wr) → ∃ Γ' a' vh', Q Γ' a' ∧ Pt ops n (fun k => decide (k < n)) vh' a0 a' ∧ (∀ k, k < n → vh' k = val k) ∧ ∀ p ∈ Γ', p.2 wr := by
  intro l
  induction l with
  | nil =>
    intro i Γ a vh _ hn h hpt hv hf
    obtain rfl : i = n := by simpa using hn
    exact ⟨Γ, a, vh, h, hpt, hv, hf⟩
  | cons o rest ih =>
    intro i Γ a vh hl hn h hpt hv hf
    have hio : ops[i]? = some o := by simpa using (hl 0 (by simp)).symm
    have hin : i < n := by simp at hn; omega
    have hLi := hL i hin
    have hl' : ∀ m, m < rest.length → rest[m]? = ops[i + 1 + m]? := fun m hm => by
      have := hl (m + 1) (by simp; omega)
      simpa [Nat.add_assoc, Nat.add_comm 1 m] using this
    have hn' : i + 1 + rest.length = n := by simp at hn; omega
    have hput : ∀ u, Pt ops n (fun k => decide (k < i + 1)) (upd vh i u) a0 (a.put o.dst u) := fun u => by
      have := hpt.put (u := u) g.one hin (by simp) hio
      have e2 : ins (fun k => decide (k < i)) i = fun k => decide (k < i + 1) := by
        funext k; simp only [ins]; rw [Bool.eq_iff_iff]; simp; omega
      rwa [e2] at this
    have hvu : ∀ u, u = val i → ∀ k, k < i + 1 → upd vh i u k = val k := fun u hu k hk => by
      unfold upd
      by_cases e : k = i
      · subst e; rw [if_pos rfl]; exact hu
      · rw [if_neg e]; exact hv k (by omega)
    unfold Res at h
    split at h
    · rcases h with ⟨v, h1, h2, h3⟩ | ⟨Z, hs, h1, h2, h3⟩ | ⟨hs, h1, h2, h3⟩
      · exact ih _ _ _ _ hl' hn' h3 (hput v) (hvu v (h2 hLi).symm) hf
      · exact ih _ _ _ _ hl' hn' (h3 (val i) (fun _ => rfl) (fun h => by rw [hLi] at h; cases h)) (hput _) (hvu _ rfl) fun p hp => by
          rcases List.mem_cons.1 hp with rfl | hp
          exact h2 hLi; exact hf p hp
      · exact ih _ _ _ _ hl' hn' (h3 (val i) (fun _ => rfl) (fun h => by rw [hLi] at h; cases h)) (hput _) (hvu _ rfl) fun p hp => by
          rcases List.mem_cons.1 hp with rfl | hp
          exact h2 hLi; exact hf p hp
    · exact ih _ _ _ _ hl' hn' h.2 (hput undef) (hvu undef (h.1 hLi).symm) hf

/-- One operation comes up. -/
theorem Res.step {Qx : Exit → Act → World → Prop} {L : Nat → Bool} {val : Nat → Value} {wr : World} {a0 ar : Act} {j mr : Nat} {oj : Oper} {l : List Oper} (y : Way S I) (g : Ok md ops n) (hj : j < n) (ho : ops[j]? = some oj)
    (hLj : L j = false) (hp : ∀ k ∈ predsOf md ops j, L k = true) (hdep : ∀ k, depB md ops j k = true → L k = true) (hr : Pt ops n L val a0 ar) (hmr : mr + n ≤ M) (hBr : I mr wr) (hl : ∀ m, m < l.length → l[m]? = ops[m]?) (hn : l.length = n)
    (h : Res P md ops S I M sp L val wr Q l 0 [] a0) :
    wpOp P ops Qx j (fun a' w' => ∃ u, a' = ar.put oj.dst u ∧ I (mr + 1) w' ∧ Res P md ops S I M sp (ins L j) (upd val j u) w' Q l 0 [] a0) ar wr := by
  have pt0 : ∀ v, Pt ops n (fun k => decide (k < 0)) v a0 a0 := fun v => ⟨rfl, fun k t _ hS => by simp at hS, fun _ _ => rfl⟩
  have hl0 : ∀ m, m < l.length → l[m]? = ops[0 + m]? := fun m hm => by rw [Nat.zero_add]; exact hl m hm
  have hmM : mr < M := by omega
  have after : ∀ u w1, S wr w1 → I (mr + 1) w1 → Outc P ops sp j oj ar wr u w1 → (∃ u', ar.put oj.dst u = ar.put oj.dst u' ∧ I (mr + 1) w1 ∧ Res P md ops S I M sp (ins L j) (upd val j u') w1 Q l 0 [] a0) := fun u w1 hb hB1 hout =>
    ⟨u, rfl, hB1, Res.mark g hj ho hLj hp hdep hr hmM hBr hb hB1 hout l 0 [] a0 val hl0 (by omega) (Nat.zero_le _) h (pt0 _) (fun k hk => by omega) (fun p hp => by cases hp)⟩
  obtain ⟨rest, Γ, a, vh, hres, hpt, hv, hlr⟩ := Res.reach (j := j) y g hj ho l 0 [] a0 val mr wr hl0 (by omega) (Nat.zero_le _) h (pt0 _) (fun k hk => by omega) (fun p hp => by cases hp) (fun p hp => by cases hp) (by omega) (y.refl _) hBr (fun p hp => by cases hp)
  obtain ⟨hex, hwt⟩ := g.same hr hpt hj ho hp hv
  have hF : FactsAt md ops j Γ wr := fun p hp' hd => hlr p hp' (hdep _ hd)
  unfold wpOp
  simp only [ho]
  unfold Res at hres
  rw [hex, hwt] at hres
  split
  · rename_i hw
    rw [if_pos hw] at hres
    refine .inl ?_
    unfold Oper.wp
    have hout : ∀ u w1, (match (execOp ar.eval oj).run P wr with | .ok (.value v) w' => v = u ∧ w' = w1 | .ok .skip w' => undef = u ∧ w' = w1 | .ok (.enter _ _) _ => sp j u w1 | _ => False) → Outc P ops sp j oj ar wr u w1 := fun u w1 h => by
      unfold Outc; rw [if_pos hw]; exact h
    rcases hres with ⟨v, h1, h2, h3⟩ | ⟨Z, hs, h1, h2, h3⟩ | ⟨hs, h1, h2, h3⟩
    · have hx := h1 mr wr hmM hBr
      cases hrun : (execOp ar.eval oj).run P wr with
      | ok x w' =>
        rw [hrun] at hx hout
        cases x <;> simp only [fnUpon] at hx <;> simp only [Oper.upon]
        case value v' => exact after _ _ (by rw [hx.2]; exact y.refl _) (by rw [hx.2]; exact y.more _ _ hBr) (hout _ _ ⟨rfl, rfl⟩)
        case skip => exact after _ _ (by rw [hx.2]; exact y.refl _) (by rw [hx.2]; exact y.more _ _ hBr) (hout _ _ ⟨rfl, rfl⟩)
      | halt x w' => rw [hrun] at hx; exact hx.elim
    · have hx := h1 mr wr hmM hBr hF
      cases hrun : (execOp ar.eval oj).run P wr with
      | ok x w' =>
        rw [hrun] at hx hout
        cases x <;> simp only [fnUpon] at hx <;> simp only [Oper.upon]
        case value v' => exact after _ _ hx.1.1 hx.1.2 (hout _ _ ⟨rfl, rfl⟩)
        case skip => exact after _ _ hx.1.1 hx.1.2 (hout _ _ ⟨rfl, rfl⟩)
      | halt x w' => rw [hrun] at hx; exact hx.elim
    · have hx := h1 mr wr hmM hBr hF
      cases hrun : (execOp ar.eval oj).run P wr with
      | ok x w' =>
        rw [hrun] at hx hout
        cases x <;> simp only [callUpon] at hx
        simp only [Oper.upon]
        obtain ⟨rfl, hc⟩ := hx
        exact hc.mono fun e w'' ⟨u, he, hb, hz⟩ => by subst he; exact after u w'' hb.1 hb.2 (hout _ _ hz)
      | halt x w' => rw [hrun] at hx; exact hx.elim
  · rename_i hw
    rw [if_neg hw] at hres
    exact after _ _ (y.refl _) (y.more _ _ hBr) (by unfold Outc; rw [if_neg hw]; exact ⟨rfl, rfl⟩)

/-- Operations that the walk need not wait for (Z) have been carried out; the others behind the first n have not. -/
structure HInv (md : Region.Mode) (ops : Array Oper) (n : Nat) (Z : Nat → Bool) (listed : Array Bool) : Prop where
  size : listed.size = ops.size
  closed : ∀ j oj, ops[j]? = some oj → listed.getD j false = true → ∀ e ∈ oj.after, Region.binds md e = true → listed.getD e.on false = true
  tail : ∀ t, n ≤ t → t < ops.size → Z t = false → listed.getD t true = false
  zin : ∀ t, n ≤ t → t < ops.size → Z t = true → listed.getD t false = true
theorem HInv.set {Z : Nat → Bool} {i : Nat} {listed : Array Bool} (inv : HInv md ops n Z listed) (hi : i ∈ Region.ready md ops listed) (hin : i < n) : HInv md ops n Z (listed.setIfInBounds i true) := by
  obtain ⟨_, oi, hoi, hall⟩ := mem_ready.1 hi
  refine ⟨by simp [inv.size], fun j oj hj hl e he hb => ?_, fun t ht ht' hz => by rw [getD_set_ne true (by omega)]; exact inv.tail t ht ht' hz, fun t ht ht' hz => getD_set_true (inv.zin t ht ht' hz)⟩
  by_cases hij : i = j
  · subst hij
    have : oj = oi := Option.some.inj (hj.symm.trans hoi)
    subst this
    exact getD_set_true (hall e he hb)
  · rw [getD_set_ne false hij] at hl
    exact getD_set_true (inv.closed j oj hj hl e he hb)
def canonZ (ops : Array Oper) (n : Nat) (Z : Nat → Bool) : Array Bool := ((List.range ops.size).map fun k => decide (k < n) || Z k).toArray
/-- The operations that operation j waits for, at once or through others. -/
def needs (md : Region.Mode) (ops : Array Oper) (j : Nat) : List Nat := upset md ops ops.size (predsOf md ops j)

theorem grow_any {Qx : Exit → Act → World → Prop} {a0 : Act} {l : List Oper} {Z : Nat → Bool} {m1 : Nat} (y : Way S I) (g : Ok md ops n) (hM : 2 * n ≤ M) (hwait : ∀ t, n ≤ t → t < ops.size → Z t = false → ∀ i, i < n → i ∈ needs md ops t) (hl : ∀ m, m < l.length → l[m]? = ops[m]?) (hn : l.length = n)
    (hQ : ∀ Γ a w, Q Γ a → I n w → (∀ p ∈ Γ, p.2 w) → wpAny P md ops Qx m1 (canonZ ops n Z) a w) :
    ∀ (f : Nat) (listed : Array Bool) (ar : Act) (mr : Nat) (wr : World) (val : Nat → Value), (List.range n).countP (fun k => !listed.getD k false) = f → HInv md ops n Z listed → Pt ops n (fun k => listed.getD k false) val a0 ar → mr + f = n → I mr wr →
      Res P md ops S I M sp (fun k => listed.getD k false) val wr Q l 0 [] a0 → wpAny P md ops Qx (f + m1) listed ar wr := by
  intro f
  induction f with
  | zero =>
    intro listed ar mr wr val hc inv hpt hmr hB h
    have hall : ∀ k, k < n → listed.getD k false = true := fun k hk => by
      have := List.countP_eq_zero.1 hc k (List.mem_range.2 hk)
      simpa using this
    obtain ⟨Γ, a, vh, hq, hpa, hv, hf⟩ := Res.over g hall l 0 [] a0 val (fun m hm => by rw [Nat.zero_add]; exact hl m hm) (by omega) h ⟨rfl, fun k t _ hS => by simp at hS, fun _ _ => rfl⟩ (fun k hk => by omega) (fun p hp => by cases hp)
    have hcan : listed = canonZ ops n Z := by
      apply Array.ext_getElem?
      intro k
      unfold canonZ
      by_cases hks : k < ops.size
      · have hks' : k < listed.size := by rw [inv.size]; exact hks
        by_cases hkn : k < n
        · have := hall k hkn
          simp [hks, hks', hkn] at this ⊢
          exact this
        · cases hz : Z k
          · have := inv.tail k (by omega) hks hz
            simp [hks, hks', hkn, hz] at this ⊢
            exact this
          · have := inv.zin k (by omega) hks hz
            simp [hks, hks', hkn, hz] at this ⊢
            exact this
      · have hks' : ¬ k < listed.size := by rw [inv.size]; exact hks
        simp [hks, hks']
    have hfr : ar = a := by
      have h1 : ar.defers = a.defers := hpt.defers.trans hpa.defers.symm
      have h2 : ar.tmps = a.tmps := Array.ext_getElem? fun t => hpt.agree hpa fun k hk _ => ⟨by simp [hk, hall k hk], fun _ => (hv k hk).symm⟩
      cases ar; cases a; simp_all
    obtain rfl : mr = n := by omega
    rw [Nat.zero_add, hcan, hfr]
    exact hQ Γ a wr hq hB hf
  | succ f ih =>
    intro listed ar mr wr val hc inv hpt hmr hB h
    have hex : ∃ k, k < n ∧ listed.getD k false = false := by
      have : 0 < (List.range n).countP (fun k => !listed.getD k false) := by omega
      obtain ⟨k, hk, hp⟩ := List.countP_pos_iff.1 this
      exact ⟨k, List.mem_range.1 hk, by simpa using hp⟩
    obtain ⟨k0, hk0, hun0⟩ := hex
    obtain ⟨m, hm, hm1, hm2⟩ := least_of (p := fun k => !listed.getD k false) k0 (by simpa using hun0)
    have hmn : m < n := by omega
    have hms : m < listed.size := by rw [inv.size]; have := g.size; omega
    have hun : listed.getD m true = false := getD_in hms (by simpa using hm1)
    have hready : m ∈ Region.ready md ops listed := by
      have hmo : m < ops.size := by have := g.size; omega
      refine mem_ready.2 ⟨hun, ops[m], by simp [hmo], fun e he hb => ?_⟩
      have : e.on < m := g.back m hmn _ (by
        unfold predsOf
        rw [Array.getElem?_eq_getElem hmo]
        exact List.mem_map.2 ⟨e, List.mem_filter.2 ⟨by simpa using he, hb⟩, rfl⟩)
      have := hm2 _ this
      simpa using this
    have e1 : f + 1 + m1 = (f + m1) + 1 := by omega
    rw [e1]
    refine ⟨fun h0 => absurd (h0 ▸ hready) (by simp), fun j hj => ?_⟩
    obtain ⟨hju, oj, hoj, hall⟩ := mem_ready.1 hj
    have hjs : j < ops.size := (Array.getElem?_eq_some_iff.1 hoj).1
    have hp : ∀ k ∈ predsOf md ops j, listed.getD k false = true := fun k hk => by
      unfold predsOf at hk
      rw [hoj] at hk
      obtain ⟨e, he, rfl⟩ := List.mem_map.1 hk
      obtain ⟨he1, he2⟩ := List.mem_filter.1 he
      exact hall e (by simpa using he1) he2
    have hcl : ∀ i, listed.getD i false = true → ∀ k ∈ predsOf md ops i, listed.getD k false = true := fun i hi k hk => by
      unfold predsOf at hk
      cases hoi : ops[i]? with
      | none => rw [hoi] at hk; cases hk
      | some oi =>
        rw [hoi] at hk
        obtain ⟨e, he, rfl⟩ := List.mem_map.1 hk
        obtain ⟨he1, he2⟩ := List.mem_filter.1 he
        exact inv.closed i oi hoi hi e (by simpa using he1) he2
    have hjn : j < n := by
      rcases Nat.lt_or_ge j n with h | h
      · exact h
      · cases hz : Z j
        · have := upset_in hcl _ _ hp m (hwait j h hjs hz m hmn)
          rw [getD_both hun] at this
          cases this
        · have h1 := inv.zin j h hjs hz
          have hjl : j < listed.size := by rw [inv.size]; exact hjs
          simp [hjl] at h1 hju
          rw [h1] at hju
          cases hju
    have hdep : ∀ k, depB md ops j k = true → listed.getD k false = true := fun k hk => by
      unfold depB at hk
      exact upset_in hcl _ _ hp k (by simpa using hk)
    have hset : (fun k => (listed.setIfInBounds j true).getD k false) = ins (fun k => listed.getD k false) j := by
      funext k
      unfold ins
      by_cases e : k = j
      · subst e
        have : k < listed.size := by rw [inv.size]; exact hjs
        simp [this]
      · rw [getD_set_ne false (Ne.symm e)]
        simp [e]
    have hjf : listed.getD j false = false := getD_both hju
    refine wpOp_mono (fun a' w' ⟨u, he, hB', hres⟩ => ?_) (Res.step (Qx := Qx) y g hjn hoj hjf hp hdep hpt (by omega) hB hl hn h)
    subst he
    have hpt' := hpt.put (u := u) g.one hjn hjf hoj
    rw [← hset] at hres hpt'
    refine ih _ _ (mr + 1) _ _ ?_ (inv.set hj hjn) hpt' (by omega) hB' hres
    have := count_off n (fun k => !listed.getD k false) j hjn (by simpa using hjf)
    rw [hc] at this
    have e3 : (List.range n).countP (fun k => !(listed.setIfInBounds j true).getD k false) = (List.range n).countP (fun k => (!listed.getD k false) && k != j) := List.countP_congr fun k _ => by
      have := congrFun hset k
      simp only [ins] at this
      rw [this]
      by_cases e : k = j <;> simp [e]
    omega

theorem Res.fresh {val val' : Nat → Value} {wr w1 : World} : ∀ (l : List Oper) (i : Nat) (Γ : List (Nat × (World → Prop))) (a : Act), Res P md ops S I M sp (fun _ => false) val wr Q l i Γ a → Res P md ops S I M sp (fun _ => false) val' w1 Q l i Γ a := by
  intro l
  induction l with
  | nil => intro i Γ a h; exact h
  | cons o rest ih =>
    intro i Γ a h
    unfold Res at h ⊢
    split
    · rename_i hw
      rw [if_pos hw] at h
      rcases h with ⟨v, h1, h2, h3⟩ | ⟨Z, hs, h1, h2, h3⟩ | ⟨hs, h1, h2, h3⟩
      · exact .inl ⟨v, h1, (fun h => by cases h), ih _ _ _ h3⟩
      · exact .inr (.inl ⟨Z, hs, h1, (fun h => by cases h), fun u _ hu' => ih _ _ _ (h3 u (fun h => by cases h) hu')⟩)
      · exact .inr (.inr ⟨hs, h1, (fun h => by cases h), fun u _ hu' => ih _ _ _ (h3 u (fun h => by cases h) hu')⟩)
    · rename_i hw
      rw [if_neg hw] at h
      exact ⟨(fun h => by cases h), ih _ _ _ h.2⟩
end

/-- The walk that a prover makes: nothing has been carried out yet. -/
abbrev wpGrow (P : Program) (ops : Array Oper) (S : World → World → Prop) (I : Nat → World → Prop) (M : Nat) (w0 : World) (sp : Nat → Value → World → Prop) (Q : List (Nat × (World → Prop)) → Act → Prop) (l : List Oper) (i : Nat) (Γ : List (Nat × (World → Prop))) (a : Act) : Prop :=
  Res P .any ops S I M sp (fun _ => false) (fun _ => undef) w0 Q l i Γ a

def seqT (md : Region.Mode) (ops : Array Oper) : List Nat → Array Bool → Bool
  | [], listed => (Region.ready md ops listed).isEmpty
  | k :: τ, listed => decide (Region.ready md ops listed = [k]) && seqT md ops τ (listed.setIfInBounds k true)
theorem wpAny_of_seqT {P : Program} {md : Region.Mode} {ops : Array Oper} {Q' : Exit → Act → World → Prop} : ∀ (τ : List Nat) (listed : Array Bool) (a : Act) (w : World), (∀ k ∈ τ, k < ops.size) →
    seqT md ops τ listed = true → wpList P ops Q' (τ.filterMap (ops[·]?)) a w → wpAny P md ops Q' τ.length listed a w
  | [], _, _, _, _, hB, h => ⟨by simpa [seqT] using hB, h⟩
  | k :: τ, listed, a, w, hl, hB, h => by
    have hk : k < ops.size := hl k List.mem_cons_self
    have h0 : ops[k]? = some ops[k] := Array.getElem?_eq_getElem hk
    simp only [seqT, Bool.and_eq_true, decide_eq_true_eq] at hB
    rw [List.filterMap_cons, h0] at h
    refine ⟨fun h1 => (by rw [hB.1] at h1; cases h1), fun i hi => ?_⟩
    rw [hB.1] at hi
    have hik : i = k := by simpa using hi
    subst hik
    have hw : wpOp P ops Q' i (wpList P ops Q' (τ.filterMap (ops[·]?))) a w := by unfold wpOp; simp only [h0]; exact h
    exact wpOp_mono (fun a' w' h' => wpAny_of_seqT τ _ a' w' (fun k hk => hl k (List.mem_cons_of_mem _ hk)) hB.2 h') hw

def okB (md : Region.Mode) (ops : Array Oper) (n : Nat) : Bool :=
  Region.noSelect ops && decide (n ≤ ops.size) &&
  (List.range n).all fun j => (predsOf md ops j).all (fun k => decide (k < j)) && (List.range n).all fun k =>
    match dstOf ops k with
    | none => true
    | some t => (k == j || dstOf ops j != some t) && (!(looksOf ops j).contains t || (predsOf md ops j).contains k)
theorem okB_ok {md : Region.Mode} {ops : Array Oper} {n : Nat} (h : okB md ops n = true) : Ok md ops n := by
  unfold okB at h
  simp only [Bool.and_eq_true, decide_eq_true_eq] at h
  obtain ⟨⟨h1, h2⟩, h4⟩ := h
  have key : ∀ j, j < n → _ := fun j hj => List.all_eq_true.1 h4 j (List.mem_range.2 hj)
  simp only [Bool.and_eq_true] at key
  refine ⟨h1, h2, fun j hj k hk => by simpa using List.all_eq_true.1 (key j hj).1 k hk, fun i k t hi hk hdi hdk => ?_, fun j k t hj hk hd ht => ?_⟩
  · have := List.all_eq_true.1 (key i hi).2 k (List.mem_range.2 hk)
    simp only [hdk, hdi, Bool.and_eq_true, Bool.or_eq_true, beq_iff_eq, bne_self_eq_false, Bool.false_eq_true, or_false] at this
    exact this.1.symm
  · have := List.all_eq_true.1 (key j hj).2 k (List.mem_range.2 hk)
    simp only [hd, Bool.and_eq_true, Bool.or_eq_true] at this
    rcases this.2 with h | h
    · simp [ht] at h
    · simpa using h
def waitB (md : Region.Mode) (ops : Array Oper) (n : Nat) (Z : Nat → Bool) : Bool :=
  (List.range ops.size).all fun t => decide (t < n) || Z t || (List.range n).all fun i => (needs md ops t).contains i
theorem waitB_ok {md : Region.Mode} {ops : Array Oper} {n : Nat} {Z : Nat → Bool} (h : waitB md ops n Z = true) : ∀ t, n ≤ t → t < ops.size → Z t = false → ∀ i, i < n → i ∈ needs md ops t := fun t h1 h2 hz i hi => by
  have := List.all_eq_true.1 h t (List.mem_range.2 h2)
  have h3 : ¬ t < n := by omega
  simp only [hz, h3, decide_false, Bool.false_or] at this
  simpa using List.all_eq_true.1 this i (List.mem_range.2 hi)
/-- No operation is taken ahead; those behind the first n come in the order τ. -/
def growTB (md : Region.Mode) (ops : Array Oper) (n : Nat) (τ : List Nat) : Bool :=
  okB md ops n && waitB md ops n (fun _ => false) && seqT md ops τ (canonZ ops n fun _ => false) && decide (n + τ.length = ops.size) && τ.all fun k => decide (k < ops.size)
theorem wp_region {P : Program} {id : Nat} {Qx : Exit → Act → World → Prop} {a : Act} {w : World} {l : List Oper} (n : Nat) (τ : List Nat) (M : Nat) (S : World → World → Prop) (I : Nat → World → Prop) (sp : Nat → Value → World → Prop) (hm : P.follows .mixedOrders = true) (hg : growTB .any l.toArray n τ = true)
    (y : Way S I) (hM : 2 * n ≤ M) (hC : I 0 w.drew)
    (h : wpGrow P l.toArray S I M w sp (fun Γ a' => ∀ w', I n w' → (∀ p ∈ Γ, p.2 w') → wpList P l.toArray Qx (τ.filterMap (l[·]?)) a' w') (l.take n) 0 [] a) : (Code.region id l.toArray true).wp P Qx a w := by
  unfold growTB at hg
  simp only [Bool.and_eq_true, decide_eq_true_eq] at hg
  obtain ⟨⟨⟨⟨g1, g2⟩, g3⟩, g4⟩, g5⟩ := hg
  have g := okB_ok g1
  have hsz : n ≤ l.length := by simpa using g.size
  have htl : (l.take n).length = n := by simp; omega
  have hrep : (fun k => (Array.replicate l.toArray.size false).getD k false) = fun _ => false := funext fun k => getD_replicate_false _ _
  have key0 : ∀ L a w, wpAny P .any l.toArray Qx (n + τ.length) L a w → wpAny P .any l.toArray Qx l.toArray.size L a w := fun _ _ _ h => by rwa [← g4]
  refine wp_region_any hm (key0 _ _ _ ?_)
  refine grow_any (Qx := Qx) (P := P) (sp := sp) (S := S) (I := I) (M := M) (a0 := a) (l := l.take n) (Z := fun _ => false) (m1 := τ.length) (Q := fun Γ a' => ∀ w', I n w' → (∀ p ∈ Γ, p.2 w') → wpList P l.toArray Qx (τ.filterMap (l[·]?)) a' w') y g hM (waitB_ok g2) (fun m hm' => by rw [htl] at hm'; simp [hm']) htl (fun Γ a' w' hq hb hf =>
    wpAny_of_seqT τ _ a' w' (fun k hk => of_decide_eq_true (List.all_eq_true.1 g5 k hk)) g3 (by simpa using hq w' hb hf)) n _ a 0 { w with drawn := w.drawn + 1 } (fun _ => undef) ?_ ?_ ?_ (by omega) (show I 0 w.drew from hC) ?_
  · rw [List.countP_eq_length.2 (fun k _ => by rw [getD_replicate_false]; rfl)]; simp
  · exact ⟨by simp, fun j oj _ hl => (by rw [getD_replicate_false] at hl; cases hl), fun t _ ht _ => getD_in (by simpa using ht) (getD_replicate_false _ _), fun t _ _ hz => by cases hz⟩
  · rw [hrep]; exact ⟨rfl, fun k t _ hS => by simp at hS, fun _ _ => rfl⟩
  · rw [hrep]
    exact Res.fresh _ _ _ _ h

/-- Every world of a kind, as a family (what is not so is replaced by w1). -/
noncomputable def FamI (J : World → Prop) (w1 x : World) : World := open Classical in if J x then x else w1
theorem FamI.is {J : World → Prop} {w1 : World} (h : J w1) (x : World) : J (FamI J w1 x) := by
  unfold FamI
  split
  · assumption
  · exact h
theorem FamI.of {J : World → Prop} {w w1 : World} (h : J w) : ∃ x, w = FamI J w1 x := ⟨w, by unfold FamI; rw [if_pos h]⟩

/-- Some m below M. -/
def Upto (I : Nat → World → Prop) (M : Nat) (w : World) : Prop := ∃ m, m < M ∧ I m w

section
variable {P : Program} {ops : Array Oper} {M : Nat} {S : World → World → Prop} {I : Nat → World → Prop} {sp : Nat → Value → World → Prop} {w0 w1 : World}
variable {Q : List (Nat × (World → Prop)) → Act → Prop} {o : Oper} {rest : List Oper} {i : Nat} {Γ : List (Nat × (World → Prop))} {a : Act}
theorem grow_nil (h : Q Γ a) : wpGrow P ops S I M w0 sp Q [] i Γ a := h
theorem grow_skip (hw : Region.wanted o (yielded ops a.tmps) = false) (h : wpGrow P ops S I M w0 sp Q rest (i + 1) Γ (a.put o.dst undef)) : wpGrow P ops S I M w0 sp Q (o :: rest) i Γ a := by
  unfold wpGrow Res
  rw [if_neg (by simp [hw])]
  exact ⟨(fun h => by cases h), h⟩

theorem grow_quiet (w1 : World) (hw : Region.wanted o (yielded ops a.tmps) = true) (hf : fnOp o = true)
    (h : ∀ K : Act → Prop, (∀ a, wpGrow P ops S I M w0 sp Q rest (i + 1) Γ a → K a) → o.quiet P a (fun w => ∃ x, w = FamI (Upto I M) w1 x) K) : wpGrow P ops S I M w0 sp Q (o :: rest) i Γ a := by
  obtain ⟨v, h1, h2⟩ := h _ fun _ h => h
  unfold wpGrow Res
  rw [if_pos hw]
  refine .inl ⟨v, fun m w hm hb => ?_, (fun h => by cases h), h2⟩
  have hq := h1 w (FamI.of ⟨m, hm, hb⟩)
  unfold Oper.quietAt at hq
  cases hr : (execOp a.eval o).run P w with
  | ok x w' =>
    rw [hr] at hq
    cases x <;> simp only [Oper.quietUpon] at hq
    case value u => exact ⟨hq.2, hq.1⟩
    case skip => exact ⟨hq.2.symm, hq.1⟩
    case enter f args => exact absurd hr (fnOp_run hf _ _ _ _ _)
  | halt x w' => rw [hr] at hq; exact hq.elim

/-- An operation that makes a block: its value hangs on the block's number alone. -/
theorem grow_new {K : Nat → Prop} (hw : Region.wanted o (yielded ops a.tmps) = true) (B : Nat) (mk : Nat → Value) (T : TypeId) (cs : Array Value) (hrun : ∀ w, (execOp a.eval o).run P w = .ok (.value (mk w.heap.size)) (w.alloc (.cells cs T)))
    (hS : S = KeepB K) (hI : ∀ m w o, I m w → I (m + 1) (w.alloc o)) (hB : ∀ m w, I m w → B ≤ w.heap.size) (hK : ∀ k, K k → k < B)
    (h : ∀ b, B ≤ b → wpGrow P ops S I M w0 sp Q rest (i + 1) ((i, fun w' => ∃ b', mk b = mk b' ∧ B ≤ b' ∧ w'.heap[b']? = some (.cells cs T (0, 0))) :: Γ) (a.put o.dst (mk b))) : wpGrow P ops S I M w0 sp Q (o :: rest) i Γ a := by
  subst hS
  unfold wpGrow Res
  rw [if_pos hw]
  refine .inr (.inl ⟨fun u w' => ∃ b', u = mk b' ∧ B ≤ b' ∧ w'.heap[b']? = some (.cells cs T (0, 0)), fun u w w' hb ⟨b', h1, h2, h3⟩ => ⟨b', h1, h2, ?_⟩, fun m w hm hb _ => ?_, (fun h => by cases h), fun u _ hu => ?_⟩)
  · rw [hb.block b' (by
      rcases Nat.lt_or_ge b' w.heap.size with h | h
      · exact h
      · rw [Array.getElem?_eq_none h] at h3; cases h3) (fun hk => by have := hK _ hk; omega), h3]
  · rw [hrun]
    exact ⟨⟨(KeepB.refl _ _).alloc _, hI _ _ _ hb⟩, w.heap.size, rfl, hB _ _ hb, heap_alloc_new w _⟩
  · obtain ⟨_, w', _, b', rfl, h2, _⟩ := hu rfl
    exact h b' h2

/-- A call of a Go function. -/
theorem grow_call (hw : Region.wanted o (yielded ops a.tmps) = true) (hs : ∀ u, Steady S (sp i u))
    (hc : ∀ m w, m < M → I m w → FactsAt .any ops i Γ w → callUpon P w (fun e w' => ∃ u, e = .returned u ∧ (S w w' ∧ I (m + 1) w') ∧ sp i u w') ((execOp a.eval o).run P w))
    (h : ∀ u, (∃ m w', I m w' ∧ sp i u w') → wpGrow P ops S I M w0 sp Q rest (i + 1) ((i, sp i u) :: Γ) (a.put o.dst u)) : wpGrow P ops S I M w0 sp Q (o :: rest) i Γ a := by
  unfold wpGrow Res
  rw [if_pos hw]
  exact .inr (.inr ⟨hs, hc, (fun h => by cases h), fun u _ hu => h u (hu rfl)⟩)
/-- A call of a Go function whose value is known. -/
theorem grow_val (v : Value) (hw : Region.wanted o (yielded ops a.tmps) = true) (hsp : sp i = fun u _ => u = v)
    (hc : ∀ m w, m < M → I m w → FactsAt .any ops i Γ w → callUpon P w (fun e w' => e = .returned v ∧ S w w' ∧ I (m + 1) w') ((execOp a.eval o).run P w))
    (h : wpGrow P ops S I M w0 sp Q rest (i + 1) ((i, fun _ => v = v) :: Γ) (a.put o.dst v)) : wpGrow P ops S I M w0 sp Q (o :: rest) i Γ a := by
  refine grow_call hw (fun u => by rw [hsp]; exact fun _ _ _ h => h) (fun m w hm hb hf => ?_) fun u ⟨_, w', _, hu⟩ => ?_
  · have hx := hc m w hm hb hf
    generalize (execOp a.eval o).run P w = r at hx ⊢
    cases r with
    | ok x w' =>
      cases x <;> simp only [callUpon] at hx ⊢
      exact ⟨hx.1, hx.2.mono fun e w'' ⟨he, hb⟩ => ⟨v, he, hb, by rw [hsp]⟩⟩
    | halt x w' => exact hx.elim
  · rw [hsp] at hu
    subst hu
    rw [hsp]
    exact h
end
/-- Worlds that are as w0 but for what has been made since. -/
def BI (w0 : World) : Nat → World → Prop := fun _ w => Below w0.heap.size w0 w
theorem BI.way (w0 : World) : Way (KeepB fun _ => False) (BI w0) := ⟨fun w => KeepB.refl _ w, fun _ _ _ h k => h.trans k, fun _ _ h => h⟩
theorem BI.fam (w0 x : World) : Below w0.heap.size w0 (FamI (Upto (BI w0) 200) w0 x) := by
  obtain ⟨_, _, h⟩ := FamI.is (J := Upto (BI w0) 200) (w1 := w0) ⟨0, by omega, Below.refl _ _⟩ x
  exact h
theorem BI.cell {w0 : World} {b o : Nat} {v : Value} (h : w0.cell? ⟨b, o, none⟩ = some v) (x : World) : (FamI (Upto (BI w0) 200) w0 x).cell? ⟨b, o, none⟩ = some v := by
  rw [(BI.fam w0 x).cell (World.block_lt_of_cell? _ _ h)]
  exact h
theorem BI.after {w0 w w' : World} {m : Nat} (h : BI w0 m w) (hb : Below w.heap.size w w') : KeepB (fun _ => False) w w' ∧ BI w0 (m + 1) w' := ⟨KeepB.of_below hb, h.trans (hb.mono h.size)⟩
theorem BI.alloc {w0 w : World} {m : Nat} (o : Obj) (h : BI w0 m w) : BI w0 (m + 1) (w.alloc o) := (h.after ((Below.refl _ _).alloc (Nat.le_refl _) _)).2
theorem BI.size {w0 w : World} {m : Nat} (h : BI w0 m w) : w0.heap.size ≤ w.heap.size := Below.size h
end GK
end AG

/- The laws' agAutomata; marks in automata that came back, and whether they are held. -/
namespace Go.Proofs.YtjhlbeamfngebaaDoor
open Go.RowKit Go.BigFrame AG

set_option maxRecDepth 100000 in
set_option maxHeartbeats 2000000 in
theorem agAutomata_any (a b : Au) (A B C D : Option Addr) (c d f g : Nat) (w : World) (hr : AuAt w A c B d a) (hs : AuAt w C f D g b) :
    Calls Tryd.prog 16 #[a.val A c B d, b.val C f D g] w fun e w' => e = .returned (.bool (decide (a = b))) ∧ Below w.heap.size w w' := by
  obtain ⟨aa, an, ac⟩ := a
  obtain ⟨ba, bn, bc⟩ := b
  have hsp : Hid (decide (({ al := aa, nx := an, ac := ac } : Au) = { al := ba, nx := bn, ac := bc }) = (decide (aa = ba) && (decide (an = bn) && decide (ac = bc)))) := hid (by simp)
  obtain ⟨cl, cm, dl, dm, hr1, hr2⟩ := hr
  obtain ⟨fl, fm, gl, gm, hs1, hs2⟩ := hs
  dsimp only at cl dl fl gl hr1 hr2 hs1 hs2
  unfold AG.Au.val
  replace hr1 := hid hr1
  replace hr2 := hid hr2
  replace hs1 := hid hs1
  replace hs2 := hid hs2
  go_enter Tryd.func16, Tryd.ntmps16
  obtain ⟨w0, hw0, hz0, hB0, hS, hU⟩ := boxed2 w #[Value.int IntKind.i64 aa, Value.slice A an.length c, Value.slice B ac.length d] 26 #[Value.int IntKind.i64 ba, Value.slice C bn.length f, Value.slice D bc.length g] 26
  have p0 := hS 0 _ rfl _ (Below.refl _ _)
  have p1 := hS 1 _ rfl _ (Below.refl _ _)
  have p2 := hS 2 _ rfl _ (Below.refl _ _)
  have q0 := hU 0 _ rfl _ (Below.refl _ _)
  have q1 := hU 1 _ rfl _ (Below.refl _ _)
  have q2 := hU 2 _ rfl _ (Below.refl _ _)
  by_cases ha : aa = ba
  case neg =>
    have ha' : (aa != ba) = true := by simpa using ha
    have hd : decide (aa = ba) = false := decide_eq_false ha
    replace ha := hid ha
    go_wp2
    go_ret
    exact ⟨ret_bool (by first | rfl | (rw [hsp.out, hd]; rfl)), hB0⟩
  subst ha
  by_cases hln : an.length = bn.length
  case neg =>
    have ha' : ((an.length : Int) != (bn.length : Int)) = true := by simp; omega
    have hd : decide (an = bn) = false := decide_eq_false fun e => hln (by rw [e])
    replace hln := hid hln
    go_wp2
    go_ret
    exact ⟨ret_bool (by first | rfl | (rw [hsp.out, hd]; simp)), hB0⟩
  have hln' : ((an.length : Int) != (bn.length : Int)) = false := by simp; omega
  have haa : (aa != aa) = false := by simp
  replace hln := hid hln
  go_wp2_with fail
  refine (agBools_any ac bc B D d g w0 dl dm gl gm (hr2.out.later hB0) (hs2.out.later hB0)).mono ?_
  rintro e w1 ⟨rfl, hb1⟩
  have hB1 := hB0.trans (hb1.mono hB0.size)
  have hC1 := hb1.mono hz0
  clear p0 p1 p2 q0 q1 q2
  by_cases hac : ac = bc
  case neg =>
    have hd : decide (ac = bc) = false := decide_eq_false hac
    replace hac := hid hac
    rw [hd]
    go_wp2
    go_ret
    exact ⟨ret_bool (by first | rfl | (rw [hsp.out, hd]; simp)), hB1⟩
  have hd : decide (ac = bc) = true := decide_eq_true hac
  replace hac := hid hac
  rw [hd]
  have hz1 := hb1.size
  go_wp2_with fail
  go_loopw [5] (fun i wr => ∃ k : Nat, i = .int .i64 k ∧ k ≤ an.length ∧ (∀ i (h : i < an.length) (h' : i < bn.length), i < k → an[i] = bn[i]) ∧ Below w1.heap.size w1 wr) (fun i _ => an.length - (intOf i).toNat)
  case atStart => exact ⟨0, rfl, by omega, by intro i _ _ h; omega, Below.refl _ _⟩
  case round =>
    obtain ⟨k, rfl, hk, heq, hb⟩ := hrel
    have hCr := hC1.trans (hb.mono (by omega))
    have p1 := hS 1 _ rfl _ hCr
    have q1 := hU 1 _ rfl _ hCr
    by_cases hlt : k < an.length
    · have hrr := hr1.out.later hB1
      have hss := hs1.out.later hB1
      obtain ⟨b, o, hA, hB, hE⟩ := hrr (by omega)
      have hkb : k < bn.length := by have := hln.out; omega
      obtain ⟨b', o', hA', hB', hF⟩ := hss (by omega)
      subst hA
      subst hA'
      obtain ⟨Ai, ci, e0, hAl, hAc, hAe⟩ := hE k hlt
      obtain ⟨Bi, di, f0, hBl, hBc, hBe⟩ := hF k hkb
      have k1 : (0 : Int) ≤ (k : Int) ∧ (k : Int) < (an.length : Int) ∧ (k : Int) < (bn.length : Int) := by omega
      replace hE := hid hE
      replace hF := hid hF
      have g0 : ∀ x, (Fam w1.heap.size w1 x).cell? ⟨b, o + k, none⟩ = some (.slice Ai an[k].length ci) := fun x => by rw [(Fam.below w1.heap.size w1 x).cell (by simpa using hB)]; exact e0
      have i0 : ∀ x, (Fam w1.heap.size w1 x).cell? ⟨b', o' + k, none⟩ = some (.slice Bi bn[k].length di) := fun x => by rw [(Fam.below w1.heap.size w1 x).cell (by simpa using hB')]; exact f0
      have u1 := fun x => hS 1 _ rfl _ (hC1.trans ((Fam.below w1.heap.size w1 x).mono (by omega)))
      have v1 := fun x => hU 1 _ rfl _ (hC1.trans ((Fam.below w1.heap.size w1 x).mono (by omega)))
      clear e0 f0
      have hAe' := hid (fun x => hAe.later (Fam.below w1.heap.size w1 x))
      have hBe' := hid (fun x => hBe.later (Fam.below w1.heap.size w1 x))
      clear hAe hBe
      replace hrr := hid hrr
      replace hss := hid hss
      cases hq : decide (an[k] = bn[k])
      all_goals
        replace hq := hid hq
        replace heq := hid heq
        go_wp2_with fail
        clear p1 q1
        refine wp_region_fam w1.heap.size w1 (by kernel_rfl) (by kernel_rfl) hb ?_
        (repeat (go_big_quiet_step ((refine (agInts_any an[k] bn[k] Ai Bi ci di _ hAl hAc hBl hBc (hAe'.out _) (hBe'.out _)).mono ?_; rintro e w2 ⟨rfl, hb2⟩; exact ⟨by rw [hq.out], Fam.next (Nat.le_refl _) hb2⟩))))
        refine wpQuiet_nil ?_
        intro w2 hw2
        replace hw2 := Fam.out hw2
        clear u1 v1 g0 i0
        go_wp2
      · go_ret
        exact ⟨ret_bool (by
          have := hq.out
          rw [decide_eq_false_iff_not] at this
          rw [eq_comm, hsp.out, show decide (an = bn) = false from decide_eq_false fun h => this (by subst h; rfl)]
          simp), hB1.trans (hw2.mono hB1.size)⟩
      · go_roundw
        case rel =>
          refine ⟨k + 1, by go_num, by omega, fun i hi hi' hik => ?_, hw2⟩
          by_cases e : i = k
          · subst e; exact of_decide_eq_true hq.out
          · exact heq.out i hi hi' (by omega)
        case measure => simp [intOf]; omega
    · replace heq := hid heq
      go_wp2
      go_ret
      exact ⟨ret_bool (by
        rw [eq_comm, hsp.out, show decide (an = bn) = true from decide_eq_true (List.ext_getElem hln.out fun i hi hi' => heq.out i hi hi' (by omega)), hd]
        simp), hB1.trans (hb.mono hB1.size)⟩

end Go.Proofs.YtjhlbeamfngebaaDoor

/- The laws' marks in automata that came back, and whether they are held. -/
namespace Go.Proofs.YtjhlbeamfngebaaDoor
open Go.RowKit Go.BigFrame AG

/-- A row is written anew. -/
theorem RowsOwn.set_ {w w' : World} {base : Nat} {v : Value} {l1 l2 : List RowV} {x x' : RowV} (h : RowsOwn w base v (l1 ++ x :: l2)) (hk : KeepB (fun b => x.v.ownBlock = some b) w w') (hv : x'.v = x.v)
    (ho : w'.ownsRow base 3 1 x'.v x'.r.length (intVals x'.r)) : RowsOwn w' base v (l1 ++ x' :: l2) := by
  obtain ⟨h1, h2, h3⟩ := h
  have hx := h2 x (by simp)
  rw [List.pairwise_append, List.pairwise_cons] at h3
  refine ⟨?_, fun y hy => ?_, ?_⟩
  · have e : rowVals (l1 ++ x' :: l2) = rowVals (l1 ++ x :: l2) := by unfold rowVals; simp [hv]
    rw [e]
    have e2 : (l1 ++ x' :: l2).length = (l1 ++ x :: l2).length := by simp
    rw [e2]
    exact own_keep h1 hk fun g hg e => own_ne_own h1 hx (by decide) g g hg e rfl
  · rw [List.mem_append, List.mem_cons] at hy
    rcases hy with hy | rfl | hy
    · exact own_keep (h2 y (by simp [hy])) hk fun g hg e => h3.2.2 y hy x List.mem_cons_self g hg e
    · exact ho
    · exact own_keep (h2 y (by simp [hy])) hk fun g hg e => h3.2.1.1 y hy g e hg
  · rw [List.pairwise_append, List.pairwise_cons]
    refine ⟨h3.1, ⟨fun y hy => by rw [hv]; exact h3.2.1.1 y hy, h3.2.1.2⟩, fun a ha b hb => ?_⟩
    rcases List.mem_cons.1 hb with rfl | hb
    · rw [hv]; exact h3.2.2 a ha x List.mem_cons_self
    · exact h3.2.2 a ha b (List.mem_cons_of_mem _ hb)

end Go.Proofs.YtjhlbeamfngebaaDoor

/- Plain: what the automaton of sets accepts; numberings that are alike. -/
namespace AG

def auOk (a : Au) : Bool := decide (alphaOk a.al = true ∧ 1 ≤ a.nx.length ∧ a.nx.length ≤ 12 ∧ a.ac.length = a.nx.length ∧ ∀ r ∈ a.nx, r.length = (letters a.al).length ∧ ∀ q ∈ r, 0 ≤ q ∧ q < (a.nx.length : Int))
/-- The state to which a letter leads; a letter that the automaton does not have leads nowhere else. -/
def goA (a : Au) (q l : Nat) : Nat := if l ∈ letters a.al then ((a.nx.getD q []).getD ((letters a.al).idxOf l) 0).toNat else q
def runA (a : Au) (q : Nat) : List Nat → Nat
  | [] => q
  | l :: r => goA a (runA a q r) l
def accA (a : Au) (r : List Nat) : Bool := a.ac.getD (runA a 0 r) false
theorem numRes_spec {nx : Nat → Nat → Nat} {L : List Nat} {n0 lim : Nat} {x : List Nat × List (List Nat)} (h : numRes nx L n0 lim = some x) :
    x.1 = nsAt nx L n0 lim ∧ x.2 = x.1.map (rowOf nx L x.1) ∧ x.1.Nodup ∧ n0 ∈ x.1 ∧ x.1.idxOf n0 = 0 ∧ (∀ a ∈ x.1, ∀ l ∈ L, nx a l ∈ x.1) := by
  unfold numRes at h
  split at h
  · rename_i hl
    injection h with h
    subst h
    obtain ⟨h1, h2⟩ := nsAt_pos nx L n0 lim
    have h3 : (nsAt nx L n0 lim)[0] = n0 := by rw [List.getElem?_eq_getElem h1] at h2; injection h2
    refine ⟨rfl, rfl, nsAt_nodup _ _ _ _, List.mem_of_getElem? h2, ?_, fun a ha l hl2 => ?_⟩
    · have := (nsAt_nodup nx L n0 lim).idxOf_getElem 0 h1
      rw [h3] at this
      exact this
    · obtain ⟨i, hi, rfl⟩ := List.getElem_of_mem ha
      have hi' : i < (nsAt nx L n0 lim).length := hi
      have hil : i < lim := by omega
      have hii : i < (nsAt nx L n0 i).length := by
        rcases Nat.lt_or_ge i (nsAt nx L n0 i).length with h | h
        · exact h
        · have := nsAt_stop h (lim - i)
          rw [show i + (lim - i) = lim from by omega] at this
          rw [this] at hi'
          omega
      obtain ⟨m, hm⟩ := nsAt_pre nx L n0 i (lim - i)
      rw [show i + (lim - i) = lim from by omega] at hm
      obtain ⟨m2, hm2⟩ := nsAt_pre nx L n0 (i + 1) (lim - (i + 1))
      rw [show i + 1 + (lim - (i + 1)) = lim from by omega] at hm2
      have e : (nsAt nx L n0 lim)[i] = (nsAt nx L n0 i)[i] := by
        simp only [hm]
        rw [List.getElem_append_left hii]
      show nx (nsAt nx L n0 lim)[i] l ∈ nsAt nx L n0 lim
      rw [e, hm2]
      exact List.mem_append_left _ (nsAt_closed hii hl2)
  · cases h

theorem getD_map_of_lt {α β : Type} (f : α → β) (l : List α) (i : Nat) (d : β) (h : i < l.length) : (l.map f).getD i d = f l[i] := by
  rw [List.getD_eq_getElem?_getD, List.getElem?_eq_getElem (by simpa using h), List.getElem_map]
  rfl
/-- Numberings of two sets of nodes that are alike. -/
theorem addN_map {f : Nat → Nat} {ns : List Nat} {x : Nat} (hf : ∀ a ∈ ns, f a = f x → a = x) : addN (ns.map f) (f x) = (addN ns x).map f := by
  unfold addN
  by_cases h : x ∈ ns
  · rw [if_pos h, if_pos (List.mem_map_of_mem h)]
  · rw [if_neg h, if_neg (fun hm => by
      obtain ⟨a, ha, e⟩ := List.mem_map.1 hm
      exact h (hf a ha e ▸ ha)), List.map_append]
    rfl
theorem rowN_map {f : Nat → Nat} {nx nx' : Nat → Nat → Nat} {P : Nat → Prop} {a : Nat} (hinj : ∀ a b, P a → P b → f a = f b → a = b) : ∀ (M ns : List Nat), (∀ y ∈ ns, P y) → (∀ l ∈ M, P (nx a l) ∧ nx' (f a) l = f (nx a l)) → rowN nx' (f a) (ns.map f) M = (rowN nx a ns M).map f
  | [], _, _, _ => rfl
  | l :: M, ns, h1, h2 => by
    obtain ⟨h3, h4⟩ := h2 l List.mem_cons_self
    show rowN nx' (f a) (addN (ns.map f) (nx' (f a) l)) M = _
    rw [h4, addN_map fun y hy e => hinj _ _ (h1 y hy) h3 e]
    refine rowN_map hinj M (addN ns (nx a l)) (fun y hy => ?_) fun y hy => h2 y (List.mem_cons_of_mem _ hy)
    unfold addN at hy
    split at hy
    · exact h1 y hy
    · rcases List.mem_append.1 hy with hy | hy
      · exact h1 y hy
      · rw [List.mem_singleton.1 hy]; exact h3
theorem nsAt_map {f : Nat → Nat} {nx nx' : Nat → Nat → Nat} {P : Nat → Prop} {L : List Nat} {n0 : Nat} (h0 : P n0) (hinj : ∀ a b, P a → P b → f a = f b → a = b) (hs : ∀ a, P a → ∀ l ∈ L, P (nx a l) ∧ nx' (f a) l = f (nx a l)) :
    ∀ i, nsAt nx' L (f n0) i = (nsAt nx L n0 i).map f
  | 0 => rfl
  | i + 1 => by
    have ih := nsAt_map h0 hinj hs i
    have hP := nsAt_all (P := P) (nx := nx) (L := L) h0 (fun a ha l hl => (hs a ha l hl).1) i
    by_cases h : i < (nsAt nx L n0 i).length
    · have h' : i < (nsAt nx' L (f n0) i).length := by rw [ih]; simpa using h
      have e : (nsAt nx' L (f n0) i)[i] = f (nsAt nx L n0 i)[i] := by simp only [ih]; rw [List.getElem_map]
      rw [nsAt_succ h', nsAt_succ h, e, ih]
      exact rowN_map hinj L _ hP (hs _ (hP _ (List.getElem_mem h)))
    · have h' : ¬ i < (nsAt nx' L (f n0) i).length := by rw [ih]; simpa using h
      have e1 := nsAt_stop (nx := nx) (L := L) (n0 := n0) (i := i) (by omega) 1
      have e2 := nsAt_stop (nx := nx') (L := L) (n0 := f n0) (i := i) (by omega) 1
      rw [e1, e2, ih]
theorem idxOf_map {f : Nat → Nat} {x : Nat} : ∀ {ns : List Nat}, (∀ a ∈ ns, f a = f x → a = x) → (ns.map f).idxOf (f x) = ns.idxOf x
  | [], _ => rfl
  | a :: ns, h => by
    rw [List.map_cons, List.idxOf_cons, List.idxOf_cons, idxOf_map fun b hb => h b (List.mem_cons_of_mem _ hb)]
    by_cases e : a = x
    · subst e; simp
    · have : f a ≠ f x := fun e' => e (h a List.mem_cons_self e')
      rw [show (f a == f x) = false from by simpa using this, show (a == x) = false from by simpa using e]
theorem numRes_map {f : Nat → Nat} {nx nx' : Nat → Nat → Nat} {P : Nat → Prop} {L : List Nat} {n0 lim : Nat} (h0 : P n0) (hinj : ∀ a b, P a → P b → f a = f b → a = b) (hs : ∀ a, P a → ∀ l ∈ L, P (nx a l) ∧ nx' (f a) l = f (nx a l)) :
    numRes nx' L (f n0) lim = (numRes nx L n0 lim).map fun x => (x.1.map f, x.2) := by
  have hP := nsAt_all (P := P) (nx := nx) (L := L) h0 (fun a ha l hl => (hs a ha l hl).1) lim
  unfold numRes
  rw [nsAt_map h0 hinj hs, List.length_map]
  split
  · rw [Option.map_some, List.map_map]
    congr 2
    refine List.map_congr_left fun a ha => ?_
    unfold rowOf
    refine List.map_congr_left fun l hl => ?_
    obtain ⟨h1, h2⟩ := hs a (hP a ha) l hl
    rw [h2]
    exact idxOf_map fun b hb e => hinj _ _ (hP b hb) h1 e
  · rfl

end AG

/- Contracts of the program's small functions on letters and edges. -/
namespace Go.Proofs.YtjhlbeamfngebaaDoor
open Go.RowKit Go.BigFrame AG
attribute [local go_sem] Fam.below

set_option maxHeartbeats 400000 in
theorem isAlphabet_any (a : Int) (w : World) :
    Calls Tryd.prog 87 #[.int .i64 a] w fun e w' => e = .returned (.bool (alphaOk a)) ∧ w = w' := by
  go_enter Tryd.func87, Tryd.ntmps87
  go_wp2
  all_goals go_ret
  all_goals exact ⟨ret_bool (by unfold alphaOk; simp; omega), rfl⟩

set_option maxHeartbeats 400000 in
theorem has_any (a n : Int) (w : World) (h1 : n ≤ 63) :
    Calls Tryd.prog 94 #[.int .i64 a, .int .i64 n] w fun e w' => e = .returned (.bool (HasZ a n)) ∧ w = w' := by
  by_cases h0 : 0 ≤ n
  · go_enter Tryd.func94, Tryd.ntmps94
    go_wp2
    go_ret
    exact ⟨ret_bool (by unfold HasZ; rw [← and_one_has]; simp [h0]), rfl⟩
  · go_enter Tryd.func94, Tryd.ntmps94
    go_wp2
    go_ret
    exact ⟨ret_bool (by unfold HasZ; rw [decide_eq_false (show ¬ 0 ≤ n by omega)]; rfl), rfl⟩

end Go.Proofs.YtjhlbeamfngebaaDoor

/- The program's SystemValid returns sysOk. -/
namespace Go.Proofs.YtjhlbeamfngebaaDoor
open Go.RowKit Go.BigFrame AG
attribute [local go_sem] Fam.below

end Go.Proofs.YtjhlbeamfngebaaDoor

/- The program's moves, and the states that it reaches. -/
namespace Go.Proofs.YtjhlbeamfngebaaDoor
open Go.RowKit Go.BigFrame AG

/-- The library's table lies as its initialiser lays it. -/
def Tab (w : World) : Prop := ∀ j, j < Lib.deBruijn64tab.length → w.cell? ⟨1, j, none⟩ = some (.int .u8 (Lib.deBruijn64tab.getD j 0))

theorem Tab.later {w w' : World} (h : Tab w) (hb : Below w.heap.size w w') : Tab w' := fun j hj => by
  have := h j hj
  rw [hb.cell (World.block_lt_of_cell? _ _ this)]
  exact this

end Go.Proofs.YtjhlbeamfngebaaDoor

/- The reference's l1Text. -/
namespace Go.Proofs.YtjhlbeamfngebaaDoor
open Go.RowKit Go.BigFrame AG

/-- A letter's byte. -/
def letB (l : Nat) : UInt8 := UInt8.ofNat (97 + l)

set_option maxHeartbeats 1000000 in
theorem l1Text_any (l : Nat) (h : l < 6) (w : World) :
    Calls Tryd.prog 104 #[.int .i64 l] w fun e w' => e = .returned (.string ⟨#[letB l]⟩) ∧ Below w.heap.size w w' := by
  have hb : ((letB l).toNat : Int) = 97 + (l : Int) := by
    unfold letB
    rw [UInt8.toNat_ofNat']
    omega
  have kc : (convert 22 9 (.slice (some ⟨w.heap.size, 0, none⟩) 1 1)).run Tryd.prog (w.alloc (Obj.cells #[Value.int IntKind.u8 (97 + (l : Int))] 5)) = .ok (.string ⟨#[letB l]⟩) (w.alloc (Obj.cells #[Value.int IntKind.u8 (97 + (l : Int))] 5)) :=
    run_convert_bytes_back (P := Tryd.prog) _ 22 9 5 ⟨w.heap.size, 0, none⟩ 1 [letB l] Tryd.underlying22 Tryd.underlying5 Tryd.underlying9 (fun j hj => by
      obtain rfl : j = 0 := by simpa using hj
      rw [List.getElem_cons_zero, hb]
      simp [Addr.add])
  replace hb := hid hb
  go_enter Tryd.func104, Tryd.ntmps104
  go_wp2_with fail
  go_ret
  exact ⟨rfl, by (repeat (first | exact Below.refl _ _ | assumption | refine Below.drew ?_ | refine Below.alloc ?_ (by first | omega | (simp; done) | (simp; omega)) _ | refine Below.setCell ?_ (by first | omega | (simp; done) | (simp; omega)) _))⟩

end Go.Proofs.YtjhlbeamfngebaaDoor

/- The program's sameAlphabets, lettersOf, letterByte, members. -/
namespace Go.Proofs.YtjhlbeamfngebaaDoor
open Go.RowKit Go.BigFrame AG

set_option maxRecDepth 100000 in
set_option maxHeartbeats 400000 in
theorem letterByte_any (l : Nat) (h : l < 6) (w : World) :
    Calls Tryd.prog 88 #[.int .i64 l] w fun e w' => e = .returned (.int .u8 (97 + l : Nat)) ∧ w = w' := by
  go_enter Tryd.func88, Tryd.ntmps88
  go_wp2
  go_ret
  exact ⟨rfl, rfl⟩

set_option maxRecDepth 100000 in
set_option maxHeartbeats 1000000 in
theorem lettersOf_any (A : Int) (w : World) :
    Calls Tryd.prog 63 #[.int .i64 A] w fun e w' => ∃ v, e = .returned v ∧ OwnNats w' w.heap.size v (letters A) ∧ Below w.heap.size w w' := by
  obtain ⟨i0, hi, hz0, hz1, hz2⟩ := info_parts infoInt
  go_enter Tryd.func63, Tryd.ntmps63
  go_wp2_with fail
  go_loopw [3, 5] (fun v i wr => ∃ k : Nat, k ≤ 6 ∧ i = .int .i64 k ∧ OwnNats wr w.heap.size v (lettersTo A k) ∧ Below w.heap.size w wr) (fun _ i _ => 6 - (intOf i).toNat)
  case atStart =>
    refine ⟨0, by omega, rfl, ?_, by (repeat (first | exact Below.refl _ _ | assumption | refine Below.drew ?_ | refine Below.alloc ?_ (by first | omega | (simp; done) | (simp; omega)) _ | refine Below.setCell ?_ (by first | omega | (simp; done) | (simp; omega)) _))⟩
    exact World.ownsRow_nil _ _ _ _
  case round =>
    obtain ⟨k, hk, rfl, hown, hb⟩ := hrel
    have hz := hb.size
    have hlen := lettersTo_len A k
    by_cases hlt : k < 6
    · have hHZ : Hid (HasZ A (k : Int) = Has A k) := hid (by unfold HasZ; simp)
      cases hH : Has A k
      · replace hH := hid hH
        go_wp2_with (go_at_call 94; refine (has_any A k _ (by omega)).mono ?_; rintro e w' ⟨rfl, rfl⟩; rw [hHZ.out, hH.out])
        go_roundw
        case rel => exact ⟨k + 1, by omega, by go_num, by rw [lettersTo_succ, hH.out]; exact hown, hb⟩
        case measure => simp [intOf]; omega
      · replace hH := hid hH
        unfold OwnNats at hown
        go_wp2_with (first
          | (go_at_call 94; refine (has_any A k _ (by omega)).mono ?_; rintro e w' ⟨rfl, rfl⟩; rw [hHZ.out, hH.out])
          | (at_builtin; refine wpList_append_own _ rfl _ _ 72 rfl w.heap.size 3 i0 (.int .i64 0) 1 8 Tryd.underlying72 hi hz0 hz1 hz2 rfl (by decide) _ _ _ rfl (hown.alloc _) ⟨wr.heap.size, 0, none⟩ 1 1 [.int .i64 (k : Int)] rfl rfl (cell_one_new _ _ _) (by intro u hu; simp at hu; subst hu; rfl) (by unfold maxLen; omega) (by omega) (by simp; omega) ?_; intro v' w1 hown' hgrow _))
        have R := letters_next hz hH.out hown hb hown' hgrow
        clear hown' hgrow hown hb hlen
        go_roundw
        case rel => exact ⟨k + 1, by omega, by go_num, R.1, R.2⟩
        case measure => simp [intOf]; omega
    · obtain rfl : k = 6 := by omega
      go_wp2
      go_ret
      exact ⟨_, rfl, hown, hb⟩

end Go.Proofs.YtjhlbeamfngebaaDoor

/- Lists of pairs of sets in memory; the reference's l5Find. -/
namespace Go.Proofs.YtjhlbeamfngebaaDoor
open Go.RowKit Go.BigFrame AG

/-- The slice of pairs reads as ps, below block B. -/
def PairsAt (w : World) (B : Nat) (A : Option Addr) (ps : List (Nat × Nat)) : Prop :=
  0 < ps.length → ∃ b o, A = some ⟨b, o, none⟩ ∧ b < B ∧ ∀ i (h : i < ps.length), w.cell? ⟨b, o + i * 2, none⟩ = some (.int .i64 ps[i].1) ∧ w.cell? ⟨b, o + i * 2 + 1, none⟩ = some (.int .i64 ps[i].2)

end Go.Proofs.YtjhlbeamfngebaaDoor

/- The rows that the reference's search owns: pairs and words. -/
namespace Go.Proofs.YtjhlbeamfngebaaDoor
open Go.RowKit Go.BigFrame AG

/-- The word r (its last letter first) as a string. -/
def wordS (r : List Nat) : ByteArray := ⟨(r.reverse.map letB).toArray⟩
theorem wordS_cons (l : Nat) (r : List Nat) : wordS r ++ ⟨#[letB l]⟩ = wordS (l :: r) := by
  unfold wordS
  rw [List.reverse_cons, List.map_append]
  apply ByteArray.ext
  simp

theorem wordS_size (r : List Nat) : (wordS r).size = r.length := by unfold wordS; simp [ByteArray.size]

def pairCells : List (Nat × Nat) → List Value
  | [] => []
  | p :: ps => .int .i64 p.1 :: .int .i64 p.2 :: pairCells ps
theorem pairCells_append : ∀ ps qs : List (Nat × Nat), pairCells (ps ++ qs) = pairCells ps ++ pairCells qs
  | [], _ => rfl
  | p :: ps, qs => by rw [List.cons_append, pairCells, pairCells_append ps qs]; rfl
end Go.Proofs.YtjhlbeamfngebaaDoor

/- The library's slices.Reverse at bytes; the program's pathWord. -/
namespace Go.Proofs.YtjhlbeamfngebaaDoor
open Go.RowKit Go.BigFrame AG

/-- xs with its first k and its last k elements exchanged. -/
def revTo (xs : List Nat) (k p : Nat) : Option Value := (if p < k ∨ xs.length ≤ p + k then xs[xs.length - 1 - p]? else xs[p]?).map fun b => Value.int .u8 (b : Nat)
theorem revTo_at {xs : List Nat} {k p : Nat} (h : ¬ (p < k ∨ xs.length ≤ p + k)) (hp : p < xs.length) : revTo xs k p = some (.int .u8 (xs[p] : Nat)) := by unfold revTo; rw [if_neg h]; simp [hp]
theorem revTo_swap {xs : List Nat} {k p : Nat} (h : p < k ∨ xs.length ≤ p + k) (q : Nat) (hq : q < xs.length) (e : xs.length - 1 - p = q) : revTo xs k p = some (.int .u8 (xs[q] : Nat)) := by unfold revTo; rw [if_pos h, e]; simp [hq]

theorem grown_two {w : World} {g : Nat} (i j : Nat) (u v : Value) : w.grownBy ((w.setCell ⟨g, i, none⟩ u).setCell ⟨g, j, none⟩ v).drew (some g) :=
  ⟨rfl, rfl, rfl, by simp, fun k _ hne => by
    have hk : k ≠ g := fun e => hne (by rw [e])
    show ((w.setCell ⟨g, i, none⟩ u).setCell ⟨g, j, none⟩ v).heap[k]? = _
    rw [Below.heap_setCell _ _ _ _ hk, Below.heap_setCell _ _ _ _ hk]⟩

set_option maxRecDepth 100000 in
set_option maxHeartbeats 2000000 in
theorem reverseBytes_any (g n c : Nat) (xs : List Nat) (cs : Array Value) (w : World) (hx : xs.length = n) (hn : n ≤ c) (hc : c ≤ 9223372036854775807) (hb : Blk w g 5 cs) (hs : n ≤ cs.size) (hcs : ∀ i (h : i < xs.length), cs[i]? = some (.int .u8 (xs[i] : Nat))) :
    Calls Tryd.prog 89 #[.slice (some ⟨g, 0, none⟩) n c] w fun e w' => e = .returned (.tuple #[]) ∧ w.grownBy w' (some g) ∧ ∃ cs', Blk w' g 5 cs' ∧ cs'.size = cs.size ∧ ∀ i (h : i < xs.length), cs'[i]? = some (.int .u8 (xs.reverse[i]'(by simpa using h) : Nat)) := by
  subst hx
  have hstart : Hid (∀ p, p < xs.length → cs[p]? = revTo xs 0 p) := hid fun p hp => by
    rw [revTo_at (by omega) hp, hcs p hp]
  replace hb := hid hb
  replace hcs := hid hcs
  go_enter Tryd.func89, Tryd.ntmps89
  go_wp2_with fail
  go_loopw [2, 3] (fun iv jv wr => ∃ (k : Nat) (cs' : Array Value), iv = .int .i64 k ∧ jv = .int .i64 ((xs.length : Int) - 1 - k) ∧ 2 * k ≤ xs.length + 1 ∧ Blk wr g 5 cs' ∧ cs'.size = cs.size ∧ (∀ p, p < xs.length → cs'[p]? = revTo xs k p) ∧ w.grownBy wr (some g)) (fun iv _ _ => xs.length - (intOf iv).toNat)
  case atStart => exact ⟨0, cs, rfl, by simp, by omega, hb.out, rfl, hstart.out, ⟨rfl, rfl, rfl, Nat.le_refl _, fun _ _ _ => rfl⟩⟩
  case round =>
    obtain ⟨k, cs', rfl, rfl, hk, hblk, hsz, hrev, hgr⟩ := hrel
    by_cases hlt : 2 * k + 1 < xs.length
    · obtain ⟨j, hj⟩ : ∃ j, j + k + 1 = xs.length := ⟨xs.length - 1 - k, by omega⟩
      have e1 : ((xs.length : Int) - 1 - k) = (j : Int) := by omega
      rw [e1]
      have hkj : k < j := by omega
      have hk1 : k < xs.length := by omega
      have hj1 : j < xs.length := by omega
      have ck := hblk.cell k
      have cj := hblk.cell j
      rw [hrev k hk1, revTo_at (by omega) hk1] at ck
      rw [hrev j hj1, revTo_at (by omega) hj1] at cj
      have zk := hblk.frozen k
      have zj := hblk.frozen j
      have hnx : Hid (∀ p, p < xs.length → ((cs'.setIfInBounds k (.int .u8 (xs[j] : Nat))).setIfInBounds j (.int .u8 (xs[k] : Nat)))[p]? = revTo xs (k + 1) p) := hid fun p hp => by
        have hrp := hrev p hp
        by_cases h1 : p = j
        · subst h1
          rw [Array.getElem?_setIfInBounds_self_of_lt (by simp; omega), revTo_swap (by omega) k hk1 (by omega)]
        · rw [Array.getElem?_setIfInBounds_ne (Ne.symm h1)]
          by_cases h2 : p = k
          · subst h2
            rw [Array.getElem?_setIfInBounds_self_of_lt (by omega), revTo_swap (by omega) j hj1 (by omega)]
          · rw [Array.getElem?_setIfInBounds_ne (Ne.symm h2), hrp]
            by_cases h3 : p < k ∨ xs.length ≤ p + k
            · rw [revTo_swap h3 (xs.length - 1 - p) (by omega) rfl, revTo_swap (by omega) (xs.length - 1 - p) (by omega) rfl]
            · rw [revTo_at h3 hp, revTo_at (by omega) hp]
      obtain ⟨a, ha⟩ : ∃ a, a = xs[k] := ⟨_, rfl⟩
      obtain ⟨b, hb'⟩ : ∃ b, b = xs[j] := ⟨_, rfl⟩
      rw [← ha] at ck
      rw [← hb'] at cj
      replace ha := hid ha
      replace hb' := hid hb'
      replace hrev := hid hrev
      replace hblk := hid hblk
      replace hsz := hid hsz
      have i1 : (0 : Int) ≤ (k : Int) := by omega
      have i2 : (k : Int) < (xs.length : Int) := by omega
      have i3 : (0 : Int) ≤ (j : Int) := by omega
      have i4 : (j : Int) < (xs.length : Int) := by omega
      have i5 : (k : Int) < (j : Int) := by omega
      clear e1
      go_wp2_with fail
      go_region
      go_wp2
      go_roundw
      case rel =>
        refine ⟨k + 1, _, by go_num, ?_, by omega, (hblk.out.set_ _ _).set_ _ _, by simp; exact hsz.out, by rw [ha.out, hb'.out]; exact hnx.out, hgr.trans (grown_two _ _ _ _)⟩
        rw [show ((xs.length : Int) - 1 - ((k + 1 : Nat) : Int)) = (j : Int) - 1 from by omega]
      case measure => simp [intOf]; omega
    · have hfin : Hid (∀ i (h : i < xs.length), cs'[i]? = some (.int .u8 (xs.reverse[i]'(by simpa using h) : Nat))) := hid fun i hi => by
        rw [hrev i hi, List.getElem_reverse]
        by_cases h3 : i < k ∨ xs.length ≤ i + k
        · rw [revTo_swap h3 (xs.length - 1 - i) (by omega) rfl]
        · rw [revTo_at h3 hi]
          simp only [show xs.length - 1 - i = i from by omega]
      replace hrev := hid hrev
      replace hblk := hid hblk
      replace hsz := hid hsz
      have hge : ¬ ((k : Int) < (xs.length : Int) - 1 - k) := by omega
      go_wp2
      go_end0
      exact ⟨rfl, hgr, cs', hblk.out, hsz.out, fun i hi => by have := hfin.out i hi; simpa using this⟩

/-- A step of the search as it lies in memory: where its list of nodes lies. -/
structure StV where
  st : Stp
  A : Option Addr
  c : Nat
def stCells : List StV → List Value
  | [] => []
  | x :: xs => .int .i64 x.st.par :: .int .i64 (x.st.let_ : Nat) :: .slice x.A x.st.nodes.length x.c :: stCells xs
theorem stCells_append : ∀ xs ys : List StV, stCells (xs ++ ys) = stCells xs ++ stCells ys
  | [], _ => rfl
  | x :: xs, ys => by rw [List.cons_append, stCells, stCells_append xs ys]; rfl
theorem stCells_at : ∀ (xs : List StV) (i : Nat) (h : i < xs.length), (stCells xs)[i * 3]? = some (.int .i64 xs[i].st.par) ∧ (stCells xs)[i * 3 + 1]? = some (.int .i64 (xs[i].st.let_ : Nat)) ∧ (stCells xs)[i * 3 + 2]? = some (.slice xs[i].A xs[i].st.nodes.length xs[i].c)
  | x :: xs, 0, _ => ⟨rfl, rfl, rfl⟩
  | x :: xs, i + 1, h => by
    have := stCells_at xs i (by simpa using h)
    rw [show (i + 1) * 3 = i * 3 + 1 + 1 + 1 from by omega]
    exact this

theorem own_blk {w : World} {B : Nat} {e : TypeId} {v : Value} {n : Nat} {xs : List Value} (h : w.ownsRow B e 1 v n xs) (hn : 0 < n) :
    ∃ g cap cur, v = .slice (some ⟨g, 0, none⟩) n cap ∧ B ≤ g ∧ n ≤ cap ∧ cap ≤ 9223372036854775807 ∧ Blk w g e cur ∧ n ≤ cur.size ∧ ∀ j (hj : j < xs.length), cur[j]? = some xs[j] := by
  have hl := h.1
  obtain ⟨g, cap, hv, hg, hlt, h1, h2, h3⟩ := own_shape h hn
  obtain ⟨_, ⟨rfl, h0⟩ | ⟨g', cap', cur, hv', hg', hw, h1', h2', h3', h4'⟩⟩ := h
  · omega
  · rw [hv'] at hv
    cases hv
    have hb : Blk w g e cur := hw
    refine ⟨g, cap, cur, hv', hg, h1, h2, hb, ?_, fun j hj => ?_⟩
    · rw [h3']; omega
    · have := h3 j xs[j] (by simp)
      rwa [hb.cell] at this

/-- Every step but the first hangs on an earlier one, by a letter. -/
structure PathOk (ss : List StV) (ws : List (List Nat)) : Prop where
  len : ws.length = ss.length
  zero : ∀ (h : 0 < ws.length), ws[0] = []
  root : ∀ (h : 0 < ss.length), ss[0].st.par = -1
  link : ∀ j (h : j < ss.length) (h' : j < ws.length), 0 < j → ∃ p, p < j ∧ ss[j].st.par = (p : Int) ∧ ss[j].st.let_ < 6 ∧ ∃ (hp : p < ws.length), ws[j] = ss[j].st.let_ :: ws[p]
theorem PathOk.wlen {ss : List StV} {ws : List (List Nat)} (h : PathOk ss ws) : ∀ j (hj : j < ws.length), ws[j].length ≤ j := by
  intro j
  induction j using Nat.strongRecOn with
  | _ j ih =>
    intro hj
    by_cases e : j = 0
    · subst e
      rw [h.zero hj]
      exact Nat.le_refl _
    · obtain ⟨p, hpj, _, _, hp, hw⟩ := h.link j (by rw [← h.len]; exact hj) hj (by omega)
      have := ih p hpj hp
      rw [hw, List.length_cons]
      omega
theorem PathOk.lt6 {ss : List StV} {ws : List (List Nat)} (h : PathOk ss ws) : ∀ j (hj : j < ws.length), ∀ l ∈ ws[j], l < 6 := by
  intro j
  induction j using Nat.strongRecOn with
  | _ j ih =>
    intro hj l hl
    by_cases e : j = 0
    · subst e
      rw [h.zero hj] at hl
      cases hl
    · obtain ⟨p, hpj, _, h6, hp, hw⟩ := h.link j (by rw [← h.len]; exact hj) hj (by omega)
      rw [hw] at hl
      rcases List.mem_cons.1 hl with rfl | hl
      · exact h6
      · exact ih p hpj hp l hl

def bytesOf (r : List Nat) : List Value := r.map fun l => Value.int .u8 (97 + l : Nat)
theorem infoByte : (Tryd.prog.info? 5).map (fun i => (i.zero, i.size, i.bytes)) = some (some (.int .u8 0), 1, 1) := by kernel_rfl

theorem own_steps {w : World} {B : Nat} {v : Value} {ss : List StV} (h : w.ownsRow B 153 3 v ss.length (stCells ss)) (hn : 0 < ss.length) :
    ∃ g cap, v = .slice (some ⟨g, 0, none⟩) ss.length cap ∧ B ≤ g ∧ g < w.heap.size ∧ ss.length ≤ cap ∧ cap ≤ 9223372036854775807 ∧
      ∀ i (hi : i < ss.length), w.cell? ⟨g, i * 3, none⟩ = some (.int .i64 ss[i].st.par) ∧ w.cell? ⟨g, i * 3 + 1, none⟩ = some (.int .i64 (ss[i].st.let_ : Nat)) ∧ w.cell? ⟨g, i * 3 + 2, none⟩ = some (.slice ss[i].A ss[i].st.nodes.length ss[i].c) := by
  obtain ⟨g, cap, hv, h1, h2, h3, h4, h5⟩ := own_shape h hn
  exact ⟨g, cap, hv, h1, h2, h3, h4, fun i hi => ⟨h5 _ _ (stCells_at ss i hi).1, h5 _ _ (stCells_at ss i hi).2.1, h5 _ _ (stCells_at ss i hi).2.2⟩⟩

set_option maxRecDepth 100000 in
set_option maxHeartbeats 2000000 in
theorem pathWord_core (ss : List StV) (ws : List (List Nat)) (g c n : Nat) (w : World) (hn : ss.length = n + 2) (hs : ss.length ≤ 4294967296) (hw : PathOk ss ws) (hw' : n + 1 < ws.length)
    (hl : ss.length ≤ c) (hc : c ≤ 9223372036854775807) (hg : g < w.heap.size) (hr : ∀ i (hi : i < ss.length), w.cell? ⟨g, i * 3, none⟩ = some (.int .i64 ss[i].st.par) ∧ w.cell? ⟨g, i * 3 + 1, none⟩ = some (.int .i64 (ss[i].st.let_ : Nat))) :
    Calls Tryd.prog 142 #[.slice (some ⟨g, 0, none⟩) ss.length c] w fun e w' => e = .returned (.string (wordS ws[n + 1])) ∧ Below w.heap.size w w' := by
  obtain ⟨i0, hi, hz0, hz1, hz2⟩ := info_parts infoByte
  have hlen := hw.len
  have hwl := hw.wlen (n + 1) hw'
  have hlast : Hid (((n + 1 : Nat) : Int) = (ss.length : Int) - 1) := hid (by omega)
  replace hw := hid hw
  replace hr := hid hr
  replace hn := hid hn
  go_enter Tryd.func142, Tryd.ntmps142
  go_wp2_with fail
  go_loopw [3, 4] (fun v iv wr => ∃ (j : Nat) (done : List Nat), iv = .int .i64 j ∧ j < ss.length ∧ (∀ h : j < ws.length, done ++ ws[j] = ws[n + 1]) ∧ wr.ownsRow w.heap.size 5 1 v done.length (bytesOf done) ∧ Below w.heap.size w wr) (fun _ iv _ => (intOf iv).toNat)
  case atStart => exact ⟨n + 1, [], by rw [hlast.out], by have := hn.out; omega, fun _ => rfl, World.ownsRow_nil _ _ _ _, by (repeat (first | exact Below.refl _ _ | assumption | refine Below.drew ?_ | refine Below.alloc ?_ (by first | omega | (simp; done) | (simp; omega)) _ | refine Below.setCell ?_ (by first | omega | (simp; done) | (simp; omega)) _))⟩
  case round =>
    obtain ⟨j, done, rfl, hj, hdone, hown, hb⟩ := hrel
    have hd := hdone (by omega)
    have hdl : done.length ≤ n + 1 := by
      have := congrArg List.length hd
      rw [List.length_append] at this
      omega
    have hjw : j < ws.length := by omega
    obtain ⟨e0, e1⟩ := hr.out j hj
    rw [← hb.cell (by simpa using hg)] at e0 e1
    have i1 : (0 : Int) ≤ (j : Int) := by omega
    have i2 : (j : Int) < (ss.length : Int) := by omega
    by_cases h0 : j = 0
    · have hz : ws[j]'hjw = [] := by subst h0; exact hw.out.zero (by omega)
      rw [hz, List.append_nil] at hd
      subst hd
      have hroot : ss[j].st.par = -1 := by subst h0; exact hw.out.root (by omega)
      rw [hroot] at e0
      replace h0 := hid h0
      have hpos : 0 < ws[n + 1].length := by
        obtain ⟨p, -, -, -, hp, hq⟩ := hw.out.link (n + 1) (by omega) hw' (by omega)
        rw [hq]
        simp
      have h6 := hw.out.lt6 (n + 1) hw'
      obtain ⟨gb, cap, cur, rfl, hgb, hcap, hcap', hblk, hsz, hcur⟩ := own_blk hown hpos
      generalize hR : ws[n + 1] = r at *
      replace hR := hid hR
      have hblk' := hid hblk
      have hcs : Hid (∀ i (h : i < (r.map (97 + ·)).length), cur[i]? = some (.int .u8 ((r.map (97 + ·))[i] : Nat))) := hid fun i h => by
        have hi : i < r.length := by simpa using h
        rw [hcur i (by unfold bytesOf; simpa using hi)]
        unfold bytesOf
        simp
      replace hdone := hid hdone
      replace hcur := hid hcur
      replace hblk := hid hblk
      replace hown := hid hown
      replace hwl := hid hwl
      replace h6 := hid h6
      go_wp2_with fail
      refine (reverseBytes_any gb r.length cap (r.map (97 + ·)) cur wr (by simp) hcap hcap' hblk'.out hsz hcs.out).mono ?_
      rintro e w2 ⟨rfl, hg2, cs2, hblk2, hsz2, hcs2⟩
      have hB2 : Hid (Below w.heap.size w w2) := hid (hb.grown hg2 hb.size (fun k hk => by cases hk; exact hgb))
      have kc : (convert 22 9 (.slice (some ⟨gb, 0, none⟩) r.length cap)).run Tryd.prog w2 = .ok (.string (wordS r)) w2 := by
        have := run_convert_bytes_back (P := Tryd.prog) w2 22 9 5 ⟨gb, 0, none⟩ cap (r.reverse.map letB) Tryd.underlying22 Tryd.underlying5 Tryd.underlying9 (fun j hj => by
          have hj' : j < r.length := by simpa using hj
          have e1 := hcs2 j (by simpa using hj')
          have hadd : (⟨gb, 0, none⟩ : Addr).add j = ⟨gb, j, none⟩ := by unfold Addr.add; split <;> simp_all
          rw [hadd, hblk2.cell, e1]
          have h6' : r.reverse[j]'(by simpa using hj') < 6 := h6.out _ (List.mem_reverse.1 (List.getElem_mem _))
          simp only [List.getElem_map, List.map_reverse, List.getElem_reverse] at h6' ⊢
          unfold letB
          rw [UInt8.toNat_ofNat']
          have := h6'
          simp only [List.length_map] at *
          rw [Nat.mod_eq_of_lt (by omega)])
        simpa [wordS] using this
      replace hcs2 := hid hcs2
      replace hblk2 := hid hblk2
      replace hg2 := hid hg2
      clear e0 e1
      go_wp2
      go_ret
      exact ⟨by rw [hR.out]; rfl, hB2.out⟩
    · obtain ⟨p, hpj, hpar, h6, hp, hq⟩ := hw.out.link j hj hjw (by omega)
      rw [hpar] at e0
      rw [hq] at hd
      obtain ⟨l, hll⟩ : ∃ l, l = ss[j].st.let_ := ⟨_, rfl⟩
      rw [← hll] at e1 hd h6
      have hps : p < ss.length := by omega
      have hge : (0 : Int) ≤ (p : Int) := by omega
      have hd2 : Hid ((done ++ [l]) ++ ws[p] = ws[n + 1]) := hid (by rw [List.append_assoc]; exact hd)
      replace hd := hid hd
      replace hll := hid hll
      replace hq := hid hq
      replace hpar := hid hpar
      replace hdone := hid hdone
      replace hown := hid hown
      have hzr := hb.size
      go_wp2_with (first
        | (go_at_call 88; refine (letterByte_any l h6 _).mono ?_; rintro e w' ⟨rfl, rfl⟩)
        | (at_builtin; refine wpList_append_own _ rfl _ _ 22 rfl w.heap.size 5 i0 (.int .u8 0) 1 1 Tryd.underlying22 hi hz0 hz1 hz2 rfl (by decide) _ _ _ rfl (hown.out.alloc _) ⟨wr.heap.size, 0, none⟩ 1 1 [.int .u8 (97 + l : Nat)] rfl rfl (cell_one_new _ _ _) (by intro u hu; simp at hu; subst hu; rfl) (by unfold maxLen; omega) (by omega) (by simp; omega) ?_; intro v' w1 hown' hgrow _; have hB1 : Below w.heap.size w w1 := Below.grown (hb.alloc hzr _) hgrow (by simp; omega) (own_block hown.out); have e2 := e0; rw [hb.cell (by simpa using hg), ← hB1.cell (by simpa using hg)] at e2))
      go_roundw
      case rel =>
        refine ⟨p, done ++ [l], rfl, hps, fun _ => hd2.out, ?_, hB1⟩
        unfold bytesOf at hown' ⊢
        rw [List.length_append, List.map_append]
        exact hown'
      case measure => simp [intOf]; omega

theorem pathWord_any (ss : List StV) (ws : List (List Nat)) (g c n m : Nat) (w : World) (hm : ss.length = m) (hn : ss.length = n + 2) (hs : ss.length ≤ 4294967296) (hw : PathOk ss ws) (hw' : n + 1 < ws.length)
    (hl : ss.length ≤ c) (hc : c ≤ 9223372036854775807) (hg : g < w.heap.size) (hr : ∀ i (hi : i < ss.length), w.cell? ⟨g, i * 3, none⟩ = some (.int .i64 ss[i].st.par) ∧ w.cell? ⟨g, i * 3 + 1, none⟩ = some (.int .i64 (ss[i].st.let_ : Nat))) :
    Calls Tryd.prog 142 #[.slice (some ⟨g, 0, none⟩) m c] w fun e w' => e = .returned (.string (wordS ws[n + 1])) ∧ Below w.heap.size w w' := by
  subst hm
  exact pathWord_core ss ws g c n w hn hs hw hw' hl hc hg hr

end Go.Proofs.YtjhlbeamfngebaaDoor

/- The program's search: the closure that takes up a word's nodes. -/
namespace Go.Proofs.YtjhlbeamfngebaaDoor
open Go.RowKit Go.BigFrame AG

/-- The marks of the nodes that have been seen. -/
def SeenAt (cs : Array Value) (size : Nat) (S : Nat → Bool) : Prop := cs.size = size ∧ ∀ n, n < size → cs[n]? = some (.bool (S n))
theorem SeenAt.set_ {cs : Array Value} {size : Nat} {S S' : Nat → Bool} {n : Nat} (h : SeenAt cs size S) (hn : n < size) (hS : ∀ x, S' x = (S x || decide (x = n))) : SeenAt (cs.setIfInBounds n (.bool true)) size S' := by
  refine ⟨by simpa using h.1, fun x hx => ?_⟩
  rw [hS]
  by_cases e : x = n
  · subst e
    rw [Array.getElem?_setIfInBounds_self_of_lt (by rw [h.1]; exact hx)]
    simp
  · rw [Array.getElem?_setIfInBounds_ne (Ne.symm e), h.2 x hx]
    simp [e]

def natVals (ns : List Nat) : List Value := ns.map fun (n : Nat) => Value.int .i64 (n : Int)

/-- What the search holds in memory. -/
structure FPst (w wr : World) (size : Nat) (gv : Value) (bS bG bP gS : Nat) (sv : Value) (ss : List StV) (S : Nat → Bool) : Prop where
  below : Below w.heap.size w wr
  blkS : Blk wr bS 24 #[.slice (some ⟨gS, 0, none⟩) size size]
  blkG : Blk wr bG 102 #[gv]
  blkP : Blk wr bP 151 #[sv]
  seen : ∃ cs, Blk wr gS 4 cs ∧ SeenAt cs size S
  geS : w.heap.size ≤ gS
  geP : w.heap.size ≤ bP
  own : wr.ownsRow w.heap.size 153 3 sv ss.length (stCells ss)
  nodes : ∀ x ∈ ss, wr.ownsRow w.heap.size 3 1 (.slice x.A x.st.nodes.length x.c) x.st.nodes.length (natVals x.st.nodes)

/-- A goal of the search, as a function value. -/
structure GoalOk (w : World) (size : Nat) (G : Nat → Bool) (fG : FuncId) (capG : Array Value) : Prop where
  run : ∀ args w', (callFunc fG args).run Tryd.prog w' = .ok (.enter fG args) w'
  call : ∀ w' q, Below w.heap.size w w' → q < size → Calls Tryd.prog fG (#[.int .i64 (q : Nat)] ++ capG) w' fun e w'' => e = .returned (.bool (G q)) ∧ Below w'.heap.size w' w''

/-- What the closure leaves. -/
def VisPost (w w1 : World) (size : Nat) (gv : Value) (bS bG bP gS : Nat) (sv : Value) (ss : List StV) (S : Nat → Bool) (par : Int) (l : Nat) (fr : List Nat) (w2 : World) : Prop :=
  ∃ sv' ss', FPst w w2 size gv bS bG bP gS sv' ss' (fun n => S n || fr.contains n) ∧ ((fr = [] ∧ ss' = ss) ∨ (fr ≠ [] ∧ ∃ A c, ss' = ss ++ [⟨⟨par, l, fr⟩, A, c⟩])) ∧ KeepB (fun b => b = gS ∨ b = bP ∨ sv.ownBlock = some b) w1 w2

theorem FPst.keep {w w1 wr : World} {size : Nat} {gv : Value} {bS bG bP gS : Nat} {sv : Value} {ss : List StV} {S S' : Nat → Bool} {cs : Array Value} (h : FPst w w1 size gv bS bG bP gS sv ss S) (hk : KeepB (fun b => b = gS) w1 wr)
    (hb : Blk wr gS 4 cs) (hs : SeenAt cs size S') : FPst w wr size gv bS bG bP gS sv ss S' := by
  obtain ⟨cs0, hb0, -⟩ := h.seen
  exact ⟨hk.below h.below h.below.size (fun b hb => by rw [hb]; exact h.geS), h.blkS.keep hk (fun e => h.blkS.ne hb0 (by decide) e), h.blkG.keep hk (fun e => h.blkG.ne hb0 (by decide) e), h.blkP.keep hk (fun e => h.blkP.ne hb0 (by decide) e), ⟨cs, hb, hs⟩, h.geS, h.geP,
    own_keep h.own hk (own_ne h.own hb0 (by decide)), fun x hx => own_keep (h.nodes x hx) hk (own_ne (h.nodes x hx) hb0 (by decide))⟩

theorem cell_three_new (w : World) (x y z : Value) (t : TypeId) : ∀ j u, [x, y, z][j]? = some u → (w.alloc (.cells #[x, y, z] t)).cell? ((⟨w.heap.size, 0, none⟩ : Addr).add j) = some u := by
  intro j u hj
  match j, hj with
  | 0, hj =>
    simp at hj
    subst hj
    simp [Addr.add]
  | 1, hj =>
    simp at hj
    subst hj
    simp [Addr.add]
  | 2, hj =>
    simp at hj
    subst hj
    simp [Addr.add]
theorem infoStep : (Tryd.prog.info? 153).map (fun i => (i.zero, i.size, i.bytes)) = some (some (.agg #[.int .i64 0, .int .i64 0, .slice none 0 0]), 3, 40) := by kernel_rfl

theorem VisPost.mk {w w1 wr w6 : World} {size : Nat} {gv : Value} {bS bG bP gS : Nat} {sv v6 : Value} {ss : List StV} {S : Nat → Bool} {cs : Array Value} {par : Int} {l : Nat} {fr : List Nat} {A : Option Addr} {c : Nat} {o : Obj} (h : FPst w w1 size gv bS bG bP gS sv ss S) (hk : KeepB (fun b => b = gS) w1 wr)
    (hb : Blk wr gS 4 cs) (hs : SeenAt cs size (fun n => S n || fr.contains n)) (hfr : fr ≠ []) (hfv : wr.ownsRow w1.heap.size 3 1 (.slice A fr.length c) fr.length (natVals fr))
    (hO6 : w6.ownsRow w.heap.size 153 3 v6 (ss.length + 1) (stCells ss ++ [.int .i64 par, .int .i64 (l : Nat), .slice A fr.length c])) (hg6 : (wr.alloc o).grownBy w6 sv.ownBlock) :
    VisPost w w1 size gv bS bG bP gS sv ss S par l fr (w6.setCell ⟨bP, 0, none⟩ v6) := by
  have hr := h.keep hk hb hs
  have hkA : KeepB (fun b => sv.ownBlock = some b) wr w6 := ((KeepB.refl _ wr).alloc o).grown hg6 fun k hk _ => hk
  have hP6 : Blk w6 bP 151 #[sv] := hr.blkP.keep hkA fun e => own_ne hr.own hr.blkP (by decide) bP e rfl
  have hk7 : KeepB (fun b => b = bP) w6 (w6.setCell ⟨bP, 0, none⟩ v6) := (KeepB.refl _ w6).setCell _ _ fun _ => rfl
  have hkB : KeepB (fun b => b = bP ∨ sv.ownBlock = some b) wr (w6.setCell ⟨bP, 0, none⟩ v6) := (hkA.mono fun k h => .inr h).trans (hk7.mono fun k h => .inl h)
  have nB : ∀ {g t cs}, Blk wr g t cs → t ≠ 151 → t ≠ 153 → ¬ (g = bP ∨ sv.ownBlock = some g) := fun hg h1 h2 e => by
    rcases e with e | e
    · exact hg.ne hr.blkP h1 e
    · exact own_ne hr.own hg (Ne.symm h2) _ e rfl
  have nO : ∀ {base e size v n xs}, wr.ownsRow base e size v n xs → e ≠ 151 → e ≠ 153 → ∀ g, v.ownBlock = some g → ¬ (g = bP ∨ sv.ownBlock = some g) := fun ho h1 h2 g hg e => by
    rcases e with e | e
    · exact own_ne ho hr.blkP h1 g hg e
    · exact own_ne_own ho hr.own h2 g g hg e rfl
  obtain ⟨cs', hb', hs'⟩ := hr.seen
  refine ⟨v6, ss ++ [⟨⟨par, l, fr⟩, A, c⟩], ⟨?_, hr.blkS.keep hkB (nB hr.blkS (by decide) (by decide)), hr.blkG.keep hkB (nB hr.blkG (by decide) (by decide)), ?_, ⟨cs', hb'.keep hkB (nB hb' (by decide) (by decide)), hs'⟩, hr.geS, hr.geP, ?_, ?_⟩, .inr ⟨hfr, A, c, rfl⟩, ?_⟩
  · refine hkB.below hr.below hr.below.size fun b e => ?_
    rcases e with e | e
    · rw [e]; exact hr.geP
    · exact own_block hr.own b e
  · have := hP6.set_ 0 v6
    simpa using this
  · rw [List.length_append, stCells_append]
    exact own_keep hO6 hk7 (own_ne hO6 hP6 (by decide))
  · intro x hx
    rcases List.mem_append.1 hx with hx | hx
    · exact own_keep (hr.nodes x hx) hkB (nO (hr.nodes x hx) (by decide) (by decide))
    · rw [List.mem_singleton] at hx
      subst hx
      exact own_base (own_keep hfv hkB (nO hfv (by decide) (by decide))) h.below.size
  · refine (hk.mono fun k h => .inl h).trans ⟨hkB.os, hkB.tape, hkB.output, hkB.size, fun k hk' hne => hkB.block k hk' fun e => hne (.inr e)⟩

set_option maxRecDepth 100000 in
set_option maxHeartbeats 4000000 in
theorem visit_any (w : World) (size : Nat) (G : Nat → Bool) (fG : FuncId) (capG : Array Value) (hG : GoalOk w size G fG capG) (bS bG bP gS : Nat) (sv : Value) (ss : List StV) (S : Nat → Bool) (par : Int) (l : Nat) (nv : Value) (ns : List Nat) (w1 : World)
    (hst : FPst w w1 size (.func (.func fG) #[] capG) bS bG bP gS sv ss S) (hnv : w1.ownsRow 0 3 1 nv ns.length (natVals ns)) (hns : ∀ n ∈ ns, n < size) (hnl : ns.length ≤ 4294967296) (hsl : ss.length ≤ 4294967296) :
    Calls Tryd.prog 141 #[.int .i64 par, .int .i64 (l : Nat), nv, .pointer (some ⟨bS, 0, none⟩), .pointer (some ⟨bG, 0, none⟩), .pointer (some ⟨bP, 0, none⟩)] w1 fun e w2 => e = .returned (.bool ((frs S ns).any G)) ∧ VisPost w w1 size (.func (.func fG) #[] capG) bS bG bP gS sv ss S par l (frs S ns) w2 := by
  have hcf := hG.run
  obtain ⟨A, c, rfl, hnc, hnc'⟩ := own_slice hnv
  obtain ⟨i0, hi, hz0, hz1, hz2⟩ := info_parts infoInt
  have hneS := hst.blkS
  obtain ⟨cs0, hblk0, hseen0⟩ := hst.seen
  replace hst := hid hst
  replace hnv := hid hnv
  replace hns := hid hns
  replace hblk0 := hid hblk0
  replace hseen0 := hid hseen0
  replace hneS := hid hneS
  go_enter Tryd.func141, Tryd.ntmps141
  go_wp2_with fail
  go_loopw [10, 11, 16] (fun fv found iv wr => ∃ (k : Nat) (cs : Array Value), iv = .int .i64 k ∧ k ≤ ns.length ∧ found = .bool ((frs S (ns.take k)).any G) ∧ wr.ownsRow w1.heap.size 3 1 fv (frs S (ns.take k)).length (natVals (frs S (ns.take k))) ∧
      Blk wr gS 4 cs ∧ SeenAt cs size (fun n => S n || (frs S (ns.take k)).contains n) ∧ KeepB (fun b => b = gS) w1 wr) (fun _ _ iv _ => ns.length - (intOf iv).toNat)
  case atStart => exact ⟨0, cs0, rfl, by omega, rfl, World.ownsRow_nil _ _ _ _, hblk0.out, by simpa [frs_nil] using hseen0.out, KeepB.refl _ _⟩
  case round =>
    obtain ⟨k, cs, rfl, hk, rfl, hown, hblk, hseen, hkp⟩ := hrel
    by_cases hlt : k < ns.length
    · have hnvr := own_keep hnv.out hkp (fun g hg e => own_ne hnv.out hblk0.out (by decide) g hg e)
      obtain ⟨gn, cn, hve, -, -, -, -, hcell⟩ := own_shape hnvr (by omega)
      injection hve with hv1 hv2 hv3
      subst hv1
      subst hv3
      have n0 := hcell k _ (show (natVals ns)[k]? = some (.int .i64 (ns[k] : Nat)) from by unfold natVals; simp [hlt])
      have hns1 := hns.out ns[k] (List.getElem_mem hlt)
      have hstep := frs_take S ns hlt
      obtain ⟨n, hnn⟩ : ∃ n, n = ns[k] := ⟨_, rfl⟩
      rw [← hnn] at n0 hns1 hstep
      have hSr := hneS.out.keep hkp (fun e => hneS.out.ne hblk0.out (by decide) e)
      have s0 := hSr.cell 0
      simp only [List.getElem?_toArray, List.getElem?_cons_zero] at s0
      have m0 := hblk.cell n
      rw [hseen.2 n hns1] at m0
      dsimp only at m0
      have z0 := hblk.frozen n
      obtain ⟨fr, hfr⟩ : ∃ fr, fr = frs S (ns.take k) := ⟨_, rfl⟩
      rw [← hfr] at hown hseen m0 hstep ⊢
      have hfl : fr.length ≤ k := by
        have := frs_len S (ns.take k)
        rw [← hfr] at this
        simp at this
        omega
      have i1 : (0 : Int) ≤ (k : Int) := by omega
      have i2 : (k : Int) < (ns.length : Int) := by omega
      have i3 : (0 : Int) ≤ (n : Int) := by omega
      have i4 : (n : Int) < (size : Int) := by omega
      replace hnvr := hid hnvr
      replace hSr := hid hSr
      replace hcell := hid hcell
      replace hnn := hid hnn
      replace hfr := hid hfr
      replace hown := hid hown
      replace hseen := hid hseen
      replace hblk := hid hblk
      replace hstep := hid hstep
      cases hm : (S n || fr.contains n)
      · rw [hm] at m0
        have hst2 : Hid (frs S (ns.take (k + 1)) = fr ++ [n]) := hid (by rw [hstep.out]; unfold frsStep; rw [if_neg (by rw [hm]; simp)])
        have hany : Hid ((fr ++ [n]).any G = (fr.any G || G n)) := hid (by simp)
        replace hm := hid hm
        have hb1 := hst.out.below
        have hseen2 : Hid (SeenAt (cs.setIfInBounds n (.bool true)) size (fun x => S x || (fr ++ [n]).contains x)) := hid (hseen.out.set_ hns1 fun x => by
          simp only [List.contains_eq_mem, List.mem_append, List.mem_singleton, Bool.or_assoc]
          congr 1
          rw [Bool.eq_iff_iff]
          simp)
        have hzr := hkp.size
        have hkp2 : Hid (KeepB (fun b => b = gS) w1 (wr.setCell ⟨gS, n, none⟩ (.bool true))) := hid (hkp.setCell _ _ fun _ => rfl)
        have hblk2 : Hid (Blk (wr.setCell ⟨gS, n, none⟩ (.bool true)) gS 4 (cs.setIfInBounds n (.bool true))) := hid (hblk.out.set_ _ _)
        have hown2 : Hid ((wr.setCell ⟨gS, n, none⟩ (.bool true)).ownsRow w1.heap.size 3 1 _ fr.length (natVals fr)) := hid (ownsRow_setCell_below hown.out (by have := hblk0.out.lt; simpa using this) _)
        cases hg : fr.any G
        · go_wp2_with (at_builtin; refine wpList_append_own_at _ rfl _ _ 72 rfl w1.heap.size 3 i0 (.int .i64 0) 1 8 Tryd.underlying72 hi hz0 hz1 hz2 rfl (by decide) _ _ _ rfl (hown2.out.alloc _) ⟨wr.heap.size, 0, none⟩ 1 1 [.int .i64 (n : Int)] rfl rfl (by have := cell_one_new (wr.setCell ⟨gS, n, none⟩ (.bool true)) (.int .i64 (n : Int)) 3; simpa using this) (by intro u hu; simp at hu; subst hu; rfl) (by unfold maxLen; omega) (by omega) (by simp; omega) ?_; intro v4 w4 hown4 hgr4 _ hat4; have hkp4 : Hid (KeepB (fun b => b = gS) w1 w4) := hid ((hkp2.out.alloc _).grown hgr4 fun b hb hlt => absurd (own_block hown.out b hb) (by omega)); have hblk4 : Hid (Blk w4 gS 4 (cs.setIfInBounds n (.bool true))) := hid ((hgr4.block gS (hblk2.out.alloc _).lt (fun e => own_ne hown2.out hblk2.out (by decide) gS e.symm rfl)).trans (hblk2.out.alloc _)); have hG4 := hst.out.blkG.keep hkp4.out (fun e => hst.out.blkG.ne hblk0.out (by decide) e); have g0 := hG4.cell 0; simp only [List.getElem?_toArray, List.getElem?_cons_zero] at g0; replace hG4 := hid hG4; replace hown4 := hid hown4; replace hgr4 := hid hgr4; replace hat4 := hid hat4)
          have hb4 := hid (hkp4.out.below hb1 hb1.size fun b hb => by rw [hb]; exact hst.out.geS)
          refine (hG.call w4 n hb4.out hns1).mono ?_
          rintro e w5 ⟨rfl, hb5⟩
          replace hg := hid hg
          have hk5 : Hid (KeepB (fun b => b = gS) w1 w5) := hid (hkp4.out.trans (.of_below hb5))
          have hown5 := hid (own_keep hown4.out (.of_below (K := fun _ => False) hb5) fun _ _ h => h)
          have hblk5 := hid (hblk4.out.below hb5 hblk4.out.lt)
          go_wp2_with fail
          go_roundw
          case rel => exact ⟨k + 1, _, by go_num, by omega, by rw [hst2.out, hany.out, hg.out]; rfl, by rw [hst2.out, List.length_append]; unfold natVals; rw [List.map_append]; exact hown5.out, hblk5.out, by rw [hst2.out]; exact hseen2.out, hk5.out⟩
          case measure => simp [intOf]; omega
        · go_wp2_with (at_builtin; refine wpList_append_own_at _ rfl _ _ 72 rfl w1.heap.size 3 i0 (.int .i64 0) 1 8 Tryd.underlying72 hi hz0 hz1 hz2 rfl (by decide) _ _ _ rfl (hown2.out.alloc _) ⟨wr.heap.size, 0, none⟩ 1 1 [.int .i64 (n : Int)] rfl rfl (by have := cell_one_new (wr.setCell ⟨gS, n, none⟩ (.bool true)) (.int .i64 (n : Int)) 3; simpa using this) (by intro u hu; simp at hu; subst hu; rfl) (by unfold maxLen; omega) (by omega) (by simp; omega) ?_; intro v4 w4 hown4 hgr4 _ hat4; have hkp4 : Hid (KeepB (fun b => b = gS) w1 w4) := hid ((hkp2.out.alloc _).grown hgr4 fun b hb hlt => absurd (own_block hown.out b hb) (by omega)); have hblk4 : Hid (Blk w4 gS 4 (cs.setIfInBounds n (.bool true))) := hid ((hgr4.block gS (hblk2.out.alloc _).lt (fun e => own_ne hown2.out hblk2.out (by decide) gS e.symm rfl)).trans (hblk2.out.alloc _)); have hG4 := hst.out.blkG.keep hkp4.out (fun e => hst.out.blkG.ne hblk0.out (by decide) e); have g0 := hG4.cell 0; simp only [List.getElem?_toArray, List.getElem?_cons_zero] at g0; replace hG4 := hid hG4; replace hown4 := hid hown4; replace hgr4 := hid hgr4; replace hat4 := hid hat4)
          replace hg := hid hg
          go_roundw
          case rel => exact ⟨k + 1, _, by go_num, by omega, by rw [hst2.out, hany.out, hg.out]; rfl, by rw [hst2.out, List.length_append]; unfold natVals; rw [List.map_append]; exact hown4.out, hblk4.out, by rw [hst2.out]; exact hseen2.out, hkp4.out⟩
          case measure => simp [intOf]; omega
      · rw [hm] at m0
        have hst2 : Hid (frs S (ns.take (k + 1)) = fr) := hid (by rw [hstep.out]; unfold frsStep; rw [if_pos hm])
        replace hm := hid hm
        go_wp2_with fail
        go_roundw
        case rel => exact ⟨k + 1, cs, by go_num, by omega, by rw [hst2.out], by rw [hst2.out]; exact hown.out, hblk.out, by rw [hst2.out]; exact hseen.out, hkp⟩
        case measure => simp [intOf]; omega
    · have hkn : ns.take k = ns := List.take_of_length_le (by omega)
      rw [hkn] at hown hseen ⊢
      obtain ⟨fr, hfr⟩ : ∃ fr, fr = frs S ns := ⟨_, rfl⟩
      rw [← hfr] at hown hseen ⊢
      have hfl : fr.length ≤ ns.length := by rw [hfr]; exact frs_len S ns
      have hPr := hst.out.blkP.keep hkp (fun e => hst.out.blkP.ne hblk0.out (by decide) e)
      have p0 := hPr.cell 0
      simp only [List.getElem?_toArray, List.getElem?_cons_zero] at p0
      have hsr := hid (hst.out.keep hkp hblk hseen)
      replace hkn := hid hkn
      replace hfr := hid hfr
      replace hPr := hid hPr
      obtain ⟨fA, fc, rfl, hfc, hfc'⟩ := own_slice hown
      by_cases hf0 : fr.length = 0
      · have hfe : Hid (fr = []) := hid (by simpa using hf0)
        replace hown := hid hown
        have hn0 : ¬ (0 < fr.length) := by omega
        go_wp2_with fail
        go_ret
        exact ⟨by rw [← hfr.out]; rfl, by rw [← hfr.out]; exact ⟨_, ss, hsr.out, .inl ⟨hfe.out, rfl⟩, hkp.mono fun b h => .inl h⟩⟩
      · have hn0 : 0 < fr.length := by omega
        replace hown := hid hown
        have hzr := hkp.size
        have hbs := hst.out.below.size
        have hfne : Hid (fr ≠ []) := hid fun e => hf0 (by rw [e]; rfl)
        obtain ⟨j0, hj, hj0, hj1, hj2⟩ := info_parts infoStep
        go_wp2_with (at_builtin; refine wpList_append_own_at _ rfl _ _ 151 rfl w.heap.size 153 j0 (.agg #[.int .i64 0, .int .i64 0, .slice none 0 0]) 3 40 Tryd.underlying151 hj hj0 hj1 hj2 rfl (by decide) _ _ _ rfl (hsr.out.own.alloc _) ⟨wr.heap.size, 0, none⟩ 1 1 [.int .i64 par, .int .i64 (l : Nat), .slice fA fr.length fc] rfl rfl (cell_three_new _ _ _ _ _) (by intro u hu; simp at hu; rcases hu with rfl | rfl | rfl <;> rfl) (by unfold maxLen; omega) (by omega) (by simp; omega) ?_; intro v6 w6 hO6 hgr6 _ _; obtain ⟨A6, c6, rfl, -, -⟩ := own_slice hO6; have hkA : KeepB (fun b => sv.ownBlock = some b) wr w6 := ((KeepB.refl _ wr).alloc _).grown hgr6 fun k hk _ => hk; have hP6 : Blk w6 bP 151 #[sv] := hPr.out.keep hkA fun e => own_ne hsr.out.own hPr.out (by decide) bP e rfl; have q0 := hP6.cell 0; simp only [List.getElem?_toArray, List.getElem?_cons_zero] at q0; have zq := hP6.frozen 0; replace hP6 := hid hP6; replace hkA := hid hkA; replace hO6 := hid hO6; replace hgr6 := hid hgr6)
        go_ret
        exact ⟨by rw [← hfr.out]; rfl, by rw [← hfr.out]; exact VisPost.mk hst.out hkp hblk hseen hfne.out hown.out hO6.out hgr6.out⟩

end Go.Proofs.YtjhlbeamfngebaaDoor

/- The program's closure: the states that words of hidden letters reach. -/
namespace Go.Proofs.YtjhlbeamfngebaaDoor
open Go.RowKit Go.BigFrame AG

/-- A list of numbers lies in memory below a block. -/
def NatsAt (w : World) (B : Nat) (A : Option Addr) (ns : List Nat) : Prop := 0 < ns.length → ∃ b o, A = some ⟨b, o, none⟩ ∧ b < B ∧ ∀ i (h : i < ns.length), w.cell? ⟨b, o + i, none⟩ = some (.int .i64 (ns[i] : Nat))
theorem NatsAt.later {w w' : World} {A : Option Addr} {ns : List Nat} (h : NatsAt w w.heap.size A ns) (hb : Below w.heap.size w w') : NatsAt w' w'.heap.size A ns := fun hl => by
  obtain ⟨b, o, h1, h2, h3⟩ := h hl
  exact ⟨b, o, h1, Nat.lt_of_lt_of_le h2 hb.size, fun i hi => by rw [hb.cell (by simpa using h2)]; exact h3 i hi⟩
theorem OwnNats.read {w : World} {B : Nat} {v : Value} {ns : List Nat} (h : OwnNats w B v ns) : ∃ A c, v = .slice A ns.length c ∧ ns.length ≤ c ∧ c ≤ 9223372036854775807 ∧ NatsAt w w.heap.size A ns := by
  by_cases hn : 0 < ns.length
  · obtain ⟨g, cap, hv, h1, h2, h3, h4, h5⟩ := own_nats h hn
    exact ⟨_, cap, hv, h3, h4, fun _ => ⟨g, 0, rfl, h2, fun i hi => by rw [Nat.zero_add]; exact h5 i hi⟩⟩
  · obtain ⟨A, c, hv, h1, h2⟩ := own_slice h
    exact ⟨A, c, hv, h1, h2, fun hl => absurd hl hn⟩


end Go.Proofs.YtjhlbeamfngebaaDoor
