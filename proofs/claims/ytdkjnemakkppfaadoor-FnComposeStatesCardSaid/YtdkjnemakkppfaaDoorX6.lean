/- Lemmas, part 6: several texts in one. -/
import Derived.Test.YtdkjnemakkppfaaDoorX3
import Derived.Test.YtdkjnemakkppfaaDoorX2
import Derived.Deep.Upon
import Derived.Deep.AppendSrc
import Derived.WalkKit
import Derived.Deep.Quiet
import Derived.Deep.AppendLies
import Derived.Test.YtdkjnemakkppfaaDoorX4
set_option linter.unusedSimpArgs false
set_option linter.unusedVariables false

/- A statement that draws its order and whose calls may write some old blocks one after the other: one walk in the order of the text serves every order, if what holds behind m operations is told (I m). -/
namespace AG
open Go Go.RowKit

/-- The ways on of a world: what one operation may do (S), and what holds behind m operations (I m). -/
structure Way (S : World → World → Prop) (I : Nat → World → Prop) : Prop where
  refl : ∀ w, S w w
  trans : ∀ a b c, S a b → S b c → S a c
  more : ∀ m w, I m w → I (m + 1) w

theorem Way.mono {S : World → World → Prop} {I : Nat → World → Prop} (y : Way S I) {m : Nat} {w : World} (h : I m w) : ∀ k, I (m + k) w
  | 0 => h
  | k + 1 => y.more _ _ (y.mono h k)

namespace GK
section
variable {P : Program} {ops : Array Oper} {md : Region.Mode} {n M : Nat} {S : World → World → Prop} {I : Nat → World → Prop} {sp : Nat → Value → World → Prop}

/-- What the check says of the first n operations. -/
structure Ok (md : Region.Mode) (ops : Array Oper) (n : Nat) : Prop where
  sel : Region.noSelect ops = true
  size : n ≤ ops.size
  back : ∀ j, j < n → ∀ k ∈ predsOf md ops j, k < j
  one : ∀ i k t, i < n → k < n → dstOf ops i = some t → dstOf ops k = some t → i = k
  seen : ∀ j k t, j < n → k < n → dstOf ops k = some t → t ∈ looksOf ops j → k ∈ predsOf md ops j

/-- The frames of two ways look the same to an operation whose callers have all come up. -/
theorem Ok.same {L : Nat → Bool} {val vh : Nat → Value} {a0 ar a : Act} {j : Nat} {oj : Oper} (g : Ok md ops n) (hr : Pt ops n L val a0 ar) (hl : Pt ops n (fun k => decide (k < j)) vh a0 a) (hj : j < n)
    (ho : ops[j]? = some oj) (hp : ∀ k ∈ predsOf md ops j, L k = true) (hv : ∀ k, k < j → L k = true → vh k = val k) :
    execOp a.eval oj = execOp ar.eval oj ∧ Region.wanted oj (yielded ops a.tmps) = Region.wanted oj (yielded ops ar.tmps) := by
  refine look_same (Region.noSelect_spec g.sel j oj · · ho) fun t ht => hl.agree hr fun k hk hd => ?_
  have hm := g.seen j k t hj hk hd (by simpa [looksOf, ho] using ht)
  have hlt := g.back j hj k hm
  have hLk := hp k hm
  exact ⟨by simp [hlt, hLk], fun _ => hv k hlt hLk⟩

/-- A fact that stays whatever the operations do. -/
def Steady (S : World → World → Prop) (F : World → Prop) : Prop := ∀ w w', S w w' → F w → F w'

/-- The walk in the order of the text; L: the operations that have been carried out already (none, for who walks). -/
def Res (P : Program) (md : Region.Mode) (ops : Array Oper) (S : World → World → Prop) (I : Nat → World → Prop) (M : Nat) (sp : Nat → Value → World → Prop) (L : Nat → Bool) (val : Nat → Value) (wr : World)
    (Q : List (Nat × (World → Prop)) → Act → Prop) : List Oper → Nat → List (Nat × (World → Prop)) → Act → Prop
  | [], _, Γ, a => Q Γ a
  | o :: rest, i, Γ, a =>
    if Region.wanted o (yielded ops a.tmps) = true then
      (∃ v, (∀ m w, m < M → I m w → fnUpon (fun u w' => u = v ∧ w' = w) ((execOp a.eval o).run P w)) ∧ (L i = true → val i = v) ∧ Res P md ops S I M sp L val wr Q rest (i + 1) Γ (a.put o.dst v)) ∨
      (∃ Z : Value → World → Prop, (∀ u, Steady S (Z u)) ∧ (∀ m w, m < M → I m w → FactsAt md ops i Γ w → fnUpon (fun u w' => (S w w' ∧ I (m + 1) w') ∧ Z u w') ((execOp a.eval o).run P w)) ∧ (L i = true → Z (val i) wr) ∧
        ∀ u, (L i = true → u = val i) → (L i = false → ∃ m w', I m w' ∧ Z u w') → Res P md ops S I M sp L val wr Q rest (i + 1) ((i, Z u) :: Γ) (a.put o.dst u)) ∨
      ((∀ u, Steady S (sp i u)) ∧ (∀ m w, m < M → I m w → FactsAt md ops i Γ w → callUpon P w (fun e w' => ∃ u, e = .returned u ∧ (S w w' ∧ I (m + 1) w') ∧ sp i u w') ((execOp a.eval o).run P w)) ∧ (L i = true → sp i (val i) wr) ∧
        ∀ u, (L i = true → u = val i) → (L i = false → ∃ m w', I m w' ∧ sp i u w') → Res P md ops S I M sp L val wr Q rest (i + 1) ((i, sp i u) :: Γ) (a.put o.dst u))
    else (L i = true → val i = undef) ∧ Res P md ops S I M sp L val wr Q rest (i + 1) Γ (a.put o.dst undef)

variable {Q : List (Nat × (World → Prop)) → Act → Prop}

/-- Behind the place of what was carried out last: only the world has moved on. -/
theorem Res.later {L L' : Nat → Bool} {val val' : Nat → Value} {wr w1 : World} (hb : S wr w1) : ∀ (l : List Oper) (i : Nat) (Γ : List (Nat × (World → Prop))) (a : Act),
    (∀ k, i ≤ k → L' k = L k ∧ val' k = val k) → Res P md ops S I M sp L val wr Q l i Γ a → Res P md ops S I M sp L' val' w1 Q l i Γ a := by
  intro l
  induction l with
  | nil => intro i Γ a _ h; exact h
  | cons o rest ih =>
    intro i Γ a he h
    obtain ⟨hL, hv⟩ := he i (Nat.le_refl i)
    have he' : ∀ k, i + 1 ≤ k → L' k = L k ∧ val' k = val k := fun k hk => he k (by omega)
    unfold Res at h ⊢
    rw [hL, hv]
    split
    · rename_i hw
      rw [if_pos hw] at h
      rcases h with ⟨v, h1, h2, h3⟩ | ⟨Z, hs, h1, h2, h3⟩ | ⟨hs, h1, h2, h3⟩
      · exact .inl ⟨v, h1, h2, ih _ _ _ he' h3⟩
      · exact .inr (.inl ⟨Z, hs, h1, fun h => hs _ _ _ hb (h2 h), fun u hu hu' => ih _ _ _ he' (h3 u hu hu')⟩)
      · exact .inr (.inr ⟨hs, h1, fun h => hs _ _ _ hb (h2 h), fun u hu hu' => ih _ _ _ he' (h3 u hu hu')⟩)
    · rename_i hw
      rw [if_neg hw] at h
      exact ⟨h.1, ih _ _ _ he' h.2⟩

/-- Some way leads to operation j. -/
theorem Res.reach {L : Nat → Bool} {val : Nat → Value} {wr : World} {a0 : Act} {j : Nat} {oj : Oper} (y : Way S I) (g : Ok md ops n) (hj : j < n) (ho : ops[j]? = some oj) :
    ∀ (l : List Oper) (i : Nat) (Γ : List (Nat × (World → Prop))) (a : Act) (vh : Nat → Value) (mh : Nat) (wh : World), (∀ m, m < l.length → l[m]? = ops[i + m]?) → i + l.length = n → i ≤ j → Res P md ops S I M sp L val wr Q l i Γ a →
      Pt ops n (fun k => decide (k < i)) vh a0 a → (∀ k, k < i → L k = true → vh k = val k) → (∀ p ∈ Γ, Steady S p.2) → (∀ p ∈ Γ, L p.1 = true → p.2 wr) → mh + l.length ≤ M → S wr wh → I mh wh → (∀ p ∈ Γ, p.2 wh) →
      ∃ rest Γj aj vj, Res P md ops S I M sp L val wr Q (oj :: rest) j Γj aj ∧ Pt ops n (fun k => decide (k < j)) vj a0 aj ∧ (∀ k, k < j → L k = true → vj k = val k) ∧ (∀ p ∈ Γj, L p.1 = true → p.2 wr) := by
  intro l
  induction l with
  | nil => intro i Γ a vh mh wh _ hn hij; simp at hn; omega
  | cons o rest ih =>
    intro i Γ a vh mh wh hl hn hij h hpt hv hst hlr hmh hrh hBh hfh
    have hio : ops[i]? = some o := by simpa using (hl 0 (by simp)).symm
    by_cases e : i = j
    · subst e
      obtain rfl : o = oj := Option.some.inj (hio.symm.trans ho)
      exact ⟨rest, Γ, a, vh, h, hpt, hv, hlr⟩
    · have hlt : i < j := by omega
      have hin : i < n := by omega
      have hl' : ∀ m, m < rest.length → rest[m]? = ops[i + 1 + m]? := fun m hm => by
        have := hl (m + 1) (by simp; omega)
        simpa [Nat.add_assoc, Nat.add_comm 1 m] using this
      have hn' : i + 1 + rest.length = n := by simp at hn; omega
      have hm1 : mh + rest.length ≤ M ∧ mh + 1 + rest.length ≤ M ∧ mh < M := by simp at hmh; omega
      have hput : ∀ u, Pt ops n (fun k => decide (k < i + 1)) (upd vh i u) a0 (a.put o.dst u) := fun u => by
        have := hpt.put (u := u) g.one hin (by simp) hio
        have e2 : ins (fun k => decide (k < i)) i = fun k => decide (k < i + 1) := by
          funext k; simp only [ins]; rw [Bool.eq_iff_iff]; simp; omega
        rwa [e2] at this
      have hvu : ∀ u, (L i = true → u = val i) → ∀ k, k < i + 1 → L k = true → upd vh i u k = val k := fun u hu k hk hLk => by
        unfold upd
        by_cases e : k = i
        · subst e; rw [if_pos rfl]; exact hu hLk
        · rw [if_neg e]; exact hv k (by omega) hLk
      unfold Res at h
      split at h
      · rcases h with ⟨v, h1, h2, h3⟩ | ⟨Z, hs, h1, h2, h3⟩ | ⟨hs, h1, h2, h3⟩
        · exact ih _ _ _ _ mh wh hl' hn' (by omega) h3 (hput v) (hvu v fun h => (h2 h).symm) hst hlr hm1.1 hrh hBh hfh
        · cases hLi : L i with
          | true =>
            refine ih _ _ _ _ mh wh hl' hn' (by omega) (h3 (val i) (fun _ => rfl) (fun h => by rw [hLi] at h; cases h)) (hput _) (hvu _ fun _ => rfl) ?_ ?_ hm1.1 hrh hBh ?_
            · exact fun p hp => by rcases List.mem_cons.1 hp with rfl | hp; exact hs _; exact hst p hp
            · exact fun p hp hL => by rcases List.mem_cons.1 hp with rfl | hp; exact h2 hLi; exact hlr p hp hL
            · exact fun p hp => by rcases List.mem_cons.1 hp with rfl | hp; exact hs _ _ _ hrh (h2 hLi); exact hfh p hp
          | false =>
            have hx := h1 mh wh hm1.2.2 hBh fun p hp _ => hfh p hp
            have hgo : ∀ u w', (S wh w' ∧ I (mh + 1) w') ∧ Z u w' → _ := fun u w' hz =>
              ih (i + 1) ((i, Z u) :: Γ) (a.put o.dst u) (upd vh i u) (mh + 1) w' hl' hn' (by omega) (h3 u (fun h => by rw [hLi] at h; cases h) (fun _ => ⟨_, w', hz.1.2, hz.2⟩)) (hput u)
                (hvu u fun h => by rw [hLi] at h; cases h) (fun p hp => by rcases List.mem_cons.1 hp with rfl | hp; exact hs _; exact hst p hp)
                (fun p hp hL => by rcases List.mem_cons.1 hp with rfl | hp; (rw [hLi] at hL; cases hL); exact hlr p hp hL) hm1.2.1 (y.trans _ _ _ hrh hz.1.1) hz.1.2
                (fun p hp => by rcases List.mem_cons.1 hp with rfl | hp; exact hz.2; exact hst p hp _ _ hz.1.1 (hfh p hp))
            generalize (execOp a.eval o).run P wh = r at hx
            cases r with
            | ok x w' => cases x <;> simp only [fnUpon] at hx <;> exact hgo _ _ hx
            | halt x w' => exact hx.elim
        · cases hLi : L i with
          | true =>
            refine ih _ _ _ _ mh wh hl' hn' (by omega) (h3 (val i) (fun _ => rfl) (fun h => by rw [hLi] at h; cases h)) (hput _) (hvu _ fun _ => rfl) ?_ ?_ hm1.1 hrh hBh ?_
            · exact fun p hp => by rcases List.mem_cons.1 hp with rfl | hp; exact hs _; exact hst p hp
            · exact fun p hp hL => by rcases List.mem_cons.1 hp with rfl | hp; exact h2 hLi; exact hlr p hp hL
            · exact fun p hp => by rcases List.mem_cons.1 hp with rfl | hp; exact hs _ _ _ hrh (h2 hLi); exact hfh p hp
          | false =>
            have hx := h1 mh wh hm1.2.2 hBh fun p hp _ => hfh p hp
            have hgo : ∀ u w', (S wh w' ∧ I (mh + 1) w') ∧ sp i u w' → _ := fun u w' hz =>
              ih (i + 1) ((i, sp i u) :: Γ) (a.put o.dst u) (upd vh i u) (mh + 1) w' hl' hn' (by omega) (h3 u (fun h => by rw [hLi] at h; cases h) (fun _ => ⟨_, w', hz.1.2, hz.2⟩)) (hput u)
                (hvu u fun h => by rw [hLi] at h; cases h) (fun p hp => by rcases List.mem_cons.1 hp with rfl | hp; exact hs _; exact hst p hp)
                (fun p hp hL => by rcases List.mem_cons.1 hp with rfl | hp; (rw [hLi] at hL; cases hL); exact hlr p hp hL) hm1.2.1 (y.trans _ _ _ hrh hz.1.1) hz.1.2
                (fun p hp => by rcases List.mem_cons.1 hp with rfl | hp; exact hz.2; exact hst p hp _ _ hz.1.1 (hfh p hp))
            generalize (execOp a.eval o).run P wh = r at hx
            cases r with
            | ok x w' =>
              cases x <;> simp only [callUpon] at hx
              obtain ⟨_, hc⟩ := hx
              obtain ⟨e', w'', _, ⟨u, _, hz⟩, _⟩ := hc []
              exact hgo u w'' hz
            | halt x w' => exact hx.elim
      · exact ih _ _ _ _ mh wh hl' hn' (by omega) h.2 (hput undef) (hvu undef fun hL => (h.1 hL).symm) hst hlr hm1.1 hrh hBh hfh

theorem Res.mark {L : Nat → Bool} {val : Nat → Value} {wr w1 : World} {a0 ar : Act} {j mr m1 : Nat} {oj : Oper} {u : Value} (g : Ok md ops n) (hj : j < n) (ho : ops[j]? = some oj) (hLj : L j = false)
    (hp : ∀ k ∈ predsOf md ops j, L k = true) (hdep : ∀ k, depB md ops j k = true → L k = true) (hr : Pt ops n L val a0 ar) (hmr : mr < M) (hBr : I mr wr) (hb : S wr w1) (hB1 : I m1 w1) (hout : Outc P ops sp j oj ar wr u w1) :
    ∀ (l : List Oper) (i : Nat) (Γ : List (Nat × (World → Prop))) (a : Act) (vh : Nat → Value), (∀ m, m < l.length → l[m]? = ops[i + m]?) → i + l.length = n → i ≤ j → Res P md ops S I M sp L val wr Q l i Γ a →
      Pt ops n (fun k => decide (k < i)) vh a0 a → (∀ k, k < i → L k = true → vh k = val k) → (∀ p ∈ Γ, L p.1 = true → p.2 wr) → Res P md ops S I M sp (ins L j) (upd val j u) w1 Q l i Γ a := by
  intro l
  induction l with
  | nil => intro i Γ a vh _ hn hij; simp at hn; omega
  | cons o rest ih =>
    intro i Γ a vh hl hn hij h hpt hv hlr
    have hio : ops[i]? = some o := by simpa using (hl 0 (by simp)).symm
    by_cases e : i = j
    · subst e
      obtain rfl : o = oj := Option.some.inj (hio.symm.trans ho)
      obtain ⟨hex, hwt⟩ := g.same hr hpt hj ho hp hv
      have hins : ins L i i = true := by simp [ins]
      have hupd : upd val i u i = u := by simp [upd]
      have hafter : ∀ k, i + 1 ≤ k → ins L i k = L k ∧ upd val i u k = val k := fun k hk => by
        have : k ≠ i := by omega
        simp [ins, upd, this]
      have hF : FactsAt md ops i Γ wr := fun p hp' hd => hlr p hp' (hdep _ hd)
      unfold Res at h ⊢
      rw [hins, hupd]
      unfold Outc at hout
      rw [← hex, ← hwt] at hout
      split
      · rename_i hw
        rw [if_pos hw] at h hout
        rcases h with ⟨v, h1, h2, h3⟩ | ⟨Z, hs, h1, h2, h3⟩ | ⟨hs, h1, h2, h3⟩
        · have hx := h1 mr wr hmr hBr
          have huv : u = v := by
            generalize (execOp a.eval o).run P wr = r at hx hout
            cases r with
            | ok x w' => cases x <;> simp only [fnUpon] at hx <;> simp only at hout <;> rw [← hout.1, hx.1]
            | halt x w' => exact hx.elim
          exact .inl ⟨v, h1, fun _ => huv, Res.later hb _ _ _ _ hafter h3⟩
        · have hx := h1 mr wr hmr hBr hF
          have hz : Z u w1 := by
            generalize (execOp a.eval o).run P wr = r at hx hout
            cases r with
            | ok x w' => cases x <;> simp only [fnUpon] at hx <;> simp only at hout <;> (obtain ⟨rfl, rfl⟩ := hout; exact hx.2)
            | halt x w' => exact hx.elim
          refine .inr (.inl ⟨Z, hs, h1, fun _ => hz, fun u' hu' _ => ?_⟩)
          obtain rfl := hu' rfl
          exact Res.later hb _ _ _ _ hafter (h3 u' (fun h => by rw [hLj] at h; cases h) (fun _ => ⟨m1, w1, hB1, hz⟩))
        · have hx := h1 mr wr hmr hBr hF
          have hz : sp i u w1 := by
            generalize (execOp a.eval o).run P wr = r at hx hout
            cases r with
            | ok x w' => cases x <;> simp only [callUpon] at hx; exact hout
            | halt x w' => exact hx.elim
          refine .inr (.inr ⟨hs, h1, fun _ => hz, fun u' hu' _ => ?_⟩)
          obtain rfl := hu' rfl
          exact Res.later hb _ _ _ _ hafter (h3 u' (fun h => by rw [hLj] at h; cases h) (fun _ => ⟨m1, w1, hB1, hz⟩))
      · rename_i hw
        rw [if_neg hw] at h hout
        exact ⟨fun _ => hout.1.symm, Res.later hb _ _ _ _ hafter h.2⟩
    · have hlt : i < j := by omega
      have hin : i < n := by omega
      have hl' : ∀ m, m < rest.length → rest[m]? = ops[i + 1 + m]? := fun m hm => by
        have := hl (m + 1) (by simp; omega)
        simpa [Nat.add_assoc, Nat.add_comm 1 m] using this
      have hn' : i + 1 + rest.length = n := by simp at hn; omega
      have hput : ∀ u, Pt ops n (fun k => decide (k < i + 1)) (upd vh i u) a0 (a.put o.dst u) := fun u => by
        have := hpt.put (u := u) g.one hin (by simp) hio
        have e2 : ins (fun k => decide (k < i)) i = fun k => decide (k < i + 1) := by
          funext k; simp only [ins]; rw [Bool.eq_iff_iff]; simp; omega
        rwa [e2] at this
      have hvu : ∀ u, (L i = true → u = val i) → ∀ k, k < i + 1 → L k = true → upd vh i u k = val k := fun u hu k hk hLk => by
        unfold upd
        by_cases e : k = i
        · subst e; rw [if_pos rfl]; exact hu hLk
        · rw [if_neg e]; exact hv k (by omega) hLk
      have hins : ins L j i = L i := by simp [ins, e]
      have hupd : upd val j u i = val i := by simp [upd, e]
      unfold Res at h ⊢
      rw [hins, hupd]
      split
      · rename_i hw
        rw [if_pos hw] at h
        rcases h with ⟨v, h1, h2, h3⟩ | ⟨Z, hs, h1, h2, h3⟩ | ⟨hs, h1, h2, h3⟩
        · exact .inl ⟨v, h1, h2, ih _ _ _ _ hl' hn' (by omega) h3 (hput v) (hvu v fun h => (h2 h).symm) hlr⟩
        · exact .inr (.inl ⟨Z, hs, h1, fun h => hs _ _ _ hb (h2 h), fun u' hu hu' => ih _ _ _ _ hl' hn' (by omega) (h3 u' hu hu') (hput u') (hvu u' hu) fun p hp hL => by
            rcases List.mem_cons.1 hp with rfl | hp
            · rw [hu hL]; exact h2 hL
            · exact hlr p hp hL⟩)
        · exact .inr (.inr ⟨hs, h1, fun h => hs _ _ _ hb (h2 h), fun u' hu hu' => ih _ _ _ _ hl' hn' (by omega) (h3 u' hu hu') (hput u') (hvu u' hu) fun p hp hL => by
            rcases List.mem_cons.1 hp with rfl | hp
            · rw [hu hL]; exact h2 hL
            · exact hlr p hp hL⟩)
      · rename_i hw
        rw [if_neg hw] at h
        exact ⟨h.1, ih _ _ _ _ hl' hn' (by omega) h.2 (hput undef) (hvu undef fun hL => (h.1 hL).symm) hlr⟩

/-- All have come up. -/
theorem Res.over {L : Nat → Bool} {val : Nat → Value} {wr : World} {a0 : Act} (g : Ok md ops n) (hL : ∀ k, k < n → L k = true) :
    ∀ (l : List Oper) (i : Nat) (Γ : List (Nat × (World → Prop))) (a : Act) (vh : Nat → Value), (∀ m, m < l.length → l[m]? = ops[i + m]?) → i + l.length = n → Res P md ops S I M sp L val wr Q l i Γ a →
      Pt ops n (fun k => decide (k < i)) vh a0 a → (∀ k, k < i → vh k = val k) → (∀ p ∈ Γ, p.2 wr) → ∃ Γ' a' vh', Q Γ' a' ∧ Pt ops n (fun k => decide (k < n)) vh' a0 a' ∧ (∀ k, k < n → vh' k = val k) ∧ ∀ p ∈ Γ', p.2 wr := by
  intro l
  induction l with
  | nil =>
    intro i Γ a vh _ hn h hpt hv hf
    obtain rfl : i = n := by simpa using hn
    exact ⟨Γ, a, vh, h, hpt, hv, hf⟩
  | cons o rest ih =>
    intro i Γ a vh hl hn h hpt hv hf
    have hio : ops[i]? = some o := by simpa using (hl 0 (by simp)).symm
    have hin : i < n := by simp at hn; omega
    have hLi := hL i hin
    have hl' : ∀ m, m < rest.length → rest[m]? = ops[i + 1 + m]? := fun m hm => by
      have := hl (m + 1) (by simp; omega)
      simpa [Nat.add_assoc, Nat.add_comm 1 m] using this
    have hn' : i + 1 + rest.length = n := by simp at hn; omega
    have hput : ∀ u, Pt ops n (fun k => decide (k < i + 1)) (upd vh i u) a0 (a.put o.dst u) := fun u => by
      have := hpt.put (u := u) g.one hin (by simp) hio
      have e2 : ins (fun k => decide (k < i)) i = fun k => decide (k < i + 1) := by
        funext k; simp only [ins]; rw [Bool.eq_iff_iff]; simp; omega
      rwa [e2] at this
    have hvu : ∀ u, u = val i → ∀ k, k < i + 1 → upd vh i u k = val k := fun u hu k hk => by
      unfold upd
      by_cases e : k = i
      · subst e; rw [if_pos rfl]; exact hu
      · rw [if_neg e]; exact hv k (by omega)
    unfold Res at h
    split at h
    · rcases h with ⟨v, h1, h2, h3⟩ | ⟨Z, hs, h1, h2, h3⟩ | ⟨hs, h1, h2, h3⟩
      · exact ih _ _ _ _ hl' hn' h3 (hput v) (hvu v (h2 hLi).symm) hf
      · exact ih _ _ _ _ hl' hn' (h3 (val i) (fun _ => rfl) (fun h => by rw [hLi] at h; cases h)) (hput _) (hvu _ rfl) fun p hp => by
          rcases List.mem_cons.1 hp with rfl | hp
          exact h2 hLi; exact hf p hp
      · exact ih _ _ _ _ hl' hn' (h3 (val i) (fun _ => rfl) (fun h => by rw [hLi] at h; cases h)) (hput _) (hvu _ rfl) fun p hp => by
          rcases List.mem_cons.1 hp with rfl | hp
          exact h2 hLi; exact hf p hp
    · exact ih _ _ _ _ hl' hn' h.2 (hput undef) (hvu undef (h.1 hLi).symm) hf

/-- One operation comes up. -/
theorem Res.step {Qx : Exit → Act → World → Prop} {L : Nat → Bool} {val : Nat → Value} {wr : World} {a0 ar : Act} {j mr : Nat} {oj : Oper} {l : List Oper} (y : Way S I) (g : Ok md ops n) (hj : j < n) (ho : ops[j]? = some oj)
    (hLj : L j = false) (hp : ∀ k ∈ predsOf md ops j, L k = true) (hdep : ∀ k, depB md ops j k = true → L k = true) (hr : Pt ops n L val a0 ar) (hmr : mr + n ≤ M) (hBr : I mr wr) (hl : ∀ m, m < l.length → l[m]? = ops[m]?) (hn : l.length = n)
    (h : Res P md ops S I M sp L val wr Q l 0 [] a0) :
    wpOp P ops Qx j (fun a' w' => ∃ u, a' = ar.put oj.dst u ∧ I (mr + 1) w' ∧ Res P md ops S I M sp (ins L j) (upd val j u) w' Q l 0 [] a0) ar wr := by
  have pt0 : ∀ v, Pt ops n (fun k => decide (k < 0)) v a0 a0 := fun v => ⟨rfl, fun k t _ hS => by simp at hS, fun _ _ => rfl⟩
  have hl0 : ∀ m, m < l.length → l[m]? = ops[0 + m]? := fun m hm => by rw [Nat.zero_add]; exact hl m hm
  have hmM : mr < M := by omega
  have after : ∀ u w1, S wr w1 → I (mr + 1) w1 → Outc P ops sp j oj ar wr u w1 → (∃ u', ar.put oj.dst u = ar.put oj.dst u' ∧ I (mr + 1) w1 ∧ Res P md ops S I M sp (ins L j) (upd val j u') w1 Q l 0 [] a0) := fun u w1 hb hB1 hout =>
    ⟨u, rfl, hB1, Res.mark g hj ho hLj hp hdep hr hmM hBr hb hB1 hout l 0 [] a0 val hl0 (by omega) (Nat.zero_le _) h (pt0 _) (fun k hk => by omega) (fun p hp => by cases hp)⟩
  obtain ⟨rest, Γ, a, vh, hres, hpt, hv, hlr⟩ := Res.reach (j := j) y g hj ho l 0 [] a0 val mr wr hl0 (by omega) (Nat.zero_le _) h (pt0 _) (fun k hk => by omega) (fun p hp => by cases hp) (fun p hp => by cases hp) (by omega) (y.refl _) hBr (fun p hp => by cases hp)
  obtain ⟨hex, hwt⟩ := g.same hr hpt hj ho hp hv
  have hF : FactsAt md ops j Γ wr := fun p hp' hd => hlr p hp' (hdep _ hd)
  unfold wpOp
  simp only [ho]
  unfold Res at hres
  rw [hex, hwt] at hres
  split
  · rename_i hw
    rw [if_pos hw] at hres
    refine .inl ?_
    unfold Oper.wp
    have hout : ∀ u w1, (match (execOp ar.eval oj).run P wr with | .ok (.value v) w' => v = u ∧ w' = w1 | .ok .skip w' => undef = u ∧ w' = w1 | .ok (.enter _ _) _ => sp j u w1 | _ => False) → Outc P ops sp j oj ar wr u w1 := fun u w1 h => by
      unfold Outc; rw [if_pos hw]; exact h
    rcases hres with ⟨v, h1, h2, h3⟩ | ⟨Z, hs, h1, h2, h3⟩ | ⟨hs, h1, h2, h3⟩
    · have hx := h1 mr wr hmM hBr
      cases hrun : (execOp ar.eval oj).run P wr with
      | ok x w' =>
        rw [hrun] at hx hout
        cases x <;> simp only [fnUpon] at hx <;> simp only [Oper.upon]
        case value v' => exact after _ _ (by rw [hx.2]; exact y.refl _) (by rw [hx.2]; exact y.more _ _ hBr) (hout _ _ ⟨rfl, rfl⟩)
        case skip => exact after _ _ (by rw [hx.2]; exact y.refl _) (by rw [hx.2]; exact y.more _ _ hBr) (hout _ _ ⟨rfl, rfl⟩)
      | halt x w' => rw [hrun] at hx; exact hx.elim
    · have hx := h1 mr wr hmM hBr hF
      cases hrun : (execOp ar.eval oj).run P wr with
      | ok x w' =>
        rw [hrun] at hx hout
        cases x <;> simp only [fnUpon] at hx <;> simp only [Oper.upon]
        case value v' => exact after _ _ hx.1.1 hx.1.2 (hout _ _ ⟨rfl, rfl⟩)
        case skip => exact after _ _ hx.1.1 hx.1.2 (hout _ _ ⟨rfl, rfl⟩)
      | halt x w' => rw [hrun] at hx; exact hx.elim
    · have hx := h1 mr wr hmM hBr hF
      cases hrun : (execOp ar.eval oj).run P wr with
      | ok x w' =>
        rw [hrun] at hx hout
        cases x <;> simp only [callUpon] at hx
        simp only [Oper.upon]
        obtain ⟨rfl, hc⟩ := hx
        exact hc.mono fun e w'' ⟨u, he, hb, hz⟩ => by subst he; exact after u w'' hb.1 hb.2 (hout _ _ hz)
      | halt x w' => rw [hrun] at hx; exact hx.elim
  · rename_i hw
    rw [if_neg hw] at hres
    exact after _ _ (y.refl _) (y.more _ _ hBr) (by unfold Outc; rw [if_neg hw]; exact ⟨rfl, rfl⟩)

/-- Operations that the walk need not wait for (Z) have been carried out; the others behind the first n have not. -/
structure HInv (md : Region.Mode) (ops : Array Oper) (n : Nat) (Z : Nat → Bool) (listed : Array Bool) : Prop where
  size : listed.size = ops.size
  closed : ∀ j oj, ops[j]? = some oj → listed.getD j false = true → ∀ e ∈ oj.after, Region.binds md e = true → listed.getD e.on false = true
  tail : ∀ t, n ≤ t → t < ops.size → Z t = false → listed.getD t true = false
  zin : ∀ t, n ≤ t → t < ops.size → Z t = true → listed.getD t false = true
theorem HInv.set {Z : Nat → Bool} {i : Nat} {listed : Array Bool} (inv : HInv md ops n Z listed) (hi : i ∈ Region.ready md ops listed) (hin : i < n) : HInv md ops n Z (listed.setIfInBounds i true) := by
  obtain ⟨_, oi, hoi, hall⟩ := mem_ready.1 hi
  refine ⟨by simp [inv.size], fun j oj hj hl e he hb => ?_, fun t ht ht' hz => by rw [getD_set_ne true (by omega)]; exact inv.tail t ht ht' hz, fun t ht ht' hz => getD_set_true (inv.zin t ht ht' hz)⟩
  by_cases hij : i = j
  · subst hij
    have : oj = oi := Option.some.inj (hj.symm.trans hoi)
    subst this
    exact getD_set_true (hall e he hb)
  · rw [getD_set_ne false hij] at hl
    exact getD_set_true (inv.closed j oj hj hl e he hb)
def canonZ (ops : Array Oper) (n : Nat) (Z : Nat → Bool) : Array Bool := ((List.range ops.size).map fun k => decide (k < n) || Z k).toArray
/-- The operations that operation j waits for, at once or through others. -/
def needs (md : Region.Mode) (ops : Array Oper) (j : Nat) : List Nat := upset md ops ops.size (predsOf md ops j)

theorem grow_any {Qx : Exit → Act → World → Prop} {a0 : Act} {l : List Oper} {Z : Nat → Bool} {m1 : Nat} (y : Way S I) (g : Ok md ops n) (hM : 2 * n ≤ M) (hwait : ∀ t, n ≤ t → t < ops.size → Z t = false → ∀ i, i < n → i ∈ needs md ops t) (hl : ∀ m, m < l.length → l[m]? = ops[m]?) (hn : l.length = n)
    (hQ : ∀ Γ a w, Q Γ a → I n w → (∀ p ∈ Γ, p.2 w) → wpAny P md ops Qx m1 (canonZ ops n Z) a w) :
    ∀ (f : Nat) (listed : Array Bool) (ar : Act) (mr : Nat) (wr : World) (val : Nat → Value), (List.range n).countP (fun k => !listed.getD k false) = f → HInv md ops n Z listed → Pt ops n (fun k => listed.getD k false) val a0 ar → mr + f = n → I mr wr →
      Res P md ops S I M sp (fun k => listed.getD k false) val wr Q l 0 [] a0 → wpAny P md ops Qx (f + m1) listed ar wr := by
  intro f
  induction f with
  | zero =>
    intro listed ar mr wr val hc inv hpt hmr hB h
    have hall : ∀ k, k < n → listed.getD k false = true := fun k hk => by
      have := List.countP_eq_zero.1 hc k (List.mem_range.2 hk)
      simpa using this
    obtain ⟨Γ, a, vh, hq, hpa, hv, hf⟩ := Res.over g hall l 0 [] a0 val (fun m hm => by rw [Nat.zero_add]; exact hl m hm) (by omega) h ⟨rfl, fun k t _ hS => by simp at hS, fun _ _ => rfl⟩ (fun k hk => by omega) (fun p hp => by cases hp)
    have hcan : listed = canonZ ops n Z := by
      apply Array.ext_getElem?
      intro k
      unfold canonZ
      by_cases hks : k < ops.size
      · have hks' : k < listed.size := by rw [inv.size]; exact hks
        by_cases hkn : k < n
        · have := hall k hkn
          simp [hks, hks', hkn] at this ⊢
          exact this
        · cases hz : Z k
          · have := inv.tail k (by omega) hks hz
            simp [hks, hks', hkn, hz] at this ⊢
            exact this
          · have := inv.zin k (by omega) hks hz
            simp [hks, hks', hkn, hz] at this ⊢
            exact this
      · have hks' : ¬ k < listed.size := by rw [inv.size]; exact hks
        simp [hks, hks']
    have hfr : ar = a := by
      have h1 : ar.defers = a.defers := hpt.defers.trans hpa.defers.symm
      have h2 : ar.tmps = a.tmps := Array.ext_getElem? fun t => hpt.agree hpa fun k hk _ => ⟨by simp [hk, hall k hk], fun _ => (hv k hk).symm⟩
      cases ar; cases a; simp_all
    obtain rfl : mr = n := by omega
    rw [Nat.zero_add, hcan, hfr]
    exact hQ Γ a wr hq hB hf
  | succ f ih =>
    intro listed ar mr wr val hc inv hpt hmr hB h
    have hex : ∃ k, k < n ∧ listed.getD k false = false := by
      have : 0 < (List.range n).countP (fun k => !listed.getD k false) := by omega
      obtain ⟨k, hk, hp⟩ := List.countP_pos_iff.1 this
      exact ⟨k, List.mem_range.1 hk, by simpa using hp⟩
    obtain ⟨k0, hk0, hun0⟩ := hex
    obtain ⟨m, hm, hm1, hm2⟩ := least_of (p := fun k => !listed.getD k false) k0 (by simpa using hun0)
    have hmn : m < n := by omega
    have hms : m < listed.size := by rw [inv.size]; have := g.size; omega
    have hun : listed.getD m true = false := getD_in hms (by simpa using hm1)
    have hready : m ∈ Region.ready md ops listed := by
      have hmo : m < ops.size := by have := g.size; omega
      refine mem_ready.2 ⟨hun, ops[m], by simp [hmo], fun e he hb => ?_⟩
      have : e.on < m := g.back m hmn _ (by
        unfold predsOf
        rw [Array.getElem?_eq_getElem hmo]
        exact List.mem_map.2 ⟨e, List.mem_filter.2 ⟨by simpa using he, hb⟩, rfl⟩)
      have := hm2 _ this
      simpa using this
    have e1 : f + 1 + m1 = (f + m1) + 1 := by omega
    rw [e1]
    refine ⟨fun h0 => absurd (h0 ▸ hready) (by simp), fun j hj => ?_⟩
    obtain ⟨hju, oj, hoj, hall⟩ := mem_ready.1 hj
    have hjs : j < ops.size := (Array.getElem?_eq_some_iff.1 hoj).1
    have hp : ∀ k ∈ predsOf md ops j, listed.getD k false = true := fun k hk => by
      unfold predsOf at hk
      rw [hoj] at hk
      obtain ⟨e, he, rfl⟩ := List.mem_map.1 hk
      obtain ⟨he1, he2⟩ := List.mem_filter.1 he
      exact hall e (by simpa using he1) he2
    have hcl : ∀ i, listed.getD i false = true → ∀ k ∈ predsOf md ops i, listed.getD k false = true := fun i hi k hk => by
      unfold predsOf at hk
      cases hoi : ops[i]? with
      | none => rw [hoi] at hk; cases hk
      | some oi =>
        rw [hoi] at hk
        obtain ⟨e, he, rfl⟩ := List.mem_map.1 hk
        obtain ⟨he1, he2⟩ := List.mem_filter.1 he
        exact inv.closed i oi hoi hi e (by simpa using he1) he2
    have hjn : j < n := by
      rcases Nat.lt_or_ge j n with h | h
      · exact h
      · cases hz : Z j
        · have := upset_in hcl _ _ hp m (hwait j h hjs hz m hmn)
          rw [getD_both hun] at this
          cases this
        · have h1 := inv.zin j h hjs hz
          have hjl : j < listed.size := by rw [inv.size]; exact hjs
          simp [hjl] at h1 hju
          rw [h1] at hju
          cases hju
    have hdep : ∀ k, depB md ops j k = true → listed.getD k false = true := fun k hk => by
      unfold depB at hk
      exact upset_in hcl _ _ hp k (by simpa using hk)
    have hset : (fun k => (listed.setIfInBounds j true).getD k false) = ins (fun k => listed.getD k false) j := by
      funext k
      unfold ins
      by_cases e : k = j
      · subst e
        have : k < listed.size := by rw [inv.size]; exact hjs
        simp [this]
      · rw [getD_set_ne false (Ne.symm e)]
        simp [e]
    have hjf : listed.getD j false = false := getD_both hju
    refine wpOp_mono (fun a' w' ⟨u, he, hB', hres⟩ => ?_) (Res.step (Qx := Qx) y g hjn hoj hjf hp hdep hpt (by omega) hB hl hn h)
    subst he
    have hpt' := hpt.put (u := u) g.one hjn hjf hoj
    rw [← hset] at hres hpt'
    refine ih _ _ (mr + 1) _ _ ?_ (inv.set hj hjn) hpt' (by omega) hB' hres
    have := count_off n (fun k => !listed.getD k false) j hjn (by simpa using hjf)
    rw [hc] at this
    have e3 : (List.range n).countP (fun k => !(listed.setIfInBounds j true).getD k false) = (List.range n).countP (fun k => (!listed.getD k false) && k != j) := List.countP_congr fun k _ => by
      have := congrFun hset k
      simp only [ins] at this
      rw [this]
      by_cases e : k = j <;> simp [e]
    omega

theorem Res.fresh {val val' : Nat → Value} {wr w1 : World} : ∀ (l : List Oper) (i : Nat) (Γ : List (Nat × (World → Prop))) (a : Act), Res P md ops S I M sp (fun _ => false) val wr Q l i Γ a → Res P md ops S I M sp (fun _ => false) val' w1 Q l i Γ a := by
  intro l
  induction l with
  | nil => intro i Γ a h; exact h
  | cons o rest ih =>
    intro i Γ a h
    unfold Res at h ⊢
    split
    · rename_i hw
      rw [if_pos hw] at h
      rcases h with ⟨v, h1, h2, h3⟩ | ⟨Z, hs, h1, h2, h3⟩ | ⟨hs, h1, h2, h3⟩
      · exact .inl ⟨v, h1, (fun h => by cases h), ih _ _ _ h3⟩
      · exact .inr (.inl ⟨Z, hs, h1, (fun h => by cases h), fun u _ hu' => ih _ _ _ (h3 u (fun h => by cases h) hu')⟩)
      · exact .inr (.inr ⟨hs, h1, (fun h => by cases h), fun u _ hu' => ih _ _ _ (h3 u (fun h => by cases h) hu')⟩)
    · rename_i hw
      rw [if_neg hw] at h
      exact ⟨(fun h => by cases h), ih _ _ _ h.2⟩
end

/-- The walk that a prover makes: nothing has been carried out yet. -/
abbrev wpGrow (P : Program) (ops : Array Oper) (S : World → World → Prop) (I : Nat → World → Prop) (M : Nat) (w0 : World) (sp : Nat → Value → World → Prop) (Q : List (Nat × (World → Prop)) → Act → Prop) (l : List Oper) (i : Nat) (Γ : List (Nat × (World → Prop))) (a : Act) : Prop :=
  Res P .any ops S I M sp (fun _ => false) (fun _ => undef) w0 Q l i Γ a

def seqT (md : Region.Mode) (ops : Array Oper) : List Nat → Array Bool → Bool
  | [], listed => (Region.ready md ops listed).isEmpty
  | k :: τ, listed => decide (Region.ready md ops listed = [k]) && seqT md ops τ (listed.setIfInBounds k true)
theorem wpAny_of_seqT {P : Program} {md : Region.Mode} {ops : Array Oper} {Q' : Exit → Act → World → Prop} : ∀ (τ : List Nat) (listed : Array Bool) (a : Act) (w : World), (∀ k ∈ τ, k < ops.size) →
    seqT md ops τ listed = true → wpList P ops Q' (τ.filterMap (ops[·]?)) a w → wpAny P md ops Q' τ.length listed a w
  | [], _, _, _, _, hB, h => ⟨by simpa [seqT] using hB, h⟩
  | k :: τ, listed, a, w, hl, hB, h => by
    have hk : k < ops.size := hl k List.mem_cons_self
    have h0 : ops[k]? = some ops[k] := Array.getElem?_eq_getElem hk
    simp only [seqT, Bool.and_eq_true, decide_eq_true_eq] at hB
    rw [List.filterMap_cons, h0] at h
    refine ⟨fun h1 => (by rw [hB.1] at h1; cases h1), fun i hi => ?_⟩
    rw [hB.1] at hi
    have hik : i = k := by simpa using hi
    subst hik
    have hw : wpOp P ops Q' i (wpList P ops Q' (τ.filterMap (ops[·]?))) a w := by unfold wpOp; simp only [h0]; exact h
    exact wpOp_mono (fun a' w' h' => wpAny_of_seqT τ _ a' w' (fun k hk => hl k (List.mem_cons_of_mem _ hk)) hB.2 h') hw

def okB (md : Region.Mode) (ops : Array Oper) (n : Nat) : Bool :=
  Region.noSelect ops && decide (n ≤ ops.size) &&
  (List.range n).all fun j => (predsOf md ops j).all (fun k => decide (k < j)) && (List.range n).all fun k =>
    match dstOf ops k with
    | none => true
    | some t => (k == j || dstOf ops j != some t) && (!(looksOf ops j).contains t || (predsOf md ops j).contains k)
theorem okB_ok {md : Region.Mode} {ops : Array Oper} {n : Nat} (h : okB md ops n = true) : Ok md ops n := by
  unfold okB at h
  simp only [Bool.and_eq_true, decide_eq_true_eq] at h
  obtain ⟨⟨h1, h2⟩, h4⟩ := h
  have key : ∀ j, j < n → _ := fun j hj => List.all_eq_true.1 h4 j (List.mem_range.2 hj)
  simp only [Bool.and_eq_true] at key
  refine ⟨h1, h2, fun j hj k hk => by simpa using List.all_eq_true.1 (key j hj).1 k hk, fun i k t hi hk hdi hdk => ?_, fun j k t hj hk hd ht => ?_⟩
  · have := List.all_eq_true.1 (key i hi).2 k (List.mem_range.2 hk)
    simp only [hdk, hdi, Bool.and_eq_true, Bool.or_eq_true, beq_iff_eq, bne_self_eq_false, Bool.false_eq_true, or_false] at this
    exact this.1.symm
  · have := List.all_eq_true.1 (key j hj).2 k (List.mem_range.2 hk)
    simp only [hd, Bool.and_eq_true, Bool.or_eq_true] at this
    rcases this.2 with h | h
    · simp [ht] at h
    · simpa using h
def waitB (md : Region.Mode) (ops : Array Oper) (n : Nat) (Z : Nat → Bool) : Bool :=
  (List.range ops.size).all fun t => decide (t < n) || Z t || (List.range n).all fun i => (needs md ops t).contains i
theorem waitB_ok {md : Region.Mode} {ops : Array Oper} {n : Nat} {Z : Nat → Bool} (h : waitB md ops n Z = true) : ∀ t, n ≤ t → t < ops.size → Z t = false → ∀ i, i < n → i ∈ needs md ops t := fun t h1 h2 hz i hi => by
  have := List.all_eq_true.1 h t (List.mem_range.2 h2)
  have h3 : ¬ t < n := by omega
  simp only [hz, h3, decide_false, Bool.false_or] at this
  simpa using List.all_eq_true.1 this i (List.mem_range.2 hi)
/-- No operation is taken ahead; those behind the first n come in the order τ. -/
def growTB (md : Region.Mode) (ops : Array Oper) (n : Nat) (τ : List Nat) : Bool :=
  okB md ops n && waitB md ops n (fun _ => false) && seqT md ops τ (canonZ ops n fun _ => false) && decide (n + τ.length = ops.size) && τ.all fun k => decide (k < ops.size)
theorem wp_region {P : Program} {id : Nat} {Qx : Exit → Act → World → Prop} {a : Act} {w : World} {l : List Oper} (n : Nat) (τ : List Nat) (M : Nat) (S : World → World → Prop) (I : Nat → World → Prop) (sp : Nat → Value → World → Prop) (hm : P.follows .mixedOrders = true) (hg : growTB .any l.toArray n τ = true)
    (y : Way S I) (hM : 2 * n ≤ M) (hC : I 0 w.drew)
    (h : wpGrow P l.toArray S I M w sp (fun Γ a' => ∀ w', I n w' → (∀ p ∈ Γ, p.2 w') → wpList P l.toArray Qx (τ.filterMap (l[·]?)) a' w') (l.take n) 0 [] a) : (Code.region id l.toArray true).wp P Qx a w := by
  unfold growTB at hg
  simp only [Bool.and_eq_true, decide_eq_true_eq] at hg
  obtain ⟨⟨⟨⟨g1, g2⟩, g3⟩, g4⟩, g5⟩ := hg
  have g := okB_ok g1
  have hsz : n ≤ l.length := by simpa using g.size
  have htl : (l.take n).length = n := by simp; omega
  have hrep : (fun k => (Array.replicate l.toArray.size false).getD k false) = fun _ => false := funext fun k => getD_replicate_false _ _
  have key0 : ∀ L a w, wpAny P .any l.toArray Qx (n + τ.length) L a w → wpAny P .any l.toArray Qx l.toArray.size L a w := fun _ _ _ h => by rwa [← g4]
  refine wp_region_any hm (key0 _ _ _ ?_)
  refine grow_any (Qx := Qx) (P := P) (sp := sp) (S := S) (I := I) (M := M) (a0 := a) (l := l.take n) (Z := fun _ => false) (m1 := τ.length) (Q := fun Γ a' => ∀ w', I n w' → (∀ p ∈ Γ, p.2 w') → wpList P l.toArray Qx (τ.filterMap (l[·]?)) a' w') y g hM (waitB_ok g2) (fun m hm' => by rw [htl] at hm'; simp [hm']) htl (fun Γ a' w' hq hb hf =>
    wpAny_of_seqT τ _ a' w' (fun k hk => of_decide_eq_true (List.all_eq_true.1 g5 k hk)) g3 (by simpa using hq w' hb hf)) n _ a 0 { w with drawn := w.drawn + 1 } (fun _ => undef) ?_ ?_ ?_ (by omega) (show I 0 w.drew from hC) ?_
  · rw [List.countP_eq_length.2 (fun k _ => by rw [getD_replicate_false]; rfl)]; simp
  · exact ⟨by simp, fun j oj _ hl => (by rw [getD_replicate_false] at hl; cases hl), fun t _ ht _ => getD_in (by simpa using ht) (getD_replicate_false _ _), fun t _ _ hz => by cases hz⟩
  · rw [hrep]; exact ⟨rfl, fun k t _ hS => by simp at hS, fun _ _ => rfl⟩
  · rw [hrep]
    exact Res.fresh _ _ _ _ h

/-- Every world of a kind, as a family (what is not so is replaced by w1). -/
noncomputable def FamI (J : World → Prop) (w1 x : World) : World := open Classical in if J x then x else w1
theorem FamI.is {J : World → Prop} {w1 : World} (h : J w1) (x : World) : J (FamI J w1 x) := by
  unfold FamI
  split
  · assumption
  · exact h
theorem FamI.of {J : World → Prop} {w w1 : World} (h : J w) : ∃ x, w = FamI J w1 x := ⟨w, by unfold FamI; rw [if_pos h]⟩

/-- Some m below M. -/
def Upto (I : Nat → World → Prop) (M : Nat) (w : World) : Prop := ∃ m, m < M ∧ I m w

section
variable {P : Program} {ops : Array Oper} {M : Nat} {S : World → World → Prop} {I : Nat → World → Prop} {sp : Nat → Value → World → Prop} {w0 w1 : World}
variable {Q : List (Nat × (World → Prop)) → Act → Prop} {o : Oper} {rest : List Oper} {i : Nat} {Γ : List (Nat × (World → Prop))} {a : Act}
theorem grow_nil (h : Q Γ a) : wpGrow P ops S I M w0 sp Q [] i Γ a := h
theorem grow_skip (hw : Region.wanted o (yielded ops a.tmps) = false) (h : wpGrow P ops S I M w0 sp Q rest (i + 1) Γ (a.put o.dst undef)) : wpGrow P ops S I M w0 sp Q (o :: rest) i Γ a := by
  unfold wpGrow Res
  rw [if_neg (by simp [hw])]
  exact ⟨(fun h => by cases h), h⟩

theorem grow_quiet (w1 : World) (hw : Region.wanted o (yielded ops a.tmps) = true) (hf : fnOp o = true)
    (h : ∀ K : Act → Prop, (∀ a, wpGrow P ops S I M w0 sp Q rest (i + 1) Γ a → K a) → o.quiet P a (fun w => ∃ x, w = FamI (Upto I M) w1 x) K) : wpGrow P ops S I M w0 sp Q (o :: rest) i Γ a := by
  obtain ⟨v, h1, h2⟩ := h _ fun _ h => h
  unfold wpGrow Res
  rw [if_pos hw]
  refine .inl ⟨v, fun m w hm hb => ?_, (fun h => by cases h), h2⟩
  have hq := h1 w (FamI.of ⟨m, hm, hb⟩)
  unfold Oper.quietAt at hq
  cases hr : (execOp a.eval o).run P w with
  | ok x w' =>
    rw [hr] at hq
    cases x <;> simp only [Oper.quietUpon] at hq
    case value u => exact ⟨hq.2, hq.1⟩
    case skip => exact ⟨hq.2.symm, hq.1⟩
    case enter f args => exact absurd hr (fnOp_run hf _ _ _ _ _)
  | halt x w' => rw [hr] at hq; exact hq.elim

/-- An operation that makes a block: its value hangs on the block's number alone. -/
theorem grow_new {K : Nat → Prop} (hw : Region.wanted o (yielded ops a.tmps) = true) (B : Nat) (mk : Nat → Value) (T : TypeId) (cs : Array Value) (hrun : ∀ w, (execOp a.eval o).run P w = .ok (.value (mk w.heap.size)) (w.alloc (.cells cs T)))
    (hS : S = KeepB K) (hI : ∀ m w o, I m w → I (m + 1) (w.alloc o)) (hB : ∀ m w, I m w → B ≤ w.heap.size) (hK : ∀ k, K k → k < B)
    (h : ∀ b, B ≤ b → wpGrow P ops S I M w0 sp Q rest (i + 1) ((i, fun w' => ∃ b', mk b = mk b' ∧ B ≤ b' ∧ w'.heap[b']? = some (.cells cs T (0, 0))) :: Γ) (a.put o.dst (mk b))) : wpGrow P ops S I M w0 sp Q (o :: rest) i Γ a := by
  subst hS
  unfold wpGrow Res
  rw [if_pos hw]
  refine .inr (.inl ⟨fun u w' => ∃ b', u = mk b' ∧ B ≤ b' ∧ w'.heap[b']? = some (.cells cs T (0, 0)), fun u w w' hb ⟨b', h1, h2, h3⟩ => ⟨b', h1, h2, ?_⟩, fun m w hm hb _ => ?_, (fun h => by cases h), fun u _ hu => ?_⟩)
  · rw [hb.block b' (by
      rcases Nat.lt_or_ge b' w.heap.size with h | h
      · exact h
      · rw [Array.getElem?_eq_none h] at h3; cases h3) (fun hk => by have := hK _ hk; omega), h3]
  · rw [hrun]
    exact ⟨⟨(KeepB.refl _ _).alloc _, hI _ _ _ hb⟩, w.heap.size, rfl, hB _ _ hb, heap_alloc_new w _⟩
  · obtain ⟨_, w', _, b', rfl, h2, _⟩ := hu rfl
    exact h b' h2

/-- A call of a Go function. -/
theorem grow_call (hw : Region.wanted o (yielded ops a.tmps) = true) (hs : ∀ u, Steady S (sp i u))
    (hc : ∀ m w, m < M → I m w → FactsAt .any ops i Γ w → callUpon P w (fun e w' => ∃ u, e = .returned u ∧ (S w w' ∧ I (m + 1) w') ∧ sp i u w') ((execOp a.eval o).run P w))
    (h : ∀ u, (∃ m w', I m w' ∧ sp i u w') → wpGrow P ops S I M w0 sp Q rest (i + 1) ((i, sp i u) :: Γ) (a.put o.dst u)) : wpGrow P ops S I M w0 sp Q (o :: rest) i Γ a := by
  unfold wpGrow Res
  rw [if_pos hw]
  exact .inr (.inr ⟨hs, hc, (fun h => by cases h), fun u _ hu => h u (hu rfl)⟩)
/-- A call of a Go function whose value is known. -/
theorem grow_val (v : Value) (hw : Region.wanted o (yielded ops a.tmps) = true) (hsp : sp i = fun u _ => u = v)
    (hc : ∀ m w, m < M → I m w → FactsAt .any ops i Γ w → callUpon P w (fun e w' => e = .returned v ∧ S w w' ∧ I (m + 1) w') ((execOp a.eval o).run P w))
    (h : wpGrow P ops S I M w0 sp Q rest (i + 1) ((i, fun _ => v = v) :: Γ) (a.put o.dst v)) : wpGrow P ops S I M w0 sp Q (o :: rest) i Γ a := by
  refine grow_call hw (fun u => by rw [hsp]; exact fun _ _ _ h => h) (fun m w hm hb hf => ?_) fun u ⟨_, w', _, hu⟩ => ?_
  · have hx := hc m w hm hb hf
    generalize (execOp a.eval o).run P w = r at hx ⊢
    cases r with
    | ok x w' =>
      cases x <;> simp only [callUpon] at hx ⊢
      exact ⟨hx.1, hx.2.mono fun e w'' ⟨he, hb⟩ => ⟨v, he, hb, by rw [hsp]⟩⟩
    | halt x w' => exact hx.elim
  · rw [hsp] at hu
    subst hu
    rw [hsp]
    exact h
end
/-- Worlds that are as w0 but for what has been made since. -/
def BI (w0 : World) : Nat → World → Prop := fun _ w => Below w0.heap.size w0 w
theorem BI.way (w0 : World) : Way (KeepB fun _ => False) (BI w0) := ⟨fun w => KeepB.refl _ w, fun _ _ _ h k => h.trans k, fun _ _ h => h⟩
theorem BI.fam (w0 x : World) : Below w0.heap.size w0 (FamI (Upto (BI w0) 200) w0 x) := by
  obtain ⟨_, _, h⟩ := FamI.is (J := Upto (BI w0) 200) (w1 := w0) ⟨0, by omega, Below.refl _ _⟩ x
  exact h
theorem BI.cell {w0 : World} {b o : Nat} {v : Value} (h : w0.cell? ⟨b, o, none⟩ = some v) (x : World) : (FamI (Upto (BI w0) 200) w0 x).cell? ⟨b, o, none⟩ = some v := by
  rw [(BI.fam w0 x).cell (World.block_lt_of_cell? _ _ h)]
  exact h
theorem BI.after {w0 w w' : World} {m : Nat} (h : BI w0 m w) (hb : Below w.heap.size w w') : KeepB (fun _ => False) w w' ∧ BI w0 (m + 1) w' := ⟨KeepB.of_below hb, h.trans (hb.mono h.size)⟩
theorem BI.alloc {w0 w : World} {m : Nat} (o : Obj) (h : BI w0 m w) : BI w0 (m + 1) (w.alloc o) := (h.after ((Below.refl _ _).alloc (Nat.le_refl _) _)).2
theorem BI.size {w0 w : World} {m : Nat} (h : BI w0 m w) : w0.heap.size ≤ w.heap.size := Below.size h
end GK
end AG

/- A slice is copied: append(empty, s...). -/
namespace AG
open Go Go.RowKit

theorem run_append_copy {P : Program} (w : World) (base : Nat) (t ty e : TypeId) (i : TypeInfo) (z : Value) (size bytes : Nat) (ht : P.underlying t = some (.slice e)) (hi : P.info? e = some i) (hz : i.zero = some z)
    (hsize : i.size = size) (hby : i.bytes = bytes) (hzs : z.cells.size = size) (g : Nat) (hg : w.heap[g]? = some (.cells #[] e (0, 0))) (hbg : base ≤ g) (hbase : base ≤ w.heap.size)
    (A : Option Addr) (m c : Nat) (news : List Value) (hl : news.length = m * size) (hA : 0 < m → ∃ a, A = some a ∧ ∀ j u, news[j]? = some u → w.cell? (a.add j) = some u) (h1 : ∀ u ∈ news, u.oneCell' = true)
    (h63 : m ≤ maxLen) (hbytes : m * bytes ≤ 140737488355328) :
    ∃ v' w', (Builtin.append_ #[t, t] ty #[.slice (some ⟨g, 0, none⟩) 0 0, .slice A m c]).run P w = .ok v' w' ∧ w'.ownsRow base e size v' m news ∧ Below w.heap.size w w' := by
  subst hsize
  subst hby
  by_cases hm : m = 0
  · subst hm
    have hn : news = [] := List.eq_nil_of_length_eq_zero (by simpa using hl)
    subst hn
    have hs : Src P i.size t (.slice A 0 c) 0 [] w := by
      cases A with
      | none => exact Src.ofNil w ht c
      | some a => exact Src.ofSlice w ht a 0 c [] (by simp) (fun j u hj => by simp at hj) (fun u hu => by cases hu)
    exact ⟨_, w, run_append_nothing w t t ty e i ht hi (some ⟨g, 0, none⟩) 0 0 (Nat.le_refl _) _ hs, ⟨by simp, .inr ⟨g, 0, #[], rfl, hbg, hg, Nat.le_refl _, Nat.zero_le _, by simp, by simp⟩⟩, Below.refl _ _⟩
  · obtain ⟨a, rfl, hnews⟩ := hA (by omega)
    have hsmall : m ≤ 9223372036854775807 := by simp only [maxLen] at h63; omega
    have hr := run_append_grow (P := P) w t ty e i z ht hi hz ⟨g, 0, none⟩ 0 0 [] (by simp) (fun j u hj => by simp at hj) a m c news hl hnews (by omega) (by omega) (growslice_fits (by omega) (by simpa using hbytes))
    simp only [Nat.zero_add] at hr
    refine ⟨_, _, hr, ⟨hl, .inr ⟨w.heap.size, _, _, rfl, hbase, heap_alloc_new w.drew _, grownCap_ge w m 0 e, grownCap_le_maxLen w m 0 e h63, ?_, ?_⟩⟩, ?_⟩
    · have := grownCap_ge w m 0 e
      simp only [Array.size_append, List.size_toArray, size_zeroCells, hzs, List.length_nil, Nat.zero_add, hl, ← Nat.add_mul]
      congr 1
      omega
    · have e1 : ([].toArray ++ news.toArray ++ Builtin.zeroCells z.cells (grownCap w m 0 e - m)).toList = news ++ (Builtin.zeroCells z.cells (grownCap w m 0 e - m)).toList := by simp
      rw [e1, ← hl]
      exact List.take_left
    · exact (Below.refl w.heap.size w).drew.alloc (Nat.le_refl _) _

namespace GK
section
variable {P : Program} {ops : Array Oper} {M : Nat} {S : World → World → Prop} {I : Nat → World → Prop} {sp : Nat → Value → World → Prop} {w0 w1 : World}
variable {Q : List (Nat × (World → Prop)) → Act → Prop} {o : Oper} {rest : List Oper} {i : Nat} {Γ : List (Nat × (World → Prop))} {a : Act}
theorem grow_fact (Z : Value → World → Prop) (hw : Region.wanted o (yielded ops a.tmps) = true) (hs : ∀ u, Steady S (Z u))
    (hc : ∀ m w, m < M → I m w → FactsAt .any ops i Γ w → fnUpon (fun u w' => (S w w' ∧ I (m + 1) w') ∧ Z u w') ((execOp a.eval o).run P w))
    (h : ∀ u, (∃ m w', I m w' ∧ Z u w') → wpGrow P ops S I M w0 sp Q rest (i + 1) ((i, Z u) :: Γ) (a.put o.dst u)) : wpGrow P ops S I M w0 sp Q (o :: rest) i Γ a := by
  unfold wpGrow Res
  rw [if_pos hw]
  exact .inr (.inl ⟨Z, hs, hc, (fun h => by cases h), fun u _ hu => h u (hu rfl)⟩)

theorem own_steady {base : Nat} {e : TypeId} {size m : Nat} {news : List Value} (u : Value) : Steady (KeepB fun _ => False) (fun w => w.ownsRow base e size u m news) := fun _ _ h k => own_keep k h fun _ _ h => h

/-- append(empty, s...): a copy is made. -/
theorem grow_copy (hw : Region.wanted o (yielded ops a.tmps) = true) (s x : Operand) (t : TypeId) (ho : o.op = .call { callee := .builtin .append, args := #[s, x], argTypes := #[t, t] })
    (e : TypeId) (ti : TypeInfo) (z : Value) (size bytes : Nat) (ht : P.underlying t = some (.slice e)) (hi : P.info? e = some ti) (hz : ti.zero = some z)
    (hsize : ti.size = size) (hby : ti.bytes = bytes) (hzs : z.cells.size = size) (g : Nat) (hs : a.eval s = .slice (some ⟨g, 0, none⟩) 0 0) (hgf : ∀ w, FactsAt .any ops i Γ w → w1.heap.size ≤ g ∧ w.heap[g]? = some (.cells #[] e (0, 0)))
    (A : Option Addr) (m c : Nat) (news : List Value) (hx : a.eval x = .slice A m c) (hl : news.length = m * size) (hA : 0 < m → ∃ a, A = some a ∧ ∀ j u, news[j]? = some u → w1.cell? (a.add j) = some u) (h1 : ∀ u ∈ news, u.oneCell' = true)
    (h63 : m ≤ maxLen) (hbytes : m * bytes ≤ 140737488355328)
    (h : ∀ u, (∃ w', Below w1.heap.size w1 w' ∧ w'.ownsRow w1.heap.size e size u m news) → wpGrow P ops (KeepB fun _ => False) (BI w1) M w0 sp Q rest (i + 1) ((i, fun w' => w'.ownsRow w1.heap.size e size u m news) :: Γ) (a.put o.dst u)) :
    wpGrow P ops (KeepB fun _ => False) (BI w1) M w0 sp Q (o :: rest) i Γ a := by
  refine grow_fact (fun u w' => w'.ownsRow w1.heap.size e size u m news) hw own_steady (fun k w hk hb hf => ?_) fun u ⟨_, w', h1, h2⟩ => h u ⟨w', h1, h2⟩
  obtain ⟨g1, g2⟩ := hgf w hf
  obtain ⟨v', w', hr, h2, h3⟩ := run_append_copy (P := P) w w1.heap.size t o.type e ti z size bytes ht hi hz hsize hby hzs g g2 g1 hb.size A m c news hl (fun hm => by
    obtain ⟨a, ha, hc⟩ := hA hm
    refine ⟨a, ha, fun j u hj => ?_⟩
    have h4 := hc j u hj
    rw [Below.cell hb (World.block_lt_of_cell? _ _ h4)]
    exact h4) h1 h63 hbytes
  unfold execOp
  simp only [ho, resolve, invoke, builtin, Sem.run_bind, Sem.run_pure, Result.andThen_ok, List.map_toArray, List.map_cons, List.map_nil, hs, hx, hr]
  exact ⟨hb.after h3, h2⟩
end
end GK
end AG

/- The drawing kit's reader: what it is in memory; pick. -/
namespace Go.Proofs.YtdkjnemakkppfaaDoor
open Go.RowKit Go.BigFrame AG

/-- The reader at block R: its bytes are the slice '.slice A n c', its position p. -/
structure RdAt (w : World) (R : Nat) (A : Option Addr) (n c p : Nat) : Prop where
  blk : Blk w R 111 #[.slice A n c, .int .i64 (p : Int)]
  len : n ≤ 2000
  cap : n ≤ c
  top : c ≤ 9223372036854775807
  pos : p ≤ 1125899906842624
  bytes : 0 < n → ∃ b o, A = some ⟨b, o, none⟩ ∧ b < R ∧ ∀ i, i < n → ∃ x : Nat, x < 256 ∧ w.cell? ⟨b, o + i, none⟩ = some (.int .u8 (x : Int))

theorem xor_nonneg {a b : Int} (ha : 0 ≤ a ∧ a < 9223372036854775808) (hb : 0 ≤ b ∧ b < 9223372036854775808) : 0 ≤ bits .xor .i64 a b ∧ bits .xor .i64 a b < 9223372036854775808 := by
  obtain ⟨a, rfl⟩ := Int.eq_ofNat_of_zero_le ha.1
  obtain ⟨b, rfl⟩ := Int.eq_ofNat_of_zero_le hb.1
  have hx : a ^^^ b < 2 ^ 63 := Nat.xor_lt_two_pow (by omega) (by omega)
  have : bits .xor .i64 (a : Int) (b : Int) = ((a ^^^ b : Nat) : Int) := by
    show IntKind.i64.wrap ((BitVec.ofInt 64 (a : Int) ^^^ BitVec.ofInt 64 (b : Int)).toNat : Int) = _
    rw [BitVec.toNat_xor, ofInt_i64 a (by omega), ofInt_i64 b (by omega), IntKind.wrap_i64]
    omega
  rw [this]
  omega

theorem RdAt.later {w w' : World} {R : Nat} {A : Option Addr} {n c p : Nat} (h : RdAt w R A n c p) (hb : Below w.heap.size w w') : RdAt w' R A n c p :=
  ⟨h.blk.below hb h.blk.lt, h.len, h.cap, h.top, h.pos, fun hn => by
    obtain ⟨b, o, hA, hlt, hx⟩ := h.bytes hn
    have hR := h.blk.lt
    refine ⟨b, o, hA, hlt, fun i hi => ?_⟩
    obtain ⟨x, h1, h2⟩ := hx i hi
    exact ⟨x, h1, by rw [hb.cell (by simp; omega)]; exact h2⟩⟩

theorem RdAt.step {w : World} {R : Nat} {A : Option Addr} {n c p : Nat} {v : Value} (h : RdAt w R A n c p) (hp : p < 1125899906842624) (hv : v = .int .i64 ((p : Int) + 1)) :
    RdAt (w.setCell ⟨R, 1, none⟩ v) R A n c (p + 1) ∧ KeepB (fun b => b = R) w (w.setCell ⟨R, 1, none⟩ v) := by
  subst hv
  refine ⟨⟨?_, h.len, h.cap, h.top, by omega, fun hn => ?_⟩, (KeepB.refl _ w).setCell _ _ (fun _ => rfl)⟩
  · have := h.blk.set_ 1 (.int .i64 ((p : Int) + 1))
    simpa using this
  · obtain ⟨b, o, hA, hlt, hx⟩ := h.bytes hn
    refine ⟨b, o, hA, hlt, fun i hi => ?_⟩
    obtain ⟨x, h1, h2⟩ := hx i hi
    refine ⟨x, h1, ?_⟩
    rw [World.cell?_setCell_other (h := addr_ne (by omega))]
    exact h2

set_option maxRecDepth 100000 in
set_option maxHeartbeats 2000000 in
theorem pick_any (R : Nat) (A : Option Addr) (n c p : Nat) (m : Int) (w : World) (hp : p < 1125899906842624) (hm : m ≤ 9223372036854775807) (hr : RdAt w R A n c p) :
    Calls Tryd.prog 47 #[.pointer (some ⟨R, 0, none⟩), .int .i64 m] w fun e w' => ∃ k : Int, e = .returned (.int .i64 k) ∧ 0 ≤ k ∧ (k < m ∨ k = 0) ∧ RdAt w' R A n c (p + 1) ∧ KeepB (fun b => b = R) w w' := by
  have hblk := hr.blk
  have hR := hblk.lt
  have e0 : w.cell? ⟨R, 0, none⟩ = some (.slice A n c) := by rw [hblk.cell]; rfl
  have e1 : w.cell? ⟨R, 1, none⟩ = some (.int .i64 (p : Int)) := by rw [hblk.cell]; rfl
  have hfr : w.frozen? ⟨R, 1, none⟩ = false := hblk.frozen 1
  have hlen := hr.len
  have hcap := hr.cap
  have htop := hr.top
  replace hr := hid hr
  replace hblk := hid hblk
  have hst := hid (hr.out.step (v := .int .i64 ((p : Int) + 1)) hp rfl)
  by_cases hm1 : m < 1
  · go_enter Tryd.func47, Tryd.ntmps47
    go_wp2
    go_ret
    exact ⟨0, rfl, by omega, .inr rfl, hst.out.1, hst.out.2⟩
  · have hm0 : (m == 0) = false := by simp; omega
    by_cases hn : n = 0
    · subst hn
      go_enter Tryd.func47, Tryd.ntmps47
      go_wp2
      go_ret
      exact ⟨0, rfl, by omega, .inr rfl, hst.out.1, hst.out.2⟩
    · obtain ⟨b, o, rfl, hltR, hx⟩ := hr.out.bytes (by omega)
      have hne : b ≠ R := by omega
      have hlt : b < w.heap.size := by omega
      have hn0 : ((n : Int) == 0) = false := by simp; omega
      by_cases hpn : p < n
      · obtain ⟨x, hx1, hx2⟩ := hx p hpn
        have hmod : 0 ≤ (x : Int) % m ∧ (x : Int) % m < m := ⟨Int.emod_nonneg _ (by omega), Int.emod_lt_of_pos _ (by omega)⟩
        replace hx := hid hx
        replace hmod := hid hmod
        have hneA : (⟨R, 1, none⟩ : Addr) ≠ ⟨b, o + p, none⟩ := addr_ne hne
        go_enter Tryd.func47, Tryd.ntmps47
        go_wp2
        go_ret
        exact ⟨_, rfl, hmod.out.1, .inl hmod.out.2, hst.out.1, hst.out.2⟩
      · have hw1 := hst.out.1
        obtain ⟨i1, hi1⟩ : ∃ i1, i1 = p % n := ⟨_, rfl⟩
        obtain ⟨i2, hi2⟩ : ∃ i2, i2 = (p * 7 + 3) % n := ⟨_, rfl⟩
        obtain ⟨q, hq⟩ : ∃ q, q = p / n := ⟨_, rfl⟩
        have hi1n : i1 < n := by rw [hi1]; exact Nat.mod_lt _ (by omega)
        have hi2n : i2 < n := by rw [hi2]; exact Nat.mod_lt _ (by omega)
        have hqp : q ≤ p := by rw [hq]; exact Nat.div_le_self _ _
        have k1 : (p : Int) % (n : Int) = (i1 : Int) := by rw [hi1]; omega
        have k2 : ((p : Int) * 7 + 3) % (n : Int) = (i2 : Int) := by rw [hi2]; simp
        have k3 : (p : Int) / (n : Int) = (q : Int) := by rw [hq]; omega
        obtain ⟨b', o', hA', -, hx'⟩ := hw1.bytes (by omega)
        injection hA' with hA'
        injection hA' with hA1 hA2
        subst hA1 hA2
        obtain ⟨x1, hx1, hy1⟩ := hx' i1 hi1n
        obtain ⟨x2, hx2, hy2⟩ := hx' i2 hi2n
        have hblk1 := hw1.blk
        replace hx := hid hx
        replace hx' := hid hx'
        replace hi1 := hid hi1
        replace hi2 := hid hi2
        replace hq := hid hq
        obtain ⟨w1, hw1e⟩ : ∃ w1, w1 = w.setCell ⟨R, 1, none⟩ (.int .i64 ((p : Int) + 1)) := ⟨_, rfl⟩
        rw [← hw1e] at hy1 hy2 hblk1
        have g0 : ∀ y, (Fam w1.heap.size w1 y).cell? ⟨R, 0, none⟩ = some (.slice (some ⟨b, o, none⟩) n c) := fun y => by rw [(Fam.below _ _ y).cell (by simpa using hblk1.lt), hblk1.cell]; rfl
        have hb1 : b < w1.heap.size := by rw [hw1e]; simpa using hlt
        have g1 : ∀ y, (Fam w1.heap.size w1 y).cell? ⟨b, o + i1, none⟩ = some (.int .u8 (x1 : Int)) := fun y => by rw [(Fam.below _ _ y).cell (by simpa using hb1)]; exact hy1
        have g2 : ∀ y, (Fam w1.heap.size w1 y).cell? ⟨b, o + i2, none⟩ = some (.int .u8 (x2 : Int)) := fun y => by rw [(Fam.below _ _ y).cell (by simpa using hb1)]; exact hy2
        replace hw1e := hid hw1e
        replace hw1 := hid hw1
        replace hblk1 := hid hblk1
        clear hy1 hy2
        have hxor := hid (xor_nonneg (a := (x1 : Int) * 131 + x2 * 1117 + p * 29 + q * 53) (b := ((x1 : Int) * 131 + x2 * 1117 + p * 29 + q * 53) / 64) (by omega) (by omega))
        go_enter Tryd.func47, Tryd.ntmps47
        go_wp2_with fail
        rw [← hw1e.out]
        refine wp_region_fam w1.heap.size w1 (by kernel_rfl) (by kernel_rfl) (Below.refl _ _) ?_
        (repeat (go_big_quiet_step (fail)))
        refine wpQuiet_nil ?_
        intro w2 hw2
        replace hw2 := Fam.out hw2
        go_wp2
        go_ret
        have hw1' : RdAt w1 R (some ⟨b, o, none⟩) n c (p + 1) := by rw [hw1e.out]; exact hw1.out
        have hk1 : KeepB (fun b => b = R) w w1 := by rw [hw1e.out]; exact hst.out.2
        exact ⟨_, rfl, Int.tmod_nonneg _ hxor.out.1, .inl (Int.tmod_lt_of_pos _ (by omega)), hw1'.later hw2, hk1.trans (KeepB.of_below hw2)⟩

/-- The reader at block R, its position at most P. -/
def RdUp (w : World) (R P : Nat) : Prop := ∃ A n c p, p ≤ P ∧ RdAt w R A n c p
theorem RdUp.more {w : World} {R P P' : Nat} (h : RdUp w R P) (hP : P ≤ P') : RdUp w R P' := by
  obtain ⟨A, n, c, p, h1, h2⟩ := h
  exact ⟨A, n, c, p, by omega, h2⟩
theorem RdUp.later {w w' : World} {R P : Nat} (h : RdUp w R P) (hb : Below w.heap.size w w') : RdUp w' R P := by
  obtain ⟨A, n, c, p, h1, h2⟩ := h
  exact ⟨A, n, c, p, h1, h2.later hb⟩
theorem RdUp.lt {w : World} {R P : Nat} (h : RdUp w R P) : R < w.heap.size := by
  obtain ⟨A, n, c, p, h1, h2⟩ := h
  exact h2.blk.lt
/-- Later blocks may be written. -/
theorem RdUp.keep {K : Nat → Prop} {w w' : World} {R P : Nat} (h : RdUp w R P) (hb : KeepB K w w') (hK : ∀ k, K k → R < k) : RdUp w' R P := by
  obtain ⟨A, n, c, p, h1, h2⟩ := h
  have hR := h2.blk.lt
  refine ⟨A, n, c, p, h1, h2.blk.keep hb (fun hk => by have := hK _ hk; omega), h2.len, h2.cap, h2.top, h2.pos, fun hn => ?_⟩
  obtain ⟨b, o, hA, hlt, hx⟩ := h2.bytes hn
  refine ⟨b, o, hA, hlt, fun i hi => ?_⟩
  obtain ⟨x, g1, g2⟩ := hx i hi
  refine ⟨x, g1, ?_⟩
  have : w'.cell? ⟨b, o + i, none⟩ = w.cell? ⟨b, o + i, none⟩ := by
    unfold World.cell?
    rw [hb.block b (by omega) (fun hk => by have := hK _ hk; omega)]
  rw [this]
  exact g2

def PickPost (R P : Nat) (m : Int) (w : World) (e : Ending) (w' : World) : Prop := ∃ k : Int, e = .returned (.int .i64 k) ∧ 0 ≤ k ∧ (k < m ∨ k = 0) ∧ RdUp w' R (P + 1) ∧ KeepB (fun b => b = R) w w'
theorem pick_up (R P : Nat) (m : Int) (w : World) (hP : P < 1125899906842624) (hm : m ≤ 9223372036854775807) (h : RdUp w R P) :
    Calls Tryd.prog 47 #[.pointer (some ⟨R, 0, none⟩), .int .i64 m] w (PickPost R P m w) := by
  obtain ⟨A, n, c, p, h1, h2⟩ := h
  exact (pick_any R A n c p m w (by omega) hm h2).mono fun e w' ⟨k, a1, a2, a3, a4, a5⟩ => ⟨k, a1, a2, a3, ⟨A, n, c, p + 1, by omega, a4⟩, a5⟩

end Go.Proofs.YtdkjnemakkppfaaDoor

/- The drawing kit: l19Open, num, of. -/
namespace Go.Proofs.YtdkjnemakkppfaaDoor
open Go.RowKit Go.BigFrame AG

theorem KeepB.cell_ {K : Nat → Prop} {w w' : World} (h : KeepB K w w') {p : Addr} (hb : p.block < w.heap.size) (hK : ¬ K p.block) : w'.cell? p = w.cell? p := by
  unfold World.cell?
  rw [h.block _ hb hK]

set_option maxHeartbeats 1000000 in
theorem num_up (R P g o k cap : Nat) (xs : List Int) (w : World) (hxl : xs.length = k) (hk : 0 < k) (hk2 : k ≤ 4294967296) (hP : P < 1125899906842624)
    (hgR : g ≠ R) (hgl : g < w.heap.size) (hxs : ∀ i (h : i < xs.length), w.cell? ⟨g, o + i, none⟩ = some (.int .i64 xs[i])) (hr : RdUp w R P) :
    Calls Tryd.prog 83 #[.pointer (some ⟨R, 0, none⟩), .slice (some ⟨g, o, none⟩) k cap] w fun e w' => ∃ x, x ∈ xs ∧ e = .returned (.int .i64 x) ∧ RdUp w' R (P + 1) ∧ KeepB (fun b => b = R) w w' := by
  replace hr := hid hr
  replace hxs := hid hxs
  go_enter Tryd.func83, Tryd.ntmps83
  go_wp2_with fail
  refine (pick_up R P k w hP (by omega) hr.out).mono ?_
  rintro e w1 ⟨j, rfl, hj0, hj1, hr1, hk1⟩
  obtain ⟨i, rfl⟩ := Int.eq_ofNat_of_zero_le hj0
  have hik : i < xs.length := by omega
  have e1 : w1.cell? ⟨g, o + i, none⟩ = some (.int .i64 xs[i]) := by rw [KeepB.cell_ hk1 (p := ⟨g, o + i, none⟩) hgl hgR]; exact hxs.out i hik
  have hik2 : (i : Int) < (k : Int) := by omega
  replace hr1 := hid hr1
  replace hk1 := hid hk1
  clear hj1
  go_wp2
  go_ret
  exact ⟨_, List.getElem_mem _, rfl, hr1.out, hk1.out⟩

set_option maxHeartbeats 1000000 in
theorem of_up (R P g o k cap : Nat) (xs : List ByteArray) (w : World) (hxl : xs.length = k) (hk : 0 < k) (hk2 : k ≤ 4294967296) (hP : P < 1125899906842624)
    (hgR : g ≠ R) (hgl : g < w.heap.size) (hxs : ∀ i (h : i < xs.length), w.cell? ⟨g, o + i, none⟩ = some (.string xs[i])) (hr : RdUp w R P) :
    Calls Tryd.prog 85 #[.pointer (some ⟨R, 0, none⟩), .slice (some ⟨g, o, none⟩) k cap] w fun e w' => ∃ x, x ∈ xs ∧ e = .returned (.string x) ∧ RdUp w' R (P + 1) ∧ KeepB (fun b => b = R) w w' := by
  replace hr := hid hr
  replace hxs := hid hxs
  go_enter Tryd.func85, Tryd.ntmps85
  go_wp2_with fail
  refine (pick_up R P k w hP (by omega) hr.out).mono ?_
  rintro e w1 ⟨j, rfl, hj0, hj1, hr1, hk1⟩
  obtain ⟨i, rfl⟩ := Int.eq_ofNat_of_zero_le hj0
  have hik : i < xs.length := by omega
  have e1 : w1.cell? ⟨g, o + i, none⟩ = some (.string xs[i]) := by rw [KeepB.cell_ hk1 (p := ⟨g, o + i, none⟩) hgl hgR]; exact hxs.out i hik
  have hik2 : (i : Int) < (k : Int) := by omega
  replace hr1 := hid hr1
  replace hk1 := hid hk1
  clear hj1
  go_wp2
  go_ret
  exact ⟨_, List.getElem_mem _, rfl, hr1.out, hk1.out⟩

/-- The bytes of an argument, below block B. -/
def CodeAt (w : World) (A : Option Addr) (n : Nat) : Prop := 0 < n → ∃ b o, A = some ⟨b, o, none⟩ ∧ b < w.heap.size ∧ ∀ i, i < n → ∃ x : Nat, x < 256 ∧ w.cell? ⟨b, o + i, none⟩ = some (.int .u8 (x : Int))

set_option maxHeartbeats 1000000 in
theorem l19Open_any (A : Option Addr) (n c : Nat) (w : World) (hn : n ≤ c) (hc : c ≤ 9223372036854775807) (hx : 0 < n → ∃ b o, A = some ⟨b, o, none⟩ ∧ b < w.heap.size ∧ ∀ i, i < n → ∃ x : Nat, x < 256 ∧ w.cell? ⟨b, o + i, none⟩ = some (.int .u8 (x : Int))) :
    Calls Tryd.prog 45 #[.slice A n c] w fun e w' => ∃ R, e = .returned (.pointer (some ⟨R, 0, none⟩)) ∧ w.heap.size ≤ R ∧ RdUp w' R 0 ∧ Below w.heap.size w w' := by
  replace hx := hid hx
  by_cases h2 : n ≤ 2000
  · go_enter Tryd.func45, Tryd.ntmps45
    go_wp2
    go_ret
    refine ⟨w.heap.size, rfl, Nat.le_refl _, ⟨A, n, c, 0, Nat.le_refl _, Blk.new w _ _, h2, hn, hc, by omega, fun hpos => ?_⟩, (Below.refl _ _).alloc (Nat.le_refl _) _⟩
    obtain ⟨b, o, hA, hb, hx'⟩ := hx.out hpos
    refine ⟨b, o, hA, hb, fun i hi => ?_⟩
    obtain ⟨x, h1, h3⟩ := hx' i hi
    exact ⟨x, h1, by rw [World.cell?_alloc_lt (h := by simpa using hb)]; exact h3⟩
  · obtain ⟨b, o, rfl, hb, hx'⟩ := hx.out (by omega)
    replace hx' := hid hx'
    go_enter Tryd.func45, Tryd.ntmps45
    go_wp2
    go_ret
    refine ⟨w.heap.size, rfl, Nat.le_refl _, ⟨_, 2000, c, 0, Nat.le_refl _, Blk.new w _ _, Nat.le_refl _, by omega, hc, by omega, fun _ => ⟨b, o, rfl, hb, fun i hi => ?_⟩⟩, (Below.refl _ _).alloc (Nat.le_refl _) _⟩
    obtain ⟨x, h1, h3⟩ := hx'.out i (by omega)
    exact ⟨x, h1, by rw [World.cell?_alloc_lt (h := by simpa using hb)]; exact h3⟩

def NumUp (R P : Nat) (xs : List Int) (w : World) (e : Ending) (w' : World) : Prop := ∃ x, x ∈ xs ∧ e = .returned (.int .i64 x) ∧ RdUp w' R (P + 1) ∧ KeepB (fun b => b = R) w w'
/-- A number out of a list that has just been made. -/
theorem num_lit (R P : Nat) (xs : List Int) (w : World) (T : TypeId) (hk : 0 < xs.length) (hk2 : xs.length ≤ 1000) (hP : P < 1125899906842624) (hr : RdUp w R P) :
    Calls Tryd.prog 83 #[.pointer (some ⟨R, 0, none⟩), .slice (some ⟨w.heap.size, 0, none⟩) xs.length xs.length] (w.alloc (.cells (xs.map (Value.int .i64)).toArray T)) (NumUp R P xs w) := by
  have hR := hr.lt
  have hb : Below w.heap.size w (w.alloc (.cells (xs.map (Value.int .i64)).toArray T)) := (Below.refl _ _).alloc (Nat.le_refl _) _
  refine (num_up R P w.heap.size 0 xs.length xs.length xs _ rfl hk (by omega) hP (by omega) (by simp) (fun i h => ?_) (hr.later hb)).mono fun e w' ⟨x, h1, h2, h3, h4⟩ => ⟨x, h1, h2, h3, (KeepB.of_below hb).trans h4⟩
  rw [Nat.zero_add, World.cell?_alloc_at _ _ _ _ rfl]
  simp [h]

end Go.Proofs.YtdkjnemakkppfaaDoor

/- The drawing kit: l2Texts, l19Num. -/
namespace Go.Proofs.YtdkjnemakkppfaaDoor
open Go.RowKit Go.BigFrame AG

def isText (v : Value) : Bool := match v with | .string b => decide (b.size ≤ 60) | _ => false
theorem texts_list : ∀ vs : List Value, vs.all isText = true → ∃ xs : List ByteArray, vs = xs.map Value.string ∧ ∀ x ∈ xs, x.size ≤ 60
  | [], _ => ⟨[], rfl, by simp⟩
  | v :: vs, h => by
    rw [List.all_cons, Bool.and_eq_true] at h
    obtain ⟨xs, h1, h2⟩ := texts_list vs h.2
    have h3 := h.1
    unfold isText at h3
    split at h3
    · rename_i b
      refine ⟨b :: xs, by rw [h1]; rfl, fun x hx => ?_⟩
      rcases List.mem_cons.1 hx with rfl | hx
      · exact of_decide_eq_true h3
      · exact h2 x hx
    · cases h3
theorem texts_of (w : World) (T : TypeId) (cs : Array Value) (h : cs.toList.all isText = true) :
    ∃ xs : List ByteArray, xs.length = cs.size ∧ (∀ x ∈ xs, x.size ≤ 60) ∧ ∀ i (hi : i < xs.length), (w.alloc (.cells cs T)).cell? ⟨w.heap.size, 0 + i, none⟩ = some (.string xs[i]) := by
  obtain ⟨xs, h1, h2⟩ := texts_list _ h
  have hlen : xs.length = cs.size := by
    have := congrArg List.length h1
    simpa using this.symm
  refine ⟨xs, hlen, h2, fun i hi => ?_⟩
  rw [Nat.zero_add, World.cell?_alloc_at _ _ _ _ rfl, ← Array.getElem?_toList, h1, List.getElem?_map, List.getElem?_eq_getElem hi]
  rfl

theorem texts_post (w : World) (T : TypeId) (cs : Array Value) (e : Ending) (he : e = .returned (.slice (some ⟨w.heap.size, 0, none⟩) 11 11)) (hn : cs.size = 11) (h : cs.toList.all isText = true) :
    ∃ xs : List ByteArray, xs.length = 11 ∧ (∀ x ∈ xs, x.size ≤ 60) ∧ e = .returned (.slice (some ⟨w.heap.size, 0, none⟩) 11 11) ∧ (∀ i (hi : i < xs.length), (w.alloc (.cells cs T)).cell? ⟨w.heap.size, 0 + i, none⟩ = some (.string xs[i])) ∧ w.heap.size < (w.alloc (.cells cs T)).heap.size ∧ Below w.heap.size w (w.alloc (.cells cs T)) := by
  obtain ⟨xs, h1, h2, h3⟩ := texts_of w T cs h
  exact ⟨xs, h1.trans hn, h2, he, h3, by simp, (Below.refl _ _).alloc (Nat.le_refl _) _⟩

set_option maxHeartbeats 1000000 in
theorem l2Texts_any (w : World) :
    Calls Tryd.prog 86 #[] w fun e w' => ∃ xs : List ByteArray, xs.length = 11 ∧ (∀ x ∈ xs, x.size ≤ 60) ∧ e = .returned (.slice (some ⟨w.heap.size, 0, none⟩) 11 11) ∧ (∀ i (hi : i < xs.length), w'.cell? ⟨w.heap.size, 0 + i, none⟩ = some (.string xs[i])) ∧ w.heap.size < w'.heap.size ∧ Below w.heap.size w w' := by
  go_enter Tryd.func86, Tryd.ntmps86
  go_wp2
  go_ret
  exact texts_post w _ _ _ rfl rfl (by kernel_rfl)

end Go.Proofs.YtdkjnemakkppfaaDoor

/- The drawing kit: l19Num ends with some number. -/
namespace Go.Proofs.YtdkjnemakkppfaaDoor
open Go.RowKit Go.BigFrame AG

theorem byte_some (s : ByteArray) (i : Nat) (h : i < s.size) : ∃ y : Nat, y < 256 ∧ ((s[i]'h).toNat : Int) = (y : Int) := ⟨(s[i]'h).toNat, (s[i]'h).toNat_lt, rfl⟩

def NumLitPost (w : World) (e : Ending) (w' : World) : Prop := ∃ (n : Int) (b : Bool), e = .returned (.tuple #[.int .i64 n, .bool b]) ∧ w = w'

set_option maxHeartbeats 2000000 in
theorem l19Num_plain (s : ByteArray) (w : World) (hz : s.size ≤ 1000000) (hn : ∀ h : 0 < s.size, (s[0]'h).toNat ≠ 45) :
    Calls Tryd.prog 118 #[.string s] w (NumLitPost w) := by
  by_cases h0 : s.size = 0
  · go_enter Tryd.func118, Tryd.ntmps118
    go_wp2
    go_ret2
    exact ⟨_, _, rfl, rfl⟩
  · have hpos : (0 : Int) < (s.size : Int) := by omega
    obtain ⟨y, hy, hy2⟩ := byte_some s 0 (by omega)
    have hneg2 : ((y : Int) == 45) = false := by
      have h45 : (s[0]'(by omega)).toNat ≠ 45 := hn (by omega)
      rw [beq_eq_false_iff_ne]
      omega
    replace hn := hid hn
    have a1 : ((s.size : Int) == 0) = false := by rw [beq_eq_false_iff_ne]; omega
    by_cases h17 : 17 < s.size
    · have a2 : decide (17 < (s.size : Int)) = true := by simp; omega
      go_enter Tryd.func118, Tryd.ntmps118
      go_wp2
      go_ret2
      exact ⟨_, _, rfl, rfl⟩
    · have a2 : decide (17 < (s.size : Int)) = false := by simp; omega
      by_cases hbad : y = 48 ∧ 1 < s.size
      · have a3 : ((y : Int) == 48) = true := by simp; omega
        have a4 : decide (1 < (s.size : Int)) = true := by simp; omega
        go_enter Tryd.func118, Tryd.ntmps118
        go_wp2
        go_ret2
        exact ⟨_, _, rfl, rfl⟩
      · by_cases h48 : y = 48
        · have a3 : ((y : Int) == 48) = true := by simp; omega
          have a4 : decide (1 < (s.size : Int)) = false := by simp; omega
          replace hbad := hid hbad
          go_enter Tryd.func118, Tryd.ntmps118
          go_wp2_with fail
          go_loopw [5, 6] (fun v i wr => ∃ (x : Int) (k : Nat), v = .int .i64 x ∧ i = .int .i64 k ∧ k ≤ s.size ∧ w = wr) (fun _ i _ => s.size - (intOf i).toNat)
          case atStart => exact ⟨0, 0, rfl, rfl, by omega, rfl⟩
          case round =>
            obtain ⟨x, k, rfl, rfl, hk, rfl⟩ := hrel
            by_cases hlt : k < s.size
            · obtain ⟨z, hz1, hz2⟩ := byte_some s k hlt
              have hk2 : (0 : Int) ≤ (k : Int) ∧ (k : Int) < (s.size : Int) := by omega
              go_wp2
              all_goals first
                | (go_ret2; exact ⟨_, _, rfl, rfl⟩)
                | (go_roundw
                   case rel => exact ⟨_, k + 1, rfl, by go_num, by omega, by first | trivial | rfl⟩
                   case measure => simp [intOf]; omega)
            · go_wp2
              go_ret2
              exact ⟨_, _, rfl, rfl⟩
        · have a3 : ((y : Int) == 48) = false := by simp; omega
          replace hbad := hid hbad
          go_enter Tryd.func118, Tryd.ntmps118
          go_wp2_with fail
          go_loopw [5, 6] (fun v i wr => ∃ (x : Int) (k : Nat), v = .int .i64 x ∧ i = .int .i64 k ∧ k ≤ s.size ∧ w = wr) (fun _ i _ => s.size - (intOf i).toNat)
          case atStart => exact ⟨0, 0, rfl, rfl, by omega, rfl⟩
          case round =>
            obtain ⟨x, k, rfl, rfl, hk, rfl⟩ := hrel
            by_cases hlt : k < s.size
            · obtain ⟨z, hz1, hz2⟩ := byte_some s k hlt
              have hk2 : (0 : Int) ≤ (k : Int) ∧ (k : Int) < (s.size : Int) := by omega
              go_wp2
              all_goals first
                | (go_ret2; exact ⟨_, _, rfl, rfl⟩)
                | (go_roundw
                   case rel => exact ⟨_, k + 1, rfl, by go_num, by omega, by first | trivial | rfl⟩
                   case measure => simp [intOf]; omega)
            · go_wp2
              go_ret2
              exact ⟨_, _, rfl, rfl⟩

set_option maxHeartbeats 2000000 in
theorem l19Num_sign (s : ByteArray) (w : World) (hz : s.size ≤ 1000000) (hs : 0 < s.size) (hn : (s[0]'hs).toNat = 45) :
    Calls Tryd.prog 118 #[.string s] w (NumLitPost w) := by
  have hpos : (0 : Int) < (s.size : Int) := by omega
  obtain ⟨y, hy, hy2⟩ := byte_some s 0 hs
  have hneg2 : ((y : Int) == 45) = true := by rw [beq_iff_eq]; omega
  obtain ⟨t, ht⟩ : ∃ t, s.extract 1 s.size = t := ⟨_, rfl⟩
  have htz : t.size = s.size - 1 := by rw [← ht, ByteArray.size_extract]; omega
  have hle : (1 : Int) ≤ (s.size : Int) := by omega
  have htl : t.size ≤ 1000000 := by omega
  replace htz := hid htz
  replace hn := hid hn
  by_cases h0 : t.size = 0
  · have a1 : ((t.size : Int) == 0) = true := by rw [beq_iff_eq]; omega
    go_enter Tryd.func118, Tryd.ntmps118
    go_wp2
    go_ret2
    exact ⟨_, _, rfl, rfl⟩
  · have a1 : ((t.size : Int) == 0) = false := by rw [beq_eq_false_iff_ne]; omega
    have hpos2 : (0 : Int) < (t.size : Int) := by omega
    obtain ⟨y2, hy3, hy4⟩ := byte_some t 0 (by omega)
    by_cases h17 : 17 < t.size
    · have a2 : decide (17 < (t.size : Int)) = true := by simp; omega
      go_enter Tryd.func118, Tryd.ntmps118
      go_wp2
      go_ret2
      exact ⟨_, _, rfl, rfl⟩
    · have a2 : decide (17 < (t.size : Int)) = false := by simp; omega
      by_cases h48 : y2 = 48
      · have a3 : ((y2 : Int) == 48) = true := by simp; omega
        by_cases h1 : 1 < t.size
        all_goals
          go_enter Tryd.func118, Tryd.ntmps118
          go_wp2
          go_ret2
          exact ⟨_, _, rfl, rfl⟩
      · have a3 : ((y2 : Int) == 48) = false := by simp; omega
        go_enter Tryd.func118, Tryd.ntmps118
        go_wp2_with fail
        go_loopw [5, 6] (fun v i wr => ∃ (x : Int) (k : Nat), v = .int .i64 x ∧ i = .int .i64 k ∧ k ≤ t.size ∧ w = wr) (fun _ i _ => t.size - (intOf i).toNat)
        case atStart => exact ⟨0, 0, rfl, rfl, by omega, rfl⟩
        case round =>
          obtain ⟨x, k, rfl, rfl, hk, rfl⟩ := hrel
          by_cases hlt : k < t.size
          · obtain ⟨z, hz1, hz2⟩ := byte_some t k hlt
            have hk2 : (0 : Int) ≤ (k : Int) ∧ (k : Int) < (t.size : Int) := by omega
            go_wp2
            all_goals first
              | (go_ret2; exact ⟨_, _, rfl, rfl⟩)
              | (go_roundw
                 case rel => exact ⟨_, k + 1, rfl, by go_num, by omega, by first | trivial | rfl⟩
                 case measure => simp [intOf]; omega)
          · go_wp2
            go_ret2
            exact ⟨_, _, rfl, rfl⟩

theorem l19Num_any (s : ByteArray) (w : World) (hz : s.size ≤ 1000000) : Calls Tryd.prog 118 #[.string s] w (NumLitPost w) := by
  by_cases hs : 0 < s.size
  · by_cases hn : (s[0]'hs).toNat = 45
    · exact l19Num_sign s w hz hs hn
    · exact l19Num_plain s w hz fun _ => hn
  · exact l19Num_plain s w hz fun h => absurd h hs

end Go.Proofs.YtdkjnemakkppfaaDoor

/- The drawing kit: texts of alphabets, numbers and edges (their texts are not told, only their sizes). -/
namespace Go.Proofs.YtdkjnemakkppfaaDoor
open Go.RowKit Go.BigFrame AG

def StrPost (N : Nat) (w : World) (e : Ending) (w' : World) : Prop := ∃ x : ByteArray, e = .returned (.string x) ∧ x.size ≤ N ∧ Below w.heap.size w w'

theorem conv_digit (w : World) (d : Nat) (hd : d < 10) :
    (convert 35 9 (.slice (some ⟨w.heap.size, 0, none⟩) 1 1)).run Tryd.prog (w.alloc (Obj.cells #[Value.int IntKind.u8 (48 + (d : Int))] 5)) = .ok (.string ⟨#[UInt8.ofNat (48 + d)]⟩) (w.alloc (Obj.cells #[Value.int IntKind.u8 (48 + (d : Int))] 5)) := by
  have hb : ((UInt8.ofNat (48 + d)).toNat : Int) = 48 + (d : Int) := by
    rw [UInt8.toNat_ofNat']
    omega
  exact run_convert_bytes_back (P := Tryd.prog) _ 35 9 5 ⟨w.heap.size, 0, none⟩ 1 [UInt8.ofNat (48 + d)] Tryd.underlying35 Tryd.underlying5 Tryd.underlying9 (fun j hj => by
      obtain rfl : j = 0 := by simpa using hj
      rw [List.getElem_cons_zero, hb]
      simp [Addr.add])

set_option maxRecDepth 100000 in
set_option maxHeartbeats 1000000 in
theorem l19Dec_any (n : Nat) (hn : n ≤ 1000) (w : World) : Calls Tryd.prog 138 #[.int .i64 n] w (StrPost 1001 w) := by
  go_enter Tryd.func138, Tryd.ntmps138
  go_wp2_with fail
  go_loopw [0, 3] (fun i s wr => ∃ (m : Nat) (x : ByteArray), i = .int .i64 m ∧ s = .string x ∧ x.size + m ≤ 1000 ∧ Below w.heap.size w wr) (fun i _ _ => (intOf i).toNat)
  case atStart => exact ⟨n, ⟨#[]⟩, rfl, rfl, by show 0 + n ≤ 1000; omega, Below.refl _ _⟩
  case round =>
    obtain ⟨m, x, rfl, rfl, hx, hb⟩ := hrel
    have hz := hb.size
    by_cases hm : 9 < m
    · obtain ⟨d, hd⟩ : ∃ d : Nat, d = m % 10 := ⟨_, rfl⟩
      obtain ⟨q, hq⟩ : ∃ q : Nat, q = m / 10 := ⟨_, rfl⟩
      have e1 : (m : Int) % 10 = (d : Int) := by omega
      have e2 : (m : Int) / 10 = (q : Int) := by omega
      have hd10 : d < 10 := by omega
      have hqm : q + 1 ≤ m := by omega
      have kc := conv_digit wr d hd10
      replace hd := hid hd
      replace hq := hid hq
      go_wp2_with fail
      go_roundw
      case rel => exact ⟨q, _, rfl, rfl, by rw [ByteArray.size_append]; show 1 + x.size + q ≤ 1000; omega, hb.alloc hz _⟩
      case measure => simp [intOf]; omega
    · have kc := conv_digit wr m (by omega)
      go_wp2_with fail
      go_ret
      exact ⟨_, rfl, by rw [ByteArray.size_append]; show 1 + x.size ≤ 1001; omega, hb.alloc hz _⟩

set_option maxRecDepth 100000 in
set_option maxHeartbeats 2000000 in
theorem formatAlpha_any (A : Int) (w : World) : Calls Tryd.prog 136 #[.int .i64 A] w (StrPost 6 w) := by
  by_cases ha : alphaOk A = true
  · by_cases h0 : A = 0
    · subst h0
      replace ha := hid ha
      go_enter Tryd.func136, Tryd.ntmps136
      go_wp2_with (go_at_call 70; refine (l1Alphabet_any _ _).mono ?_; rintro e w' ⟨rfl, rfl⟩; rw [ha.out])
      go_ret
      exact ⟨_, rfl, by decide, Below.refl _ _⟩
    · have hb0 : ((A : Int) == 0) = false := by simpa using h0
      replace ha := hid ha
      replace h0 := hid h0
      go_enter Tryd.func136, Tryd.ntmps136
      go_wp2_with (first
        | (go_at_call 70; refine (l1Alphabet_any _ _).mono ?_; rintro e w' ⟨rfl, rfl⟩; rw [ha.out])
        | (go_at_call 32; refine (l1Letters_any _ _).mono ?_; rintro e w2 ⟨lv, rfl, hown, hb2⟩))
      have hl6 := lettersTo_len A 6
      have hll : letters A = lettersTo A 6 := rfl
      rw [← hll] at hl6
      obtain ⟨Al, cl, hvl, hcl, hcl'⟩ := own_slice hown
      subst hvl
      obtain ⟨ls, hls⟩ : ∃ ls, Hid (ls = letters A) := ⟨_, hid rfl⟩
      rw [← hls.out] at hown hl6 hcl
      rw [← hls.out]
      clear hll
      replace hown := hid hown
      go_wp2_with fail
      go_loopw [3, 5] (fun s i wr => ∃ (k : Nat) (x : ByteArray), i = .int .i64 k ∧ s = .string x ∧ x.size = k ∧ k ≤ ls.length ∧ Below w2.heap.size w2 wr) (fun _ i _ => ls.length - (intOf i).toNat)
      case atStart => exact ⟨0, ⟨#[]⟩, rfl, rfl, rfl, by omega, Below.refl _ _⟩
      case round =>
        obtain ⟨k, x, rfl, rfl, hx, hk, hb⟩ := hrel
        replace hx := hid hx
        have hz := hb.size
        by_cases hlt : k < ls.length
        · obtain ⟨g, cap, hve, hg1, hg2, -, -, hL⟩ := own_nats hown.out (by omega)
          injection hve with hv1 hv2 hv3
          subst hv1
          subst hv3
          have l0 := hL k hlt
          obtain ⟨l, hl⟩ : ∃ l : Nat, l = ls[k] := ⟨_, rfl⟩
          have hl6' : l < 6 := by
            have := letters_lt (A := A) (l := l) (by rw [← hls.out, hl]; exact List.getElem_mem _)
            exact this.1
          rw [← hl] at l0
          have l1 : wr.cell? ⟨g, k, none⟩ = some (.int .i64 (l : Nat)) := by rw [hb.cell (by simpa using hg2)]; exact l0
          have k1 : (0 : Int) ≤ (k : Int) ∧ (k : Int) < (ls.length : Int) := by omega
          have hxs : x.size ≤ 6 := by rw [hx.out]; omega
          replace hL := hid hL
          replace hl := hid hl
          clear l0
          go_wp2_with (go_at_call 68; refine (l1Text_any l hl6' _).mono ?_; rintro e w3 ⟨rfl, hb3⟩)
          have hb4 := hb.trans (hb3.mono hz)
          go_roundw
          case rel => exact ⟨k + 1, _, by go_num, rfl, by rw [ByteArray.size_append, hx.out]; rfl, by omega, hb4⟩
          case measure => simp [intOf]; omega
        · have hb4 := hb2.trans (hb.mono hb2.size)
          go_wp2_with fail
          go_ret
          exact ⟨_, rfl, by rw [hx.out]; omega, hb4⟩
  · replace ha : alphaOk A = false := by simpa using ha
    replace ha := hid ha
    go_enter Tryd.func136, Tryd.ntmps136
    go_wp2_with (go_at_call 70; refine (l1Alphabet_any _ _).mono ?_; rintro e w' ⟨rfl, rfl⟩; rw [ha.out])
    go_ret
    exact ⟨_, rfl, by decide, Below.refl _ _⟩

def NumPostB (w : World) (e : Ending) (w' : World) : Prop := ∃ (n : Int) (b : Bool), e = .returned (.tuple #[.int .i64 n, .bool b]) ∧ Below w.heap.size w w'

set_option maxRecDepth 100000 in
set_option maxHeartbeats 1000000 in
theorem parseAlpha_any (s : ByteArray) (w : World) : Calls Tryd.prog 117 #[.string s] w (NumPostB w) := by
  go_enter Tryd.func117, Tryd.ntmps117
  go_wp2_with fail
  go_loopw [4] (fun i wr => ∃ (k : Nat), i = .int .i64 k ∧ k ≤ 64 ∧ Below w.heap.size w wr) (fun i _ => 64 - (intOf i).toNat)
  case atStart => exact ⟨0, rfl, by omega, Below.refl _ _⟩
  case round =>
    obtain ⟨k, rfl, hk, hb⟩ := hrel
    have hz := hb.size
    by_cases hlt : k ≤ 63
    · go_wp2_with (go_at_call 136; refine (formatAlpha_any _ _).mono ?_; rintro e w2 ⟨x, rfl, hx, hb2⟩)
      all_goals have hb3 := hb.trans (hb2.mono hz)
      all_goals first
        | (go_ret2; exact ⟨_, _, rfl, hb3⟩)
        | (go_roundw
           case rel => exact ⟨k + 1, by go_num, by omega, hb3⟩
           case measure => simp [intOf]; omega)
    · go_wp2_with fail
      go_ret2
      exact ⟨_, _, rfl, hb⟩

end Go.Proofs.YtdkjnemakkppfaaDoor

/- The drawing kit: l19Cut, l2Parse. -/
namespace Go.Proofs.YtdkjnemakkppfaaDoor
open Go.RowKit Go.BigFrame AG

theorem infoStrD : (Tryd.prog.info? 9).map (fun i => (i.zero, i.size, i.bytes)) = some (some (.string ⟨#[]⟩), 1, 16) := by kernel_rfl

/-- Texts of at most N bytes each, as an owned slice. -/
def OwnStrs (w : World) (B : Nat) (v : Value) (ws : List ByteArray) : Prop := w.ownsRow B 9 1 v ws.length (ws.map Value.string)
theorem own_strs {w : World} {B : Nat} {v : Value} {ns : List ByteArray} (h : OwnStrs w B v ns) (hn : 0 < ns.length) :
    ∃ g cap, v = .slice (some ⟨g, 0, none⟩) ns.length cap ∧ B ≤ g ∧ g < w.heap.size ∧ ns.length ≤ cap ∧ cap ≤ 9223372036854775807 ∧
      ∀ i (hi : i < ns.length), w.cell? ⟨g, i, none⟩ = some (.string ns[i]) := by
  obtain ⟨g, cap, hv, h1, h2, h3, h4, h5⟩ := own_shape h hn
  exact ⟨g, cap, hv, h1, h2, h3, h4, fun i hi => h5 _ _ (by simp [hi])⟩

structure CutSt (w wr : World) (v : Value) (ws : List ByteArray) (N k : Nat) : Prop where
  own : OwnStrs wr w.heap.size v ws
  len : ws.length ≤ k
  small : ∀ x ∈ ws, x.size ≤ N
  below : Below w.heap.size w wr

theorem CutSt.add {w wr w1 : World} {v v' : Value} {ws : List ByteArray} {N k : Nat} {x : ByteArray} {o : Obj} (h : CutSt w wr v ws N k) (hx : x.size ≤ N) (hown : w1.ownsRow w.heap.size 9 1 v' (ws.length + 1) (ws.map Value.string ++ [.string x])) (hg : (wr.alloc o).grownBy w1 v.ownBlock) :
    CutSt w w1 v' (ws ++ [x]) N (k + 1) := by
  refine ⟨?_, ?_, ?_, ?_⟩
  · have : (ws ++ [x]).length = ws.length + 1 := by simp
    unfold OwnStrs
    rw [this, List.map_append]
    exact hown
  · have := h.len
    simp
    omega
  · intro y hy
    rcases List.mem_append.1 hy with hy | hy
    · exact h.small y hy
    · rw [List.mem_singleton.1 hy]; exact hx
  · exact (h.below.alloc h.below.size o).grown hg (by have := h.below.size; simp; omega) (fun k hk => (World.ownsRow.lt h.own k hk).1)

def CutPost (s : ByteArray) (w : World) (e : Ending) (w' : World) : Prop := ∃ v ws, e = .returned v ∧ CutSt w w' v ws s.size (s.size + 1)

set_option maxRecDepth 100000 in
set_option maxHeartbeats 2000000 in
theorem l19Cut_any (s : ByteArray) (c : Nat) (w : World) (hz : s.size ≤ 1000000) : Calls Tryd.prog 116 #[.string s, .int .u8 c] w (CutPost s w) := by
  obtain ⟨i0, hi, hz0, hz1, hz2⟩ := info_parts infoStrD
  have h0 : CutSt w (w.alloc (.cells #[] 9)) (.slice (some ⟨w.heap.size, 0, none⟩) 0 0) [] s.size 0 :=
    ⟨⟨rfl, .inr ⟨w.heap.size, 0, #[], rfl, Nat.le_refl _, heap_alloc_self _ _, Nat.le_refl _, Nat.zero_le _, rfl, rfl⟩⟩, Nat.le_refl _, fun x hx => (by cases hx), (Below.refl _ _).alloc (Nat.le_refl _) _⟩
  replace h0 := hid h0
  go_enter Tryd.func116, Tryd.ntmps116
  go_wp2_with fail
  go_loopw [5, 6, 7] (fun v f i wr => ∃ (ws : List ByteArray) (a k : Nat), i = .int .i64 k ∧ f = .int .i64 a ∧ (a ≤ k ∨ k = s.size + 1) ∧ k ≤ s.size + 1 ∧ CutSt w wr v ws s.size k) (fun _ _ i _ => s.size + 1 - (intOf i).toNat)
  case atStart => exact ⟨[], 0, 0, rfl, rfl, by omega, by omega, h0.out⟩
  case round =>
    obtain ⟨ws, a, k, rfl, rfl, ha, hk, hs⟩ := hrel
    have hzr := hs.below.size
    have hln := hs.len
    by_cases hlt : k ≤ s.size
    · have hak : a ≤ k := by omega
      have b1 : (0 : Int) ≤ (a : Int) := by omega
      have b2 : (a : Int) ≤ (k : Int) := by omega
      have b3 : (k : Int) ≤ (s.size : Int) := by omega
      have hxs : (s.extract a k).size ≤ s.size := by rw [ByteArray.size_extract]; omega
      have hown := hs.own
      unfold OwnStrs at hown
      replace hown := hid hown
      replace hs := hid hs
      by_cases hend : k = s.size
      · have e1 : ((k : Int) == (s.size : Int)) = true := by simp; omega
        replace hxs := hid hxs
        replace hend := hid hend
        go_wp2_with (at_builtin; refine wpList_append_lies _ (by rfl) _ _ 92 (by rfl) w.heap.size 9 i0 (.string ⟨#[]⟩) 1 16 Tryd.underlying92 hi hz0 hz1 hz2 rfl (by decide) _ ws.length _ (by rfl) (hown.out.alloc _) ⟨wr.heap.size, 0, none⟩ 1 1 [.string (s.extract a k)] (by rfl) (by rfl) (World.news_of_block (heap_alloc_new wr _)) ?c1 (by omega) ?c3 ?c4 ?c5 _ rfl ?_)
        case c1 => simp [Value.oneCell']
        case c3 => unfold maxLen; omega
        case c4 => omega
        case c5 => simp; omega
        intro gg cap w5 hown5 hgrow hat hlt5
        have hfin := hid (hs.out.add hxs.out hown5 hgrow)
        clear hown5 hgrow hat
        go_wp2_with fail
        go_roundw
        case rel => exact ⟨_, k + 1, k + 1, by go_num, by go_num, by omega, by omega, hfin.out⟩
        case measure => simp [intOf]; omega
      · have e1 : ((k : Int) == (s.size : Int)) = false := by simp; omega
        obtain ⟨y, hy, hy2⟩ := byte_some s k (by omega)
        have b4 : (0 : Int) ≤ (k : Int) ∧ (k : Int) < (s.size : Int) := by omega
        replace hend := hid hend
        by_cases hyc : y = c
        · have e2 : ((y : Int) == (c : Int)) = true := by simp; omega
          replace hyc := hid hyc
          replace hxs := hid hxs
          go_wp2_with (at_builtin; refine wpList_append_lies _ (by rfl) _ _ 92 (by rfl) w.heap.size 9 i0 (.string ⟨#[]⟩) 1 16 Tryd.underlying92 hi hz0 hz1 hz2 rfl (by decide) _ ws.length _ (by rfl) (hown.out.alloc _) ⟨wr.heap.size, 0, none⟩ 1 1 [.string (s.extract a k)] (by rfl) (by rfl) (World.news_of_block (heap_alloc_new wr _)) ?c1 (by omega) ?c3 ?c4 ?c5 _ rfl ?_)
          case c1 => simp [Value.oneCell']
          case c3 => unfold maxLen; omega
          case c4 => omega
          case c5 => simp; omega
          intro gg cap w5 hown5 hgrow hat hlt5
          have hfin := hid (hs.out.add hxs.out hown5 hgrow)
          clear hown5 hgrow hat
          go_wp2_with fail
          go_roundw
          case rel => exact ⟨_, k + 1, k + 1, by go_num, by go_num, by omega, by omega, hfin.out⟩
          case measure => simp [intOf]; omega
        · have e2 : ((y : Int) == (c : Int)) = false := by simp; omega
          replace hyc := hid hyc
          go_wp2_with fail
          go_roundw
          case rel => exact ⟨ws, a, k + 1, by go_num, rfl, by omega, by omega, ⟨hs.out.own, by have := hs.out.len; omega, hs.out.small, hs.out.below⟩⟩
          case measure => simp [intOf]; omega
    · go_wp2_with fail
      go_ret
      exact ⟨_, ws, rfl, ⟨hs.own, by have := hs.len; omega, hs.small, hs.below⟩⟩

def EdBPost (w : World) (e : Ending) (w' : World) : Prop := ∃ (x : Ed) (b : Bool), e = .returned (.tuple #[x.val, .bool b]) ∧ Below w.heap.size w w'

set_option maxRecDepth 100000 in
set_option maxHeartbeats 4000000 in
theorem l2Parse_any (s : ByteArray) (w : World) (hz : s.size ≤ 1000000) : Calls Tryd.prog 119 #[.string s] w (EdBPost w) := by
  have hres := Blk.new w 59 #[.int .i64 0, .int .i64 0, .int .i64 0]
  have hb0 : Below w.heap.size w (w.alloc (.cells #[.int .i64 0, .int .i64 0, .int .i64 0] 59)) := (Below.refl _ _).alloc (Nat.le_refl _) _
  generalize hw0 : w.alloc (.cells #[.int .i64 0, .int .i64 0, .int .i64 0] 59) = w0 at hres hb0
  replace hres := hid hres
  go_enter Tryd.func119, Tryd.ntmps119
  go_wp2_with fail
  clear hw0
  go_loopw [4] (fun i wr => ∃ (k : Nat), i = .int .i64 k ∧ k ≤ s.size ∧ w0 = wr) (fun i _ => s.size - (intOf i).toNat)
  case atStart => exact ⟨0, rfl, by omega, rfl⟩
  case round =>
    obtain ⟨k, rfl, hk, rfl⟩ := hrel
    have d0 := hres.out.cell 0
    have d1 := hres.out.cell 1
    have d2 := hres.out.cell 2
    have f0 := hres.out.frozen 0
    have f1 := hres.out.frozen 1
    have f2 := hres.out.frozen 2
    simp only [List.getElem?_toArray, List.getElem?_cons_zero, List.getElem?_cons_succ] at d0 d1 d2
    by_cases hlt : k < s.size
    · obtain ⟨y, hy, hy2⟩ := byte_some s k hlt
      have b4 : (0 : Int) ≤ (k : Int) ∧ (k : Int) < (s.size : Int) := by omega
      have t1 : (s.extract 0 k).size ≤ 1000000 := by rw [ByteArray.size_extract]; omega
      have t2 : (s.extract (k + 1) s.size).size ≤ 1000000 := by rw [ByteArray.size_extract]; omega
      obtain ⟨s1, hs1⟩ : ∃ s1, s.extract 0 k = s1 := ⟨_, rfl⟩
      obtain ⟨s2, hs2⟩ : ∃ s2, s.extract (k + 1) s.size = s2 := ⟨_, rfl⟩
      rw [hs1] at t1
      rw [hs2] at t2
      have b5 : ((k : Int) + 1) ≤ (s.size : Int) := by omega
      by_cases h1 : y < 97
      · go_wp2_with fail
        go_roundw
        case rel => exact ⟨k + 1, by go_num, by omega, by first | trivial | rfl⟩
        case measure => simp [intOf]; omega
      · by_cases h2 : 102 < y
        · go_wp2_with fail
          go_roundw
          case rel => exact ⟨k + 1, by go_num, by omega, by first | trivial | rfl⟩
          case measure => simp [intOf]; omega
        · go_wp2_with fail
          refine (l19Num_any s1 w0 t1).mono ?_
          rintro e w' ⟨n1, c1, rfl, rfl⟩
          go_wp2_with fail
          refine (l19Num_any s2 w0 t2).mono ?_
          rintro e w' ⟨n2, c2, rfl, rfl⟩
          cases c1
          · go_wp2_with (refine (l1At_any s k _ hlt).mono ?_; rintro e w1 ⟨rfl, rfl⟩)
            refine bodyPost_ret (v := .tuple #[.agg #[.int .i64 n1, .int .i64 (lz s k), .int .i64 n2], .bool false]) (by simp [results, Tryd.results119, go_sem, d0, d1, d2]) rfl ?_
            exact ⟨⟨n1, lz s k, n2⟩, _, rfl, by (repeat (first | exact Below.refl _ _ | assumption | refine Below.drew ?_ | refine Below.alloc ?_ (by first | omega | (simp; done) | (simp; omega)) _ | refine Below.setCell ?_ (by first | omega | (simp; done) | (simp; omega)) _))⟩
          · go_wp2_with (refine (l1At_any s k _ hlt).mono ?_; rintro e w1 ⟨rfl, rfl⟩)
            refine bodyPost_ret (v := .tuple #[.agg #[.int .i64 n1, .int .i64 (lz s k), .int .i64 n2], .bool c2]) (by simp [results, Tryd.results119, go_sem, d0, d1, d2]) rfl ?_
            exact ⟨⟨n1, lz s k, n2⟩, _, rfl, by (repeat (first | exact Below.refl _ _ | assumption | refine Below.drew ?_ | refine Below.alloc ?_ (by first | omega | (simp; done) | (simp; omega)) _ | refine Below.setCell ?_ (by first | omega | (simp; done) | (simp; omega)) _))⟩
    · go_wp2_with fail
      refine bodyPost_ret (v := .tuple #[.agg #[.int .i64 0, .int .i64 0, .int .i64 0], .bool false]) (by simp [results, Tryd.results119, go_sem, d0, d1, d2]) rfl ?_
      exact ⟨⟨0, 0, 0⟩, _, rfl, by (repeat (first | exact Below.refl _ _ | assumption | refine Below.drew ?_ | refine Below.alloc ?_ (by first | omega | (simp; done) | (simp; omega)) _ | refine Below.setCell ?_ (by first | omega | (simp; done) | (simp; omega)) _))⟩

end Go.Proofs.YtdkjnemakkppfaaDoor

/- The drawing kit: l2Random, l2Small. -/
namespace Go.Proofs.YtdkjnemakkppfaaDoor
open Go.RowKit Go.BigFrame AG

theorem infoEd : (Tryd.prog.info? 59).map (fun i => (i.zero, i.size, i.bytes)) = some (some (.agg #[.int .i64 0, .int .i64 0, .int .i64 0]), 3, 24) := by kernel_rfl

def edCells : List Ed → List Value
  | [] => []
  | e :: es => .int .i64 e.f :: .int .i64 e.l :: .int .i64 e.t :: edCells es
theorem edCells_append : ∀ ps qs : List Ed, edCells (ps ++ qs) = edCells ps ++ edCells qs
  | [], _ => rfl
  | p :: ps, qs => by rw [List.cons_append, edCells, edCells_append ps qs]; rfl
theorem edCells_at : ∀ (ps : List Ed) (i : Nat) (h : i < ps.length), (edCells ps)[i * 3]? = some (.int .i64 ps[i].f) ∧ (edCells ps)[i * 3 + 1]? = some (.int .i64 ps[i].l) ∧ (edCells ps)[i * 3 + 2]? = some (.int .i64 ps[i].t)
  | p :: ps, 0, _ => ⟨rfl, rfl, rfl⟩
  | p :: ps, i + 1, h => by
    have := edCells_at ps i (by simpa using h)
    rw [show (i + 1) * 3 = i * 3 + 1 + 1 + 1 from by omega]
    exact this
theorem edCells_len : ∀ ps : List Ed, (edCells ps).length = ps.length * 3
  | [] => rfl
  | p :: ps => by simp [edCells, edCells_len ps]; omega

/-- The edges es, as an owned slice. -/
def OwnEds (w : World) (B : Nat) (v : Value) (es : List Ed) : Prop := w.ownsRow B 59 3 v es.length (edCells es)
theorem OwnEds.read {w : World} {B : Nat} {v : Value} {es : List Ed} (h : OwnEds w B v es) : ∃ A c, v = .slice A es.length c ∧ es.length ≤ c ∧ c ≤ 9223372036854775807 ∧ EdsAt w w.heap.size A es ∧ FreshA B A := by
  have hlt := World.ownsRow.lt h
  have hcl := fun {g} hg => World.ownsRow.cells h (g := g) hg
  obtain ⟨_, ⟨rfl, h0⟩ | ⟨g, cap, cur, rfl, hg, hw, h1, h2, h3, h4⟩⟩ := h
  · exact ⟨none, 0, by rw [h0], by omega, by omega, fun hl => by omega, fun b o hA => by cases hA⟩
  · refine ⟨_, cap, rfl, h1, h2, fun _ => ⟨g, 0, rfl, (hlt g rfl).2, fun i hi => ?_⟩, fun b o hA => by injection hA with hA; injection hA with hA; omega⟩
    obtain ⟨a1, a2, a3⟩ := edCells_at es i hi
    have b1 := hcl rfl _ _ a1
    have b2 := hcl rfl _ _ a2
    have b3 := hcl rfl _ _ a3
    have hadd : ∀ j, (⟨g, 0, none⟩ : Addr).add j = ⟨g, j, none⟩ := fun j => by unfold Addr.add; split <;> simp_all
    rw [hadd] at b1 b2 b3
    simp only [Nat.zero_add]
    exact ⟨b1, b2, b3⟩

/-- Some system comes back; the reader has moved on to P at most. -/
def SyUp (R P L : Nat) (w : World) (e : Ending) (w' : World) : Prop :=
  ∃ (s : Sy) (A : Option Addr) (c : Nat), e = .returned (s.val A c) ∧ s.es.length ≤ c ∧ c ≤ 9223372036854775807 ∧ s.es.length ≤ L ∧ EdsAt w' w'.heap.size A s.es ∧ FreshA w.heap.size A ∧ RdUp w' R P ∧ KeepB (fun b => b = R) w w'

/-- What l2Random holds in its loops: N rounds at most are behind it. -/
structure RndSt (w wr : World) (R P gs : Nat) (al st : Int) (lv : Value) (ls : List Nat) (N : Nat) (v : Value) (es : List Ed) : Prop where
  len : es.length ≤ N
  blk : Blk wr gs 28 #[.int .i64 al, .int .i64 st, v]
  own : OwnEds wr (gs + 1) v es
  list : OwnNats wr (gs + 1) lv ls
  rd : RdUp wr R (P + N)
  keep : KeepB (fun b => b = R) w wr
  res : Blk wr w.heap.size 28 #[.int .i64 0, .int .i64 0, .slice none 0 0]
theorem RndSt.pick {w wr w1 : World} {R P gs : Nat} {al st : Int} {lv : Value} {ls : List Nat} {N : Nat} {v : Value} {es : List Ed} (h : RndSt w wr R P gs al st lv ls N v es) (hR : R < w.heap.size) (hgs : w.heap.size < gs) (hr : RdUp w1 R (P + N + 1)) (hk : KeepB (fun b => b = R) wr w1) :
    RndSt w w1 R P gs al st lv ls (N + 1) v es :=
  ⟨by have := h.len; omega, h.blk.keep hk (by omega), own_keep h.own hk (fun g hg => by have := (h.own.lt g hg).1; omega), own_keep h.list hk (fun g hg => by have := (World.ownsRow.lt h.list g hg).1; omega), hr, h.keep.trans hk, h.res.keep hk (by omega)⟩
theorem RndSt.later {w wr w1 : World} {R P gs : Nat} {al st : Int} {lv : Value} {ls : List Nat} {N : Nat} {v : Value} {es : List Ed} (h : RndSt w wr R P gs al st lv ls N v es) (hb : Below wr.heap.size wr w1) : RndSt w w1 R P gs al st lv ls N v es :=
  ⟨h.len, h.blk.below hb h.blk.lt, own_later h.own hb, own_later h.list hb, h.rd.later hb, h.keep.trans (KeepB.of_below hb), h.res.below hb h.res.lt⟩
theorem RndSt.begin {w w2 : World} {R P : Nat} {al st : Int} {lv : Value} {ls : List Nat}
    (hr : RdUp w R P) (hown : OwnNats w2 (w.heap.size + 2) lv ls) (hb : Below (w.heap.size + 2) ((w.alloc (.cells #[.int .i64 0, .int .i64 0, .slice none 0 0] 28)).alloc (.cells #[.int .i64 al, .int .i64 st, .slice none 0 0] 28)) w2) :
    RndSt w w2 R P (w.heap.size + 1) al st lv ls 0 (.slice none 0 0) [] := by
  have b1 : Below w.heap.size w w2 := (((Below.refl _ _).alloc (Nat.le_refl _) _).alloc (by simp) _).trans (hb.mono (by omega))
  refine ⟨Nat.le_refl _, ?_, World.ownsRow_nil _ _ _ _, own_base hown (by omega), hr.later b1, KeepB.of_below b1, ?_⟩
  · have := Blk.new (w.alloc (.cells #[.int .i64 0, .int .i64 0, .slice none 0 0] 28)) 28 #[.int .i64 al, .int .i64 st, .slice none 0 0]
    rw [World.size_alloc] at this
    exact this.below hb (by omega)
  · have := (Blk.new w 28 #[.int .i64 0, .int .i64 0, .slice none 0 0]).alloc (.cells #[.int .i64 al, .int .i64 st, .slice none 0 0] 28)
    exact this.below hb (by omega)
/-- An edge is appended and the field stored. -/
theorem RndSt.add' {w wr w1 : World} {R P gs : Nat} {al st : Int} {lv : Value} {ls : List Nat} {N : Nat} {v v' : Value} {es : List Ed} {x : Ed} (h : RndSt w wr R P gs al st lv ls N v es) (hN : es.length + 1 ≤ N) (hR : R < w.heap.size) (hgs : w.heap.size < gs)
    (hown : w1.ownsRow (gs + 1) 59 3 v' (es.length + 1) (edCells es ++ [.int .i64 x.f, .int .i64 x.l, .int .i64 x.t])) (hg : wr.grownBy w1 v.ownBlock) :
    RndSt w (w1.setCell ⟨gs, 2, none⟩ v') R P gs al st lv ls N v' (es ++ [x]) := by
  have hv : ∀ k, v.ownBlock = some k → gs < k := fun k hk => by have := (h.own.lt k hk).1; omega
  have hv' : ∀ k, v'.ownBlock = some k → gs < k := fun k hk => by have := (World.ownsRow.lt hown k hk).1; omega
  have k1 : KeepB (fun b => v.ownBlock = some b) wr w1 := (KeepB.refl _ wr).grown hg (fun k hk _ => hk)
  have k2 : KeepB (fun b => v.ownBlock = some b ∨ b = gs) wr (w1.setCell ⟨gs, 2, none⟩ v') := (k1.mono fun _ h => .inl h).setCell _ _ fun _ => .inr rfl
  have hb := h.blk.lt
  have hneL : ∀ k, lv.ownBlock = some k → ¬ v.ownBlock = some k := fun k hk hk2 => own_ne_own h.list h.own (by decide) k k hk hk2 rfl
  have hll := World.ownsRow.lt h.list
  refine ⟨by simp; omega, ?_, ?_, ?_, h.rd.keep k2 ?_, ?_, ?_⟩
  · have := (h.blk.keep k1 (fun hk => by have := hv _ hk; omega)).set_ 2 v'
    simpa using this
  · have e : (es ++ [x]).length = es.length + 1 := by simp
    unfold OwnEds
    rw [e, edCells_append]
    exact ownsRow_setCell_other hown (fun hk => by have := hv' _ hk; simp at this) _
  · exact own_keep h.list k2 (fun g hg hk => by
      rcases hk with hk | hk
      · exact hneL g hg hk
      · have := (hll g hg).1; omega)
  · rintro k (hk | rfl)
    · have := hv k hk; omega
    · omega
  · exact h.keep.grown hg (fun k hk hlt => by have := hv k hk; omega) |>.setCell _ _ fun hlt => by simp at hlt; omega
  · exact h.res.keep k2 (by rintro (hk | hk); (have := hv _ hk; omega); omega)
theorem RndSt.post {w wr : World} {R P : Nat} {al st : Int} {lv : Value} {ls : List Nat} {N : Nat} {v : Value} {es : List Ed} (h : RndSt w wr R P (w.heap.size + 1) al st lv ls N v es) (hN : N ≤ 1536) (hR : R < w.heap.size) (v1 v2 v3 : Value) :
    SyUp R (P + 1536) 1536 w (.returned (.agg #[.int .i64 al, .int .i64 st, v])) (((wr.setCell ⟨w.heap.size, 0, none⟩ v1).setCell ⟨w.heap.size, 1, none⟩ v2).setCell ⟨w.heap.size, 2, none⟩ v3) := by
  obtain ⟨A, c, hv, h1, h2, h3, h4⟩ := h.own.read
  have hl := h.len
  have hk : KeepB (fun b => b = w.heap.size) wr (((wr.setCell ⟨w.heap.size, 0, none⟩ v1).setCell ⟨w.heap.size, 1, none⟩ v2).setCell ⟨w.heap.size, 2, none⟩ v3) := (((KeepB.refl _ wr).setCell _ _ (by simp)).setCell _ _ (by simp)).setCell _ _ (by simp)
  refine ⟨⟨al, st, es⟩, A, c, by rw [hv]; rfl, h1, h2, by show es.length ≤ 1536; omega, ?_, fun b o hA => by have := h4 b o hA; omega, (h.rd.more (by omega)).keep hk (by omega), ?_⟩
  · have hne : ∀ b o, A = some ⟨b, o, none⟩ → 0 < es.length → b ≠ w.heap.size := fun b o hA _ => by have := h4 b o hA; omega
    simpa [World.setCell] using ((h3.stored v1 hne).stored v2 hne).stored v3 hne
  · exact (((h.keep).setCell _ _ (by simp)).setCell _ _ (by simp)).setCell _ _ (by simp)


set_option maxRecDepth 100000 in
set_option maxHeartbeats 4000000 in
theorem l2Random_up (R P : Nat) (al st few : Int) (w : World) (hP : P + 100000 ≤ 1125899906842624) (hst : st ≤ 16) (hf : few ≤ 9223372036854775807) (hr : RdUp w R P) :
    Calls Tryd.prog 82 #[.pointer (some ⟨R, 0, none⟩), .int .i64 al, .int .i64 st, .int .i64 few] w (SyUp R (P + 1536) 1536 w) := by
  obtain ⟨i0, hi, hz0, hz1, hz2⟩ := info_parts infoEd
  have hR := hr.lt
  replace hr := hid hr
  go_enter Tryd.func82, Tryd.ntmps82
  go_wp2_with fail
  refine (l1Letters_any al _).mono ?_
  rintro e w2 ⟨lv, rfl, hown, hb2⟩
  simp only [World.size_alloc] at hown hb2
  have H0 := hid (RndSt.begin (st := st) hr.out hown hb2)
  clear hown hb2
  obtain ⟨ls, hls⟩ : ∃ ls, Hid (ls = letters al) := ⟨_, hid rfl⟩
  rw [← hls.out] at H0
  have hl6 : ls.length ≤ 6 := by rw [hls.out]; exact lettersTo_len al 6
  obtain ⟨Al, cl, hvl, hcl, hcl'⟩ := own_slice H0.out.list
  subst hvl
  go_wp2_with fail
  go_loopw [11] (fun i wr => ∃ (k N : Nat) (v : Value) (es : List Ed), i = .int .i64 k ∧ k ≤ 16 ∧ N ≤ k * 96 ∧ RndSt w wr R P (w.heap.size + 1) al st (.slice Al ls.length cl) ls N v es) (fun i _ => st.toNat - (intOf i).toNat)
  case atStart => exact ⟨0, 0, _, [], rfl, by omega, by omega, H0.out⟩
  case round =>
    obtain ⟨k, N, v, es, rfl, hk, hN, hs⟩ := hrel
    replace hs := hid hs
    by_cases hlt : (k : Int) < st
    · go_wp2_with fail
      obtain ⟨wo, rfl⟩ : ∃ wo : World, wo = wr := ⟨_, rfl⟩
      go_loopw [12] (fun i wr => ∃ (m N : Nat) (v : Value) (es : List Ed), i = .int .i64 m ∧ m ≤ ls.length ∧ N ≤ k * 96 + m * 16 ∧ RndSt w wr R P (w.heap.size + 1) al st (.slice Al ls.length cl) ls N v es) (fun i _ => ls.length - (intOf i).toNat)
      case atStart => exact ⟨0, N, v, es, rfl, by omega, by omega, hs.out⟩
      case round =>
        clear hs hN
        obtain ⟨m, N, v, es, rfl, hm, hN, hs⟩ := hrel
        replace hs := hid hs
        by_cases hlm : m < ls.length
        · go_wp2_with fail
          obtain ⟨wo2, rfl⟩ : ∃ wo2 : World, wo2 = wr := ⟨_, rfl⟩
          go_loopw [13] (fun i wr => ∃ (t N : Nat) (v : Value) (es : List Ed), i = .int .i64 t ∧ t ≤ 16 ∧ N ≤ k * 96 + m * 16 + t ∧ RndSt w wr R P (w.heap.size + 1) al st (.slice Al ls.length cl) ls N v es) (fun i _ => st.toNat - (intOf i).toNat)
          case atStart => exact ⟨0, N, v, es, rfl, by omega, by omega, hs.out⟩
          case round =>
            clear hs hN
            obtain ⟨t, N, v, es, rfl, ht, hN, hs⟩ := hrel
            have hrd := hid hs.rd
            replace hs := hid hs
            by_cases hlt2 : (t : Int) < st
            · go_wp2_with fail
              refine (pick_up R (P + N) few wr (by omega) hf hrd.out).mono ?_
              rintro e w3 ⟨j, rfl, hj0, hj1, hr3, hk3⟩
              have h3 := hid (hs.out.pick hR (by omega) hr3 hk3)
              have hle0 := hs.out.len
              clear hs hrd hr3 hk3 hj1
              by_cases hj : j = 0
              · subst hj
                obtain ⟨gl, cl2, hve, hgl, hgl', -, -, hLc⟩ := own_nats h3.out.list (by omega)
                injection hve with hv1 hv2 hv3
                subst hv1
                subst hv3
                have l0 := hLc m hlm
                obtain ⟨l, hll⟩ : ∃ l : Nat, l = ls[m] := ⟨_, rfl⟩
                rw [← hll] at l0
                replace hll := hid hll
                replace hLc := hid hLc
                have hown := h3.out.own
                unfold OwnEds at hown
                have hbl := h3.out.blk.lt
                have c2 := h3.out.blk.cell 2
                simp only [List.getElem?_toArray, List.getElem?_cons_zero, List.getElem?_cons_succ] at c2
                have m1 : (0 : Int) ≤ (m : Int) := by omega
                have m2 : (m : Int) < (ls.length : Int) := by omega
                have ag : v.ownBlock ≠ some (w.heap.size + 1) := fun e => by have := (hown.lt _ e).1; omega
                have al' : v.ownBlock ≠ some gl := fun e => own_ne_own h3.out.list hown (by decide) gl gl rfl e rfl
                have hle := h3.out.len
                replace hown := hid hown
                have q0 := GK.BI.cell c2
                have q1 := GK.BI.cell l0
                clear c2 l0
                go_wp2_with fail
                refine GK.wp_region 10 [10, 11, 12] 200 (KeepB fun _ => False) (GK.BI w3) (fun _ _ _ => True) (by kernel_rfl) (by kernel_rfl) (GK.BI.way w3) (by decide) (Below.refl _ _).drew ?_
                simp only [List.take_succ_cons, List.take_zero]
                (repeat (refine GK.grow_quiet w3 (by rfl) (by rfl) ?_; intro K hK; go_big_quiet_op; go_big_quiet_on))
                refine GK.grow_new (K := fun _ => False) (by rfl) _ (fun b => .slice (some ⟨b, 0, none⟩) 1 1) 59 #[.int .i64 (k : Nat), .int .i64 (l : Nat), .int .i64 (t : Nat)] (fun _ => by go_simp) rfl (fun _ _ o h => GK.BI.alloc o h) (fun _ _ h => GK.BI.size h) (fun _ h => h.elim) (fun b hb => ?_)
                simp only [Act.put, List.setIfInBounds_toArray, List.set_cons_zero, List.set_cons_succ]
                refine GK.grow_nil ?_
                intro w4 hw4 hf
                obtain ⟨g', hge, hge2, hblk⟩ := hf _ List.mem_cons_self
                cases hge
                clear hf
                simp only [List.filterMap_cons, List.filterMap_nil, List.getElem?_cons_zero, List.getElem?_cons_succ]
                have hown4 := own_later hown.out hw4
                have z4 := Below.size hw4
                have c2 : w4.cell? ⟨w.heap.size + 1, 2, none⟩ = some v := by rw [Below.cell hw4 (by simpa using hbl)]; exact h3.out.blk.cell 2
                have f2 : w4.frozen? ⟨w.heap.size + 1, 2, none⟩ = false := by rw [Below.frozen hw4 (by simpa using hbl)]; exact h3.out.blk.frozen 2
                have hS4 := hid (h3.out.later hw4)
                clear q0 q1
                refine wpList_append_lies _ (by rfl) _ _ 26 (by rfl) (w.heap.size + 1 + 1) 59 i0 (.agg #[.int .i64 0, .int .i64 0, .int .i64 0]) 3 24 Tryd.underlying26 hi hz0 hz1 hz2 rfl (by decide) v es.length (edCells es) (by rfl) hown4 ⟨b, 0, none⟩ 1 1 [.int .i64 (k : Nat), .int .i64 (l : Nat), .int .i64 (t : Nat)] (by rfl) (by rfl) (World.news_of_block hblk) ?c1 (by omega) ?c3 ?c4 ?c5 w4.heap.size rfl ?_
                case c1 => simp [Value.oneCell']
                case c3 => unfold maxLen; omega
                case c4 => omega
                case c5 => omega
                intro gg cap w5 hown5 hgrow hat hlt5
                have c2' : w5.cell? ⟨w.heap.size + 1, 2, none⟩ = some v := by rw [hgrow.cell_far _ (by simp; omega) (Ne.symm ag)]; exact c2
                have f2' : w5.frozen? ⟨w.heap.size + 1, 2, none⟩ = false := by rw [hgrow.frozen_far _ (by simp; omega) (Ne.symm ag)]; exact f2
                have hfin := hid (hS4.out.add' (x := ⟨k, l, t⟩) (by omega) hR (by omega) hown5 hgrow)
                clear hown4 hown5 hgrow c2 f2
                go_wp2_with fail
                go_roundw
                case rel => exact ⟨t + 1, N + 1, _, _, by go_num, by omega, by omega, hfin.out⟩
                case measure => simp [intOf]; omega
              · have hjb : ((j : Int) == 0) = false := by simp; omega
                replace hj := hid hj
                go_wp2_with fail
                go_roundw
                case rel => exact ⟨t + 1, N + 1, v, es, by go_num, by omega, by omega, h3.out⟩
                case measure => simp [intOf]; omega
            · go_wp2_with fail
              go_roundw
              case rel => exact ⟨m + 1, N, v, es, by go_num, by omega, by omega, hs.out⟩
              case measure => simp [intOf]; omega
        · go_wp2_with fail
          go_roundw
          case rel => exact ⟨k + 1, N, v, es, by go_num, by omega, by omega, hs.out⟩
          case measure => simp [intOf]; omega
    · obtain ⟨Av, cv, hve, -, -⟩ := own_slice hs.out.own
      subst hve
      have c0 := hs.out.blk.cell 0
      have c1 := hs.out.blk.cell 1
      have c2 := hs.out.blk.cell 2
      have d0 := hs.out.res.cell 0
      have d1 := hs.out.res.cell 1
      have d2 := hs.out.res.cell 2
      have f0 := hs.out.res.frozen 0
      have f1 := hs.out.res.frozen 1
      have f2 := hs.out.res.frozen 2
      simp only [List.getElem?_toArray, List.getElem?_cons_zero, List.getElem?_cons_succ] at c0 c1 c2 d0 d1 d2
      have hfin := hid (hs.out.post (by omega) hR (.int .i64 al) (.int .i64 st) (.slice Av es.length cv))
      have hvl := hs.out.res.lt
      go_wp2
      refine bodyPost_ret (v := .agg #[.int .i64 al, .int .i64 st, .slice Av es.length cv]) (by simp [results, Tryd.results82, go_sem, d0, d1, d2]) rfl ?_
      exact hfin.out

/-- The result's own block, which the function made first, is stored into. -/
theorem SyUp.ret {R P L : Nat} {w w1 : World} {s : Sy} {A : Option Addr} {c : Nat} (h1 : s.es.length ≤ c) (h2 : c ≤ 9223372036854775807) (h3 : s.es.length ≤ L) (h4 : EdsAt w1 w1.heap.size A s.es) (h5 : FreshA (w.heap.size + 1) A)
    (h6 : RdUp w1 R P) (h7 : KeepB (fun b => b = R) w w1) (hR : R < w.heap.size) (v1 v2 v3 : Value) :
    SyUp R P L w (.returned (.agg #[.int .i64 s.al, .int .i64 s.st, .slice A s.es.length c])) (((w1.setCell ⟨w.heap.size, 0, none⟩ v1).setCell ⟨w.heap.size, 1, none⟩ v2).setCell ⟨w.heap.size, 2, none⟩ v3) := by
  have hk : KeepB (fun b => b = w.heap.size) w1 (((w1.setCell ⟨w.heap.size, 0, none⟩ v1).setCell ⟨w.heap.size, 1, none⟩ v2).setCell ⟨w.heap.size, 2, none⟩ v3) := (((KeepB.refl _ w1).setCell _ _ (by simp)).setCell _ _ (by simp)).setCell _ _ (by simp)
  have hne : ∀ b o, A = some ⟨b, o, none⟩ → 0 < s.es.length → b ≠ w.heap.size := fun b o hA _ => by have := h5 b o hA; omega
  refine ⟨s, A, c, rfl, h1, h2, h3, ?_, fun b o hA => by have := h5 b o hA; omega, h6.keep hk (by omega), ?_⟩
  · simpa [World.setCell] using ((h4.stored v1 hne).stored v2 hne).stored v3 hne
  · exact ((h7.setCell _ _ (by simp)).setCell _ _ (by simp)).setCell _ _ (by simp)

set_option maxRecDepth 100000 in
set_option maxHeartbeats 2000000 in
theorem l2Small_up (R P : Nat) (w : World) (hP : P + 200000 ≤ 1125899906842624) (hr : RdUp w R P) :
    Calls Tryd.prog 46 #[.pointer (some ⟨R, 0, none⟩)] w (SyUp R (P + 2000) 1536 w) := by
  have hR := hr.lt
  have hres := Blk.new w 28 #[.int .i64 0, .int .i64 0, .slice none 0 0]
  have hb0 : Below w.heap.size w (w.alloc (.cells #[.int .i64 0, .int .i64 0, .slice none 0 0] 28)) := (Below.refl _ _).alloc (Nat.le_refl _) _
  generalize hw0 : w.alloc (.cells #[.int .i64 0, .int .i64 0, .slice none 0 0] 28) = w0 at hres hb0
  have hz0 : w0.heap.size = w.heap.size + 1 := by rw [← hw0]; simp
  have hr0 := hid (hr.later hb0)
  replace hr := hid hr
  replace hres := hid hres
  replace hz0 := hid hz0
  go_enter Tryd.func46, Tryd.ntmps46
  go_wp2_with fail
  refine (num_lit R P [3, 6, 7, 5, 2] w0 _ (by decide) (by decide) (by omega) hr0.out).mono ?_
  rintro e w1 ⟨al, hal, rfl, hr1, hk1⟩
  replace hr1 := hid hr1
  replace hk1 := hid hk1
  clear hal
  go_wp2_with fail
  refine (num_lit R (P + 1) [2, 3, 1, 3] w1 _ (by decide) (by decide) (by omega) hr1.out).mono ?_
  rintro e w2 ⟨st, hst, rfl, hr2, hk2⟩
  have hst2 : st ≤ 16 := by simp at hst; omega
  replace hr2 := hid hr2
  replace hk2 := hid hk2
  clear hst
  go_wp2_with fail
  refine (num_lit R (P + 2) [2, 3, 4] w2 _ (by decide) (by decide) (by omega) hr2.out).mono ?_
  rintro e w3 ⟨few, hfew, rfl, hr3, hk3⟩
  have hf : few ≤ 9223372036854775807 := by simp at hfew; omega
  replace hr3 := hid hr3
  replace hk3 := hid hk3
  clear hfew
  go_wp2_with fail
  refine (l2Random_up R (P + 3) al st few w3 (by omega) hst2 hf hr3.out).mono ?_
  rintro e w4 ⟨s, A, c, rfl, h1, h2, h3, h4, h5, h6, h7⟩
  unfold Sy.val
  have K1 : KeepB (fun b => b = R) w0 w3 := (hk1.out.trans hk2.out).trans hk3.out
  have K2 : KeepB (fun b => b = R) w0 w4 := K1.trans h7
  have hbl := hres.out.keep K2 (by omega)
  have d0 := hbl.cell 0
  have d1 := hbl.cell 1
  have d2 := hbl.cell 2
  have f0 := hbl.frozen 0
  have f1 := hbl.frozen 1
  have f2 := hbl.frozen 2
  simp only [List.getElem?_toArray, List.getElem?_cons_zero, List.getElem?_cons_succ] at d0 d1 d2
  have hfin := hid (SyUp.ret (w := w) h1 h2 h3 h4 (fun b o hA => by have := h5 b o hA; have := K1.size; have := hz0.out; omega) (h6.more (by omega : P + 3 + 1536 ≤ P + 2000)) ((KeepB.of_below hb0).trans K2) hR (.int .i64 s.al) (.int .i64 s.st) (.slice A s.es.length c))
  have hlt := hbl.lt
  clear h4 h5 h6 h7 hbl K1 K2 hw0
  go_wp2
  refine bodyPost_ret (v := .agg #[.int .i64 s.al, .int .i64 s.st, .slice A s.es.length c]) (by simp [results, Tryd.results46, go_sem, d0, d1, d2]) rfl ?_
  exact hfin.out

end Go.Proofs.YtdkjnemakkppfaaDoor
