/-
  Nested induction over several certificates: coordinate 0 outermost.
-/
import Derived.Test.YtmjmhaoikilagaaGreatDoorJudge
set_option linter.unusedVariables false
namespace Go.Lu

section
variable {X : Type} (n : Nat) (R : Nat → X → Prop) (C : Nat → (X → Prop) → X → Prop) (Φ : (Nat → X) → Prop)
def RAll (f : Nat → X) : Prop := ∀ i, i < n → R i (f i)
/-- What is given of coordinate i: behind its step, whatever the coordinates behind it are. -/
def CondI (i : Nat) (f : Nat → X) : Prop := C i (fun y => R i y ∧ ∀ f', (∀ k, k < i → f' k = f k) → f' i = y → RAll n R f' → Φ f') (f i)
theorem condI_eq {i : Nat} {f g : Nat → X} (h : ∀ k, k ≤ i → f k = g k) : CondI n R C Φ i f = CondI n R C Φ i g := by
  unfold CondI
  rw [h i (Nat.le_refl _)]
  congr 1
  funext y
  apply propext
  refine and_congr_right fun _ => ?_
  constructor
  · intro x f' h1 h2 h3
    exact x f' (fun k hk => (h1 k hk).trans (h k (by omega)).symm) h2 h3
  · intro x f' h1 h2 h3
    exact x f' (fun k hk => (h1 k hk).trans (h k (by omega))) h2 h3
theorem multi (ind : ∀ i, i < n → ∀ x, R i x → ∀ S : X → Prop, (∀ x, R i x → C i (fun y => R i y ∧ S y) x → S x) → S x)
    (h : ∀ f, RAll n R f → (∀ i, i < n → CondI n R C Φ i f) → Φ f) : ∀ f, RAll n R f → Φ f := by
  have key : ∀ d m, m + d = n → ∀ f, RAll n R f → (∀ i, i < m → CondI n R C Φ i f) → Φ f := by
    intro d
    induction d with
    | zero =>
      intro m hm f hR hc
      obtain rfl : m = n := by omega
      exact h f hR hc
    | succ d ih =>
      intro m hm f hR hc
      refine ind m (by omega) (f m) (hR m (by omega)) (fun y => ∀ f', (∀ k, k < m → f' k = f k) → f' m = y → RAll n R f' → Φ f') ?_ f (fun _ _ => rfl) rfl hR
      intro x hx hC f' h1 h2 h3
      refine ih (m + 1) (by omega) f' h3 fun i hi => ?_
      by_cases him : i = m
      · subst him
        unfold CondI
        rw [h2]
        have e : (fun y => R i y ∧ ∀ f'', (∀ k, k < i → f'' k = f' k) → f'' i = y → RAll n R f'' → Φ f'') = (fun y => R i y ∧ ∀ f', (∀ k, k < i → f' k = f k) → f' i = y → RAll n R f' → Φ f') := by
          funext y
          apply propext
          refine and_congr_right fun _ => ⟨fun z f'' g1 g2 g3 => z f'' (fun k hk => (g1 k hk).trans (h1 k hk).symm) g2 g3, fun z f'' g1 g2 g3 => z f'' (fun k hk => (g1 k hk).trans (h1 k hk)) g2 g3⟩
        rw [e]
        exact hC
      · rw [condI_eq n R C Φ (g := f) (fun k hk => h1 k (by omega))]
        exact hc i (by omega)
  intro f hR
  exact key n 0 (by omega) f hR (fun i hi => absurd hi (Nat.not_lt_zero i))
end

/-! ### a step told over a smaller heap -/
open Classical in
/-- What a step leaves, told over a bigger heap. -/
noncomputable def joinH (h h' h₁ : LH) : LH := fun b => if h b = none then (if h' b = none then h₁ b else h' b) else h₁ b
theorem joinH_le {lo : Nat → Prop} {h h' h₁ : LH} {w w' : World} {es : List Event} (hle : LE h h') (hi : Inc lo h' w) (x : StepOk lo h w h₁ w' es) : LE h₁ (joinH h h' h₁) := by
  intro b o hb
  unfold joinH
  split
  · rename_i h0
    split
    · exact hb
    · rename_i h1
      rcases x.newd b (by rw [hb]; simp) with y | y
      · exact absurd h0 y
      · have := hi.lt h1; omega
  · exact hb
theorem joinH_ok {lo : Nat → Prop} {h h' h₁ : LH} {w w' : World} {es : List Event} (hle : LE h h') (hi : Inc lo h' w) (x : StepOk lo h w h₁ w' es) : StepOk lo h' w (joinH h h' h₁) w' es := by
  have hn : ∀ b, h' b = none → h b = none := fun b hb => by
    cases ho : h b with
    | none => rfl
    | some o => rw [hle b o ho] at hb; cases hb
  refine ⟨⟨fun b o hb => ?_, x.inc.lo⟩, x.os, x.tape, x.output, x.size, fun b hb hx => x.keep b hb (hx.imp (hn b) id), fun b hb => ?_, fun b hb => ?_, fun b hb => ?_, fun e he => (x.evs e he).mono fun b hb => ?_⟩
  · unfold joinH at hb
    split at hb
    · rename_i h0
      split at hb
      · exact x.inc.at_ b o hb
      · rename_i h1
        rw [x.keep b (hi.lt h1) (.inl h0)]
        exact hi.at_ b o hb
    · exact x.inc.at_ b o hb
  · unfold joinH
    by_cases h0 : h b = none
    · rw [if_pos h0, if_neg hb]; exact hb
    · rw [if_neg h0]; exact x.dom b h0
  · unfold joinH at hb
    split at hb
    · rename_i h0
      split at hb
      · rcases x.newd b hb with y | y
        · exact absurd h0 y
        · exact .inr y
      · rename_i h1; exact .inl h1
    · rename_i h0
      refine .inl fun h1 => h0 (hn b h1)
  · unfold joinH
    split
    · rename_i h0
      split
      · rename_i h1; rw [x.ro b hb, h0, h1]
      · rfl
    · rename_i h0
      rw [x.ro b hb]
      cases ho : h b with
      | none => exact absurd ho h0
      | some o => rw [hle b o ho]
  · exact fun h1 => by
      have := joinH_le hle hi x
      cases ho : h₁ b with
      | none => exact hb ho
      | some o => rw [this b o ho] at h1; cases h1
end Go.Lu
