/- copies -/
import Derived.Test.YtmjmhaoikilagaaGreatDoorT17
set_option linter.unusedVariables false
namespace Go.Lu
open Go.Proofs
variable {main : Bool} {lo : Nat → Prop} {A : (Goroutine → LH → Prop) → Prop} [hA : Adm Tryz.prog main lo A]
theorem all_flat_cel (cs : List Cel) : (cs.flatMap celV).all flat = true := by
  induction cs with
  | nil => rfl
  | cons x xs ih => rw [List.flatMap_cons, List.all_append, ih]; rfl
theorem at_app {H : LH} {b : Nat} : ∀ {vs ws : List Value} {o : Nat}, At H b o vs → At H b (o + vs.length) ws → At H b o (vs ++ ws) := by
  intro vs ws o h1 h2 i v hv
  by_cases hi : i < vs.length
  · rw [List.getElem?_append_left hi] at hv; exact h1 i v hv
  · rw [List.getElem?_append_right (by omega)] at hv
    have := h2 (i - vs.length) v hv
    rwa [show o + vs.length + (i - vs.length) = o + i by omega] at this
theorem at_flat {α : Type} {H : LH} {b : Nat} {f : α → List Value} {sz : Nat} (hf : ∀ x, (f x).length = sz) : ∀ {xs : List α} {o : Nat}, (∀ (i : Nat) x, xs[i]? = some x → At H b (o + i * sz) (f x)) → At H b o (xs.flatMap f)
  | [], o, _ => by simpa using At.nil
  | x :: xs, o, h => by
    rw [List.flatMap_cons]
    refine at_app (by simpa using h 0 x rfl) ?_
    rw [hf]
    exact at_flat hf fun i y hy => by
      have := h (i + 1) y (by simpa using hy)
      rwa [Nat.succ_mul, Nat.add_comm (i * sz), ← Nat.add_assoc] at this
theorem sd_src {α : Type} {H : LH} {sz : Nat} {v : Value} {xs : List α} {f : α → List Value} (hf : ∀ x, (f x).length = sz) (hs : Sd H sz v xs (fun x vs => vs = f x)) : Src H sz v (xs.flatMap f) := by
  obtain ⟨p, c, rfl, h1, h2⟩ := hs
  refine ⟨p, xs.length, c, rfl, flat_len hf xs, ?_, fun _ => h1⟩
  cases xs with
  | nil => exact .inl rfl
  | cons x xs =>
    right
    obtain ⟨b, o, vs, rfl, _, _⟩ := h2 0 x rfl
    refine ⟨b, o, rfl, at_flat hf fun i y hy => ?_⟩
    obtain ⟨b', o', vs', e, rfl, ha⟩ := h2 i y hy
    injection e with e; injection e with e1 e2
    subst e1 e2
    exact ha

include hA
theorem Clone_fn {sv : Value} {cs : List Cel} {h : LH} (hs : Sd h 2 sv cs CelR) (hl : cs.length ≤ 100000) : FnO Tryz.prog lo A 96 [sv] [] h (fun v L h' => Bc 61 2 v L (cs.flatMap celV) ∧ h' = h) := by
  have hsrc := sd_src (f := celV) (fun _ => rfl) hs
  have hlen : (cs.flatMap celV).length = cs.length * 2 := flat_len (f := celV) (fun _ => rfl) cs
  obtain ⟨p, c, rfl, hp, hd⟩ := hs
  refine FnO_body (n := 8) (fn := Tryz.f96) Tryz.func96 rfl rfl rfl ?_
  cases p with
  | none =>
    have hc : cs = [] := by
      cases cs with
      | nil => rfl
      | cons x xs => obtain ⟨b, o, vs, e, _⟩ := hd 0 x rfl; cases e
    subst hc
    repeat' (first
      | refine W_seq ?_
      | refine WS_then ?_
      | refine W_if rfl ?_
      | refine W_ret ?_
      | refine then_ret ?_
      | ((refine W_region (id := 0) ?_) <;>
      (refine R_assign (.slice _ _ _) rfl rfl rfl ?_))
      | ((refine W_region (id := 1) ?_) <;>
      (refine R_move (.slice _ _ _) rfl rfl rfl ?_) <;>
      (refine R_eqlNilS rfl rfl rfl ?_))
      | ((refine W_region (id := 2) ?_) <;>
      (refine R_assign (.slice _ _ _) rfl rfl rfl ?_)))
    exact endRO [] [] (Sub.refl _) rfl (.cons (.tmp rfl) .nil) fun _ _ => ⟨Bc.nil _ _, rfl⟩
  | some a =>
    repeat' (first
      | refine W_seq ?_
      | refine WS_then ?_
      | refine W_else rfl ?_
      | refine W_skip ?_
      | ((refine W_region (id := 0) ?_) <;>
      (refine R_assign (.slice _ _ _) rfl rfl rfl ?_))
      | ((refine W_region (id := 1) ?_) <;>
      (refine R_move (.slice _ _ _) rfl rfl rfl ?_) <;>
      (refine R_eqlNilS rfl rfl rfl ?_)))
    refine W_region (id := 3) ?_
    all_goals (refine R_buildSlice [] rfl rfl rfl rfl rfl rfl ?_; intro bk)
    all_goals (refine R_move (.slice _ _ _) rfl rfl rfl ?_)
    refine R_append (B := [(bk, bx [] 61)]) (L₀ := []) rfl rfl (Bc.full (len := 0) rfl) rfl (fun ha => ?_) (all_flat_cel cs) (by rw [hlen]; simp; omega) (by rw [hlen]; simp; omega) rfl rfl rfl rfl ?_
    · exact Src_data (P := Tryz.prog) (main := main) (A := A) hsrc ha
    intro v' B' h' hB' hle
    refine WS_le (P := Tryz.prog) (main := main) hle ?_
    all_goals (refine R_assign _ rfl rfl rfl ?_)
    repeat' (first
      | refine WS_then ?_
      | refine W_ret ?_)
    have hB2 : Bc 61 2 v' B' (cs.flatMap celV) := by simpa using hB'
    exact endRO B' [] (Sub.refl _) rfl (.cons (.tmp rfl) .nil) fun _ _ => ⟨hB2, rfl⟩
end Go.Lu
