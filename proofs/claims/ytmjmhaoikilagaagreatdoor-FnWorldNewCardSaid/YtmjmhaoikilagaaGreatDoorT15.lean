/- lists of numbers: the same? -/
import Derived.Test.YtmjmhaoikilagaaGreatDoorT3
set_option linter.unusedVariables false
namespace Go.Lu
open Go.Proofs
variable {main : Bool} {lo : Nat → Prop} {A : (Goroutine → LH → Prop) → Prop} [hA : Adm Tryz.prog main lo A]
include hA
omit hA in
theorem same_of {xs ys : List Int} (hl : xs.length = ys.length) (h : ∀ (j : Nat) x y, xs[j]? = some x → ys[j]? = some y → x = y) : xs = ys := by
  apply List.ext_getElem? 
  intro j
  by_cases hj : j < xs.length
  · have h1 := List.getElem?_eq_getElem hj
    have h2 := List.getElem?_eq_getElem (show j < ys.length by omega)
    rw [h1, h2, h j _ _ h1 h2]
  · rw [List.getElem?_eq_none (by omega), List.getElem?_eq_none (by omega)]

set_option maxHeartbeats 1000000 in
theorem l13Same_fn {va vb : Value} {xs ys : List Int} {h : LH} (ha : Sd h 1 va xs IntR) (hb : Sd h 1 vb ys IntR) (hl1 : xs.length ≤ 1000000) : Fn Tryz.prog A 53 [va, vb].toArray h (fun v h' => v = .bool (decide (xs = ys)) ∧ h' = h) := by
  obtain ⟨p, c, rfl, hp, hx⟩ := ha
  obtain ⟨q, d, rfl, hq, hy⟩ := hb
  refine Fn_body (n := 26) (fn := Tryz.f53) Tryz.func53 rfl rfl rfl ?_
  by_cases hl : xs.length = ys.length
  · repeat' (first
      | refine W_seq ?_
      | refine WS_then ?_
      | refine W_else rfl ?_
      | refine W_skip ?_
      | refine W_block ?_
      | ((refine W_region (id := 0) ?_) <;>
      (refine R_assign (.bool _) rfl rfl rfl ?_))
      | ((refine W_region (id := 1) ?_) <;>
      (refine R_move (.slice _ _ _) rfl rfl rfl ?_) <;>
      (refine R_len rfl rfl rfl ?_) <;>
      (refine R_move (.slice _ _ _) rfl rfl rfl ?_) <;>
      (refine R_len rfl rfl rfl ?_) <;>
      (refine R_neq_f rfl rfl (by omega) rfl rfl ?_))
      | ((refine W_region (id := 3) ?_) <;>
      (refine R_assign (.int _ _) rfl rfl rfl ?_)))
    refine W_loopA (ι := Nat) (fun i => xs.length - i) (fun i => [(0, .slice p xs.length c), (1, .slice q ys.length d), (5, .int .i64 i)]) (fun _ => []) (fun _ => h) (fun i => i ≤ xs.length ∧ ∀ (j : Nat) x y, j < i → xs[j]? = some x → ys[j]? = some y → x = y) 0 ⟨by omega, by omega⟩ (abs_mk ⟨rfl, rfl, rfl, trivial⟩ [] rfl) ?_
    rintro i e ⟨hi, hs⟩
    by_cases hlt : i < xs.length
    · have h1 := List.getElem?_eq_getElem hlt
      have h2 := List.getElem?_eq_getElem (show i < ys.length by omega)
      generalize xs[i] = x at h1
      generalize ys[i]'(by omega) = y at h2
      obtain ⟨bx, ox, vx, rfl, rfl, hax⟩ := hx i _ h1
      obtain ⟨bY, oY, vy, rfl, rfl, hay⟩ := hy i _ h2
      have hay' : At h bY (oY + i * 1) [.int .i64 y] := hay
      by_cases hxy : x = y
      · repeat' (first
          | refine W_seq ?_
          | refine WS_then ?_
          | refine W_if rfl ?_
          | refine W_skip ?_
          | refine W_block ?_
          | ((refine W_region (id := 4) ?_) <;>
          (refine R_move (.int _ _) rfl rfl rfl ?_) <;>
          (refine R_move (.slice _ _ _) rfl rfl rfl ?_) <;>
          (refine R_len rfl rfl rfl ?_) <;>
          (refine R_lss_t rfl rfl (by omega) rfl rfl ?_)))
        all_goals refine W_draw (fun _ => false) [0, 1, 2, 3, 4, 5, 6, 7, 8] (by kernel_rfl) (by kernel_rfl) (by kernel_rfl) (by kernel_rfl) ?_
        all_goals (refine WL_take 0 [1, 2, 3, 4, 5, 6, 7, 8] rfl (by kernel_rfl) rfl (D_move (.slice _ _ _) rfl rfl) ?_)
        all_goals (refine WL_take 1 [2, 3, 4, 5, 6, 7, 8] rfl (by kernel_rfl) rfl (D_move (.int _ _) rfl rfl) ?_)
        all_goals (refine WL_take 2 [3, 4, 5, 6, 7, 8] rfl (by kernel_rfl) rfl (D_index rfl rfl (by omega) (by omega) rfl) ?_)
        all_goals (refine WL_take 3 [4, 5, 6, 7, 8] rfl (by kernel_rfl) rfl (D_loadH1 rfl (by assumption) rfl rfl) ?_)
        all_goals (refine WL_take 4 [5, 6, 7, 8] rfl (by kernel_rfl) rfl (D_move (.slice _ _ _) rfl rfl) ?_)
        all_goals (refine WL_take 5 [6, 7, 8] rfl (by kernel_rfl) rfl (D_move (.int _ _) rfl rfl) ?_)
        all_goals (refine WL_take 6 [7, 8] rfl (by kernel_rfl) rfl (D_index rfl rfl (by omega) (by omega) rfl) ?_)
        all_goals (refine WL_take 7 [8] rfl (by kernel_rfl) rfl (D_loadH1 rfl (by assumption) rfl rfl) ?_)
        all_goals (refine WL_take 8 [] rfl (by kernel_rfl) rfl (D_neq_f rfl rfl (by omega) rfl) ?_)
        all_goals refine WL_nil ?_
        -- left: [] ready: [] []
        repeat' (first
          | refine WS_end ?_
          | refine W_else rfl ?_
          | refine W_skip ?_
          | refine then_normal ?_
          | refine block_normal ?_
          | ((refine W_region (id := 5) ?_) <;>
          (refine R_move (.int _ _) rfl rfl rfl ?_) <;>
          (refine R_add rfl rfl (by omega) rfl rfl ?_) <;>
          (refine R_assign (.int _ _) rfl rfl rfl ?_)))
        exact ⟨i + 1, ⟨by omega, fun j x' y' hj e1 e2 => by
          by_cases hji : j = i
          · subst hji; rw [h1] at e1; rw [h2] at e2; cases e1; cases e2; exact hxy
          · exact hs j x' y' (by omega) e1 e2⟩, abs_mk ⟨rfl, rfl, ivq (by omega), trivial⟩ [] rfl, by omega⟩
      · repeat' (first
          | refine W_seq ?_
          | refine WS_then ?_
          | refine W_if rfl ?_
          | refine W_skip ?_
          | refine W_block ?_
          | ((refine W_region (id := 4) ?_) <;>
          (refine R_move (.int _ _) rfl rfl rfl ?_) <;>
          (refine R_move (.slice _ _ _) rfl rfl rfl ?_) <;>
          (refine R_len rfl rfl rfl ?_) <;>
          (refine R_lss_t rfl rfl (by omega) rfl rfl ?_)))
        all_goals refine W_draw (fun _ => false) [0, 1, 2, 3, 4, 5, 6, 7, 8] (by kernel_rfl) (by kernel_rfl) (by kernel_rfl) (by kernel_rfl) ?_
        all_goals (refine WL_take 0 [1, 2, 3, 4, 5, 6, 7, 8] rfl (by kernel_rfl) rfl (D_move (.slice _ _ _) rfl rfl) ?_)
        all_goals (refine WL_take 1 [2, 3, 4, 5, 6, 7, 8] rfl (by kernel_rfl) rfl (D_move (.int _ _) rfl rfl) ?_)
        all_goals (refine WL_take 2 [3, 4, 5, 6, 7, 8] rfl (by kernel_rfl) rfl (D_index rfl rfl (by omega) (by omega) rfl) ?_)
        all_goals (refine WL_take 3 [4, 5, 6, 7, 8] rfl (by kernel_rfl) rfl (D_loadH1 rfl (by assumption) rfl rfl) ?_)
        all_goals (refine WL_take 4 [5, 6, 7, 8] rfl (by kernel_rfl) rfl (D_move (.slice _ _ _) rfl rfl) ?_)
        all_goals (refine WL_take 5 [6, 7, 8] rfl (by kernel_rfl) rfl (D_move (.int _ _) rfl rfl) ?_)
        all_goals (refine WL_take 6 [7, 8] rfl (by kernel_rfl) rfl (D_index rfl rfl (by omega) (by omega) rfl) ?_)
        all_goals (refine WL_take 7 [8] rfl (by kernel_rfl) rfl (D_loadH1 rfl (by assumption) rfl rfl) ?_)
        all_goals (refine WL_take 8 [] rfl (by kernel_rfl) rfl (D_neq_t rfl rfl (by omega) rfl) ?_)
        all_goals refine WL_nil ?_
        -- left: [] ready: [] []
        repeat' (first
          | refine W_seq ?_
          | refine WS_then ?_
          | refine W_if rfl ?_
          | refine W_ret ?_
          | refine then_ret ?_
          | refine block_ret ?_
          | ((refine W_region (id := 7) ?_) <;>
          (refine R_assign (.bool _) rfl rfl rfl ?_)))
        refine end1 rfl ⟨bvq (decide_eq_false fun e => hxy ?_).symm, rfl⟩
        subst e
        rw [h1] at h2
        exact Option.some.inj h2
    · repeat' (first
        | refine W_seq ?_
        | refine WS_then ?_
        | refine W_else rfl ?_
        | refine W_ret ?_
        | refine W_exit ?_
        | ((refine W_region (id := 4) ?_) <;>
        (refine R_move (.int _ _) rfl rfl rfl ?_) <;>
        (refine R_move (.slice _ _ _) rfl rfl rfl ?_) <;>
        (refine R_len rfl rfl rfl ?_) <;>
        (refine R_lss_f rfl rfl (by omega) rfl rfl ?_))
        | ((refine W_region (id := 8) ?_) <;>
        (refine R_assign (.bool _) rfl rfl rfl ?_)))
      exact end1 rfl ⟨bvq (decide_eq_true (same_of hl fun j x y e1 e2 => hs j x y (by have := (List.getElem?_eq_some_iff.1 e1).1; omega) e1 e2)).symm, rfl⟩
  · repeat' (first
      | refine W_seq ?_
      | refine WS_then ?_
      | refine W_if rfl ?_
      | refine W_ret ?_
      | refine then_ret ?_
      | ((refine W_region (id := 0) ?_) <;>
      (refine R_assign (.bool _) rfl rfl rfl ?_))
      | ((refine W_region (id := 1) ?_) <;>
      (refine R_move (.slice _ _ _) rfl rfl rfl ?_) <;>
      (refine R_len rfl rfl rfl ?_) <;>
      (refine R_move (.slice _ _ _) rfl rfl rfl ?_) <;>
      (refine R_len rfl rfl rfl ?_) <;>
      (refine R_neq_t rfl rfl (by omega) rfl rfl ?_))
      | ((refine W_region (id := 2) ?_) <;>
      (refine R_assign (.bool _) rfl rfl rfl ?_)))
    exact end1 rfl ⟨bvq (decide_eq_false fun e => hl (by rw [e])).symm, rfl⟩

set_option maxHeartbeats 1000000 in
theorem llInts_fn {va vb : Value} {xs ys : List Int} {h : LH} (ha : Sd h 1 va xs IntR) (hb : Sd h 1 vb ys IntR) (hl1 : xs.length ≤ 1000000) : Fn Tryz.prog A 36 [va, vb].toArray h (fun v h' => v = .bool (decide (xs = ys)) ∧ h' = h) := by
  obtain ⟨p, c, rfl, hp, hx⟩ := ha
  obtain ⟨q, d, rfl, hq, hy⟩ := hb
  refine Fn_body (n := 26) (fn := Tryz.f36) Tryz.func36 rfl rfl rfl ?_
  by_cases hl : xs.length = ys.length
  · repeat' (first
      | refine W_seq ?_
      | refine WS_then ?_
      | refine W_else rfl ?_
      | refine W_skip ?_
      | refine W_block ?_
      | ((refine W_region (id := 0) ?_) <;>
      (refine R_assign (.bool _) rfl rfl rfl ?_))
      | ((refine W_region (id := 1) ?_) <;>
      (refine R_move (.slice _ _ _) rfl rfl rfl ?_) <;>
      (refine R_len rfl rfl rfl ?_) <;>
      (refine R_move (.slice _ _ _) rfl rfl rfl ?_) <;>
      (refine R_len rfl rfl rfl ?_) <;>
      (refine R_neq_f rfl rfl (by omega) rfl rfl ?_))
      | ((refine W_region (id := 3) ?_) <;>
      (refine R_assign (.int _ _) rfl rfl rfl ?_)))
    refine W_loopA (ι := Nat) (fun i => xs.length - i) (fun i => [(0, .slice p xs.length c), (1, .slice q ys.length d), (5, .int .i64 i)]) (fun _ => []) (fun _ => h) (fun i => i ≤ xs.length ∧ ∀ (j : Nat) x y, j < i → xs[j]? = some x → ys[j]? = some y → x = y) 0 ⟨by omega, by omega⟩ (abs_mk ⟨rfl, rfl, rfl, trivial⟩ [] rfl) ?_
    rintro i e ⟨hi, hs⟩
    by_cases hlt : i < xs.length
    · have h1 := List.getElem?_eq_getElem hlt
      have h2 := List.getElem?_eq_getElem (show i < ys.length by omega)
      generalize xs[i] = x at h1
      generalize ys[i]'(by omega) = y at h2
      obtain ⟨bx, ox, vx, rfl, rfl, hax⟩ := hx i _ h1
      obtain ⟨bY, oY, vy, rfl, rfl, hay⟩ := hy i _ h2
      have hay' : At h bY (oY + i * 1) [.int .i64 y] := hay
      by_cases hxy : x = y
      · repeat' (first
          | refine W_seq ?_
          | refine WS_then ?_
          | refine W_if rfl ?_
          | refine W_skip ?_
          | refine W_block ?_
          | ((refine W_region (id := 4) ?_) <;>
          (refine R_move (.int _ _) rfl rfl rfl ?_) <;>
          (refine R_move (.slice _ _ _) rfl rfl rfl ?_) <;>
          (refine R_len rfl rfl rfl ?_) <;>
          (refine R_lss_t rfl rfl (by omega) rfl rfl ?_)))
        all_goals refine W_draw (fun _ => false) [0, 1, 2, 3, 4, 5, 6, 7, 8] (by kernel_rfl) (by kernel_rfl) (by kernel_rfl) (by kernel_rfl) ?_
        all_goals (refine WL_take 0 [1, 2, 3, 4, 5, 6, 7, 8] rfl (by kernel_rfl) rfl (D_move (.slice _ _ _) rfl rfl) ?_)
        all_goals (refine WL_take 1 [2, 3, 4, 5, 6, 7, 8] rfl (by kernel_rfl) rfl (D_move (.int _ _) rfl rfl) ?_)
        all_goals (refine WL_take 2 [3, 4, 5, 6, 7, 8] rfl (by kernel_rfl) rfl (D_index rfl rfl (by omega) (by omega) rfl) ?_)
        all_goals (refine WL_take 3 [4, 5, 6, 7, 8] rfl (by kernel_rfl) rfl (D_loadH1 rfl (by assumption) rfl rfl) ?_)
        all_goals (refine WL_take 4 [5, 6, 7, 8] rfl (by kernel_rfl) rfl (D_move (.slice _ _ _) rfl rfl) ?_)
        all_goals (refine WL_take 5 [6, 7, 8] rfl (by kernel_rfl) rfl (D_move (.int _ _) rfl rfl) ?_)
        all_goals (refine WL_take 6 [7, 8] rfl (by kernel_rfl) rfl (D_index rfl rfl (by omega) (by omega) rfl) ?_)
        all_goals (refine WL_take 7 [8] rfl (by kernel_rfl) rfl (D_loadH1 rfl (by assumption) rfl rfl) ?_)
        all_goals (refine WL_take 8 [] rfl (by kernel_rfl) rfl (D_neq_f rfl rfl (by omega) rfl) ?_)
        all_goals refine WL_nil ?_
        -- left: [] ready: [] []
        repeat' (first
          | refine WS_end ?_
          | refine W_else rfl ?_
          | refine W_skip ?_
          | refine then_normal ?_
          | refine block_normal ?_
          | ((refine W_region (id := 5) ?_) <;>
          (refine R_move (.int _ _) rfl rfl rfl ?_) <;>
          (refine R_add rfl rfl (by omega) rfl rfl ?_) <;>
          (refine R_assign (.int _ _) rfl rfl rfl ?_)))
        exact ⟨i + 1, ⟨by omega, fun j x' y' hj e1 e2 => by
          by_cases hji : j = i
          · subst hji; rw [h1] at e1; rw [h2] at e2; cases e1; cases e2; exact hxy
          · exact hs j x' y' (by omega) e1 e2⟩, abs_mk ⟨rfl, rfl, ivq (by omega), trivial⟩ [] rfl, by omega⟩
      · repeat' (first
          | refine W_seq ?_
          | refine WS_then ?_
          | refine W_if rfl ?_
          | refine W_skip ?_
          | refine W_block ?_
          | ((refine W_region (id := 4) ?_) <;>
          (refine R_move (.int _ _) rfl rfl rfl ?_) <;>
          (refine R_move (.slice _ _ _) rfl rfl rfl ?_) <;>
          (refine R_len rfl rfl rfl ?_) <;>
          (refine R_lss_t rfl rfl (by omega) rfl rfl ?_)))
        all_goals refine W_draw (fun _ => false) [0, 1, 2, 3, 4, 5, 6, 7, 8] (by kernel_rfl) (by kernel_rfl) (by kernel_rfl) (by kernel_rfl) ?_
        all_goals (refine WL_take 0 [1, 2, 3, 4, 5, 6, 7, 8] rfl (by kernel_rfl) rfl (D_move (.slice _ _ _) rfl rfl) ?_)
        all_goals (refine WL_take 1 [2, 3, 4, 5, 6, 7, 8] rfl (by kernel_rfl) rfl (D_move (.int _ _) rfl rfl) ?_)
        all_goals (refine WL_take 2 [3, 4, 5, 6, 7, 8] rfl (by kernel_rfl) rfl (D_index rfl rfl (by omega) (by omega) rfl) ?_)
        all_goals (refine WL_take 3 [4, 5, 6, 7, 8] rfl (by kernel_rfl) rfl (D_loadH1 rfl (by assumption) rfl rfl) ?_)
        all_goals (refine WL_take 4 [5, 6, 7, 8] rfl (by kernel_rfl) rfl (D_move (.slice _ _ _) rfl rfl) ?_)
        all_goals (refine WL_take 5 [6, 7, 8] rfl (by kernel_rfl) rfl (D_move (.int _ _) rfl rfl) ?_)
        all_goals (refine WL_take 6 [7, 8] rfl (by kernel_rfl) rfl (D_index rfl rfl (by omega) (by omega) rfl) ?_)
        all_goals (refine WL_take 7 [8] rfl (by kernel_rfl) rfl (D_loadH1 rfl (by assumption) rfl rfl) ?_)
        all_goals (refine WL_take 8 [] rfl (by kernel_rfl) rfl (D_neq_t rfl rfl (by omega) rfl) ?_)
        all_goals refine WL_nil ?_
        -- left: [] ready: [] []
        repeat' (first
          | refine W_seq ?_
          | refine WS_then ?_
          | refine W_if rfl ?_
          | refine W_ret ?_
          | refine then_ret ?_
          | refine block_ret ?_
          | ((refine W_region (id := 7) ?_) <;>
          (refine R_assign (.bool _) rfl rfl rfl ?_)))
        refine end1 rfl ⟨bvq (decide_eq_false fun e => hxy ?_).symm, rfl⟩
        subst e
        rw [h1] at h2
        exact Option.some.inj h2
    · repeat' (first
        | refine W_seq ?_
        | refine WS_then ?_
        | refine W_else rfl ?_
        | refine W_ret ?_
        | refine W_exit ?_
        | ((refine W_region (id := 4) ?_) <;>
        (refine R_move (.int _ _) rfl rfl rfl ?_) <;>
        (refine R_move (.slice _ _ _) rfl rfl rfl ?_) <;>
        (refine R_len rfl rfl rfl ?_) <;>
        (refine R_lss_f rfl rfl (by omega) rfl rfl ?_))
        | ((refine W_region (id := 8) ?_) <;>
        (refine R_assign (.bool _) rfl rfl rfl ?_)))
      exact end1 rfl ⟨bvq (decide_eq_true (same_of hl fun j x y e1 e2 => hs j x y (by have := (List.getElem?_eq_some_iff.1 e1).1; omega) e1 e2)).symm, rfl⟩
  · repeat' (first
      | refine W_seq ?_
      | refine WS_then ?_
      | refine W_if rfl ?_
      | refine W_ret ?_
      | refine then_ret ?_
      | ((refine W_region (id := 0) ?_) <;>
      (refine R_assign (.bool _) rfl rfl rfl ?_))
      | ((refine W_region (id := 1) ?_) <;>
      (refine R_move (.slice _ _ _) rfl rfl rfl ?_) <;>
      (refine R_len rfl rfl rfl ?_) <;>
      (refine R_move (.slice _ _ _) rfl rfl rfl ?_) <;>
      (refine R_len rfl rfl rfl ?_) <;>
      (refine R_neq_t rfl rfl (by omega) rfl rfl ?_))
      | ((refine W_region (id := 2) ?_) <;>
      (refine R_assign (.bool _) rfl rfl rfl ?_)))
    exact end1 rfl ⟨bvq (decide_eq_false fun e => hl (by rw [e])).symm, rfl⟩

set_option maxHeartbeats 1000000 in
theorem Equal_fn {va vb : Value} {xs ys : List Int} {h : LH} (ha : Sd h 1 va xs IntR) (hb : Sd h 1 vb ys IntR) (hl1 : xs.length ≤ 1000000) : Fn Tryz.prog A 87 [va, vb].toArray h (fun v h' => v = .bool (decide (xs = ys)) ∧ h' = h) := by
  obtain ⟨p, c, rfl, hp, hx⟩ := ha
  obtain ⟨q, d, rfl, hq, hy⟩ := hb
  refine Fn_body (n := 26) (fn := Tryz.f87) Tryz.func87 rfl rfl rfl ?_
  by_cases hl : xs.length = ys.length
  · repeat' (first
      | refine W_seq ?_
      | refine WS_then ?_
      | refine W_else rfl ?_
      | refine W_skip ?_
      | refine W_block ?_
      | ((refine W_region (id := 0) ?_) <;>
      (refine R_assign (.bool _) rfl rfl rfl ?_))
      | ((refine W_region (id := 1) ?_) <;>
      (refine R_move (.slice _ _ _) rfl rfl rfl ?_) <;>
      (refine R_len rfl rfl rfl ?_) <;>
      (refine R_move (.slice _ _ _) rfl rfl rfl ?_) <;>
      (refine R_len rfl rfl rfl ?_) <;>
      (refine R_neq_f rfl rfl (by omega) rfl rfl ?_))
      | ((refine W_region (id := 3) ?_) <;>
      (refine R_move (.slice _ _ _) rfl rfl rfl ?_) <;>
      (refine R_len rfl rfl rfl ?_) <;>
      (refine R_move (.int _ _) rfl rfl rfl ?_)))
    refine W_loopA (ι := Nat) (fun i => xs.length - i) (fun i => [(0, .slice p xs.length c), (1, .slice q ys.length d), (12, .int .i64 xs.length), (13, .int .i64 i)]) (fun _ => []) (fun _ => h) (fun i => i ≤ xs.length ∧ ∀ (j : Nat) x y, j < i → xs[j]? = some x → ys[j]? = some y → x = y) 0 ⟨by omega, by omega⟩ (abs_mk ⟨rfl, rfl, rfl, rfl, trivial⟩ [] rfl) ?_
    rintro i e ⟨hi, hs⟩
    by_cases hlt : i < xs.length
    · have h1 := List.getElem?_eq_getElem hlt
      have h2 := List.getElem?_eq_getElem (show i < ys.length by omega)
      generalize xs[i] = x at h1
      generalize ys[i]'(by omega) = y at h2
      obtain ⟨bx, ox, vx, rfl, rfl, hax⟩ := hx i _ h1
      obtain ⟨bY, oY, vy, rfl, rfl, hay⟩ := hy i _ h2
      have hay' : At h bY (oY + i * 1) [.int .i64 y] := hay
      by_cases hxy : x = y
      · repeat' (first
          | refine W_seq ?_
          | refine WS_then ?_
          | refine W_if rfl ?_
          | refine W_skip ?_
          | refine W_block ?_
          | ((refine W_region (id := 4) ?_) <;>
          (refine R_lss_t rfl rfl (by omega) rfl rfl ?_))
          | ((refine W_region (id := 5) ?_) <;>
          (refine R_move (.int _ _) rfl rfl rfl ?_) <;>
          (refine R_assign (.int _ _) rfl rfl rfl ?_)))
        all_goals refine W_draw (fun _ => false) [0, 1, 2, 3, 4, 5, 6, 7, 8] (by kernel_rfl) (by kernel_rfl) (by kernel_rfl) (by kernel_rfl) ?_
        all_goals (refine WL_take 0 [1, 2, 3, 4, 5, 6, 7, 8] rfl (by kernel_rfl) rfl (D_move (.slice _ _ _) rfl rfl) ?_)
        all_goals (refine WL_take 1 [2, 3, 4, 5, 6, 7, 8] rfl (by kernel_rfl) rfl (D_move (.int _ _) rfl rfl) ?_)
        all_goals (refine WL_take 2 [3, 4, 5, 6, 7, 8] rfl (by kernel_rfl) rfl (D_index rfl rfl (by omega) (by omega) rfl) ?_)
        all_goals (refine WL_take 3 [4, 5, 6, 7, 8] rfl (by kernel_rfl) rfl (D_loadH1 rfl (by assumption) rfl rfl) ?_)
        all_goals (refine WL_take 4 [5, 6, 7, 8] rfl (by kernel_rfl) rfl (D_move (.slice _ _ _) rfl rfl) ?_)
        all_goals (refine WL_take 5 [6, 7, 8] rfl (by kernel_rfl) rfl (D_move (.int _ _) rfl rfl) ?_)
        all_goals (refine WL_take 6 [7, 8] rfl (by kernel_rfl) rfl (D_index rfl rfl (by omega) (by omega) rfl) ?_)
        all_goals (refine WL_take 7 [8] rfl (by kernel_rfl) rfl (D_loadH1 rfl (by assumption) rfl rfl) ?_)
        all_goals (refine WL_take 8 [] rfl (by kernel_rfl) rfl (D_neq_f rfl rfl (by omega) rfl) ?_)
        all_goals refine WL_nil ?_
        -- left: [] ready: [] []
        repeat' (first
          | refine WS_end ?_
          | refine W_else rfl ?_
          | refine W_skip ?_
          | refine then_normal ?_
          | refine block_normal ?_
          | ((refine W_region (id := 8) ?_) <;>
          (refine R_add rfl rfl (by omega) rfl rfl ?_) <;>
          (refine R_move (.int _ _) rfl rfl rfl ?_)))
        exact ⟨i + 1, ⟨by omega, fun j x' y' hj e1 e2 => by
          by_cases hji : j = i
          · subst hji; rw [h1] at e1; rw [h2] at e2; cases e1; cases e2; exact hxy
          · exact hs j x' y' (by omega) e1 e2⟩, abs_mk ⟨rfl, rfl, rfl, ivq (by omega), trivial⟩ [] rfl, by omega⟩
      · repeat' (first
          | refine W_seq ?_
          | refine WS_then ?_
          | refine W_if rfl ?_
          | refine W_skip ?_
          | refine W_block ?_
          | ((refine W_region (id := 4) ?_) <;>
          (refine R_lss_t rfl rfl (by omega) rfl rfl ?_))
          | ((refine W_region (id := 5) ?_) <;>
          (refine R_move (.int _ _) rfl rfl rfl ?_) <;>
          (refine R_assign (.int _ _) rfl rfl rfl ?_)))
        all_goals refine W_draw (fun _ => false) [0, 1, 2, 3, 4, 5, 6, 7, 8] (by kernel_rfl) (by kernel_rfl) (by kernel_rfl) (by kernel_rfl) ?_
        all_goals (refine WL_take 0 [1, 2, 3, 4, 5, 6, 7, 8] rfl (by kernel_rfl) rfl (D_move (.slice _ _ _) rfl rfl) ?_)
        all_goals (refine WL_take 1 [2, 3, 4, 5, 6, 7, 8] rfl (by kernel_rfl) rfl (D_move (.int _ _) rfl rfl) ?_)
        all_goals (refine WL_take 2 [3, 4, 5, 6, 7, 8] rfl (by kernel_rfl) rfl (D_index rfl rfl (by omega) (by omega) rfl) ?_)
        all_goals (refine WL_take 3 [4, 5, 6, 7, 8] rfl (by kernel_rfl) rfl (D_loadH1 rfl (by assumption) rfl rfl) ?_)
        all_goals (refine WL_take 4 [5, 6, 7, 8] rfl (by kernel_rfl) rfl (D_move (.slice _ _ _) rfl rfl) ?_)
        all_goals (refine WL_take 5 [6, 7, 8] rfl (by kernel_rfl) rfl (D_move (.int _ _) rfl rfl) ?_)
        all_goals (refine WL_take 6 [7, 8] rfl (by kernel_rfl) rfl (D_index rfl rfl (by omega) (by omega) rfl) ?_)
        all_goals (refine WL_take 7 [8] rfl (by kernel_rfl) rfl (D_loadH1 rfl (by assumption) rfl rfl) ?_)
        all_goals (refine WL_take 8 [] rfl (by kernel_rfl) rfl (D_neq_t rfl rfl (by omega) rfl) ?_)
        all_goals refine WL_nil ?_
        -- left: [] ready: [] []
        repeat' (first
          | refine W_seq ?_
          | refine WS_then ?_
          | refine W_if rfl ?_
          | refine W_ret ?_
          | refine then_ret ?_
          | refine block_ret ?_
          | ((refine W_region (id := 7) ?_) <;>
          (refine R_assign (.bool _) rfl rfl rfl ?_)))
        refine end1 rfl ⟨bvq (decide_eq_false fun e => hxy ?_).symm, rfl⟩
        subst e
        rw [h1] at h2
        exact Option.some.inj h2
    · repeat' (first
        | refine W_seq ?_
        | refine WS_then ?_
        | refine W_else rfl ?_
        | refine W_ret ?_
        | refine W_exit ?_
        | ((refine W_region (id := 4) ?_) <;>
        (refine R_lss_f rfl rfl (by omega) rfl rfl ?_))
        | ((refine W_region (id := 9) ?_) <;>
        (refine R_assign (.bool _) rfl rfl rfl ?_)))
      exact end1 rfl ⟨bvq (decide_eq_true (same_of hl fun j x y e1 e2 => hs j x y (by have := (List.getElem?_eq_some_iff.1 e1).1; omega) e1 e2)).symm, rfl⟩
  · repeat' (first
      | refine W_seq ?_
      | refine WS_then ?_
      | refine W_if rfl ?_
      | refine W_ret ?_
      | refine then_ret ?_
      | ((refine W_region (id := 0) ?_) <;>
      (refine R_assign (.bool _) rfl rfl rfl ?_))
      | ((refine W_region (id := 1) ?_) <;>
      (refine R_move (.slice _ _ _) rfl rfl rfl ?_) <;>
      (refine R_len rfl rfl rfl ?_) <;>
      (refine R_move (.slice _ _ _) rfl rfl rfl ?_) <;>
      (refine R_len rfl rfl rfl ?_) <;>
      (refine R_neq_t rfl rfl (by omega) rfl rfl ?_))
      | ((refine W_region (id := 2) ?_) <;>
      (refine R_assign (.bool _) rfl rfl rfl ?_)))
    exact end1 rfl ⟨bvq (decide_eq_false fun e => hl (by rw [e])).symm, rfl⟩

end Go.Lu
