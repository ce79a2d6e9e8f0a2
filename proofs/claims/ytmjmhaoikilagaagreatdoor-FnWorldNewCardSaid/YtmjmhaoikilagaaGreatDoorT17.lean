/- edits -/
import Derived.Test.YtmjmhaoikilagaaGreatDoorT3
import Derived.Test.YtmjmhaoikilagaaGreatDoorM2
set_option linter.unusedVariables false
namespace Go.Lu
open Go.Proofs
variable {main : Bool} {lo : Nat → Prop} {A : (Goroutine → LH → Prop) → Prop} [hA : Adm Tryz.prog main lo A]
include hA
set_option maxHeartbeats 1000000 in
theorem editOk_fn {gv : Value} {g : Grd} {h : LH} (hs : GridD h gv g) (a k l : Int) (hl : g.cells.length ≤ 1000000) : Fn Tryz.prog A 101 [gv, .agg [.int .i64 a, .int .i64 k, .int .i64 l].toArray].toArray h (fun v h' => v = .bool (editOk g ⟨a, ⟨k, l⟩⟩) ∧ h' = h) := by
  obtain ⟨p, c, rfl, hp, hd⟩ := hs
  refine Fn_body (n := 21) (fn := Tryz.f101) Tryz.func101 rfl rfl rfl ?_
  repeat' (first
    | refine W_seq ?_
    | refine WS_then ?_
    | ((refine W_region (id := 0) ?_) <;>
    (refine R_box (.agg _) [(.int _ _), (.slice _ _ _)] rfl rfl rfl rfl ?_; intro bk) <;>
    (refine R_box (.agg _) [(.int _ _), (.int _ _), (.int _ _)] rfl rfl rfl rfl ?_; intro bk) <;>
    (refine R_assign (.bool _) rfl rfl rfl ?_)))
  refine W_region (id := 1) ?_
  all_goals (refine R_field rfl rfl rfl ?_)
  all_goals (refine R_loadA 0 [(.int _ _), (.int _ _)] rfl rfl rfl rfl rfl rfl ?_)
  all_goals (refine R_call (CellOk_fn _ _ _) rfl rfl rfl rfl ?_; rintro _ _ ⟨rfl, hq⟩; replace hq := hq.symm; subst hq)
  all_goals (refine R_move (.bool _) rfl rfl rfl ?_)
  cases hk : cellOk ⟨k, l⟩
  · all_goals (refine R_skip rfl rfl ?_)
    all_goals (refine R_skip rfl rfl ?_)
    all_goals (refine R_skip rfl rfl ?_)
    all_goals (refine R_pick (.bool _) rfl rfl rfl rfl ?_)
    all_goals (refine R_move (.bool _) rfl rfl rfl ?_)
    all_goals (refine R_skip rfl rfl ?_)
    all_goals (refine R_skip rfl rfl ?_)
    all_goals (refine R_skip rfl rfl ?_)
    all_goals (refine R_skip rfl rfl ?_)
    all_goals (refine R_skip rfl rfl ?_)
    all_goals (refine R_skip rfl rfl ?_)
    all_goals (refine R_pick (.bool _) rfl rfl rfl rfl ?_)
    all_goals (refine R_assign (.bool _) rfl rfl rfl ?_)
    repeat' (first
      | refine WS_then ?_
      | refine W_ret ?_)
    exact end1 rfl ⟨bvq (by simp [editOk, hk]), rfl⟩
  · all_goals (refine R_field rfl rfl rfl ?_)
    all_goals (refine R_load1 0 rfl rfl rfl rfl rfl rfl ?_)
    all_goals (refine R_geq rfl rfl rfl rfl ?_ ?_ <;> intro hc)
    all_goals (refine R_pick (.bool _) rfl rfl rfl rfl ?_)
    all_goals (refine R_move (.bool _) rfl rfl rfl ?_)
    all_goals (first | refine R_field rfl rfl rfl ?_ | refine R_skip rfl rfl ?_)
    all_goals (first | refine R_load1 0 rfl rfl rfl rfl rfl rfl ?_ | refine R_skip rfl rfl ?_)
    all_goals (first | refine R_field rfl rfl rfl ?_ | refine R_skip rfl rfl ?_)
    all_goals (first | refine R_load1 1 rfl rfl rfl rfl rfl rfl ?_ | refine R_skip rfl rfl ?_)
    all_goals (first | refine R_len rfl rfl rfl ?_ | refine R_skip rfl rfl ?_)
    all_goals (first | (refine R_lss rfl rfl rfl rfl ?_ ?_ <;> intro hc) | refine R_skip rfl rfl ?_)
    all_goals (refine R_pick (.bool _) rfl rfl rfl rfl ?_)
    all_goals (refine R_assign (.bool _) rfl rfl rfl ?_)
    repeat' (first
      | refine WS_then ?_
      | refine W_ret ?_)
    all_goals
      refine end1 rfl ⟨bvq ?_, rfl⟩
      simp [editOk, hk]
      try omega

set_option maxHeartbeats 1000000 in
theorem editsOk_fn {gv sv : Value} {g : Grd} {es : List Edt} {h : LH} (hs : GridD h gv g) (hE : Sd h 3 sv es EdR) (hl : g.cells.length ≤ 1000000) (hle : es.length ≤ 1000000) : Fn Tryz.prog A 85 [gv, sv].toArray h (fun v h' => v = .bool (es.all (editOk g)) ∧ h' = h) := by
  have hG := hs
  obtain ⟨p, c, rfl, hp, hd⟩ := hs
  obtain ⟨q, cq, rfl, hq, hes⟩ := hE
  refine Fn_body (n := 18) (fn := Tryz.f85) Tryz.func85 rfl rfl rfl ?_
  repeat' (first
    | refine W_seq ?_
    | refine WS_then ?_
    | refine W_block ?_
    | ((refine W_region (id := 0) ?_) <;>
    (refine R_box (.agg _) [(.int _ _), (.slice _ _ _)] rfl rfl rfl rfl ?_; intro bk) <;>
    (refine R_assign (.bool _) rfl rfl rfl ?_))
    | ((refine W_region (id := 1) ?_) <;>
    (refine R_move (.slice _ _ _) rfl rfl rfl ?_) <;>
    (refine R_len rfl rfl rfl ?_) <;>
    (refine R_move (.int _ _) rfl rfl rfl ?_)))
  refine W_loopA (ι := Nat) (fun i => es.length - i) (fun i => [(2, .pointer (some ⟨bk, 0, none⟩)), (7, .slice q es.length cq), (8, .int .i64 es.length), (9, .int .i64 i)]) (fun _ => [(bk, bx [.int .i64 g.wide, .slice p g.cells.length c] 25)]) (fun _ => h)
    (fun i => i ≤ es.length ∧ ∀ (j : Nat) x, j < i → es[j]? = some x → editOk g x = true) 0 ⟨by omega, by omega⟩ (abs_mk ⟨rfl, rfl, rfl, rfl, trivial⟩ [0] rfl) ?_
  rintro i e ⟨hi, hok⟩
  by_cases hlt : i < es.length
  · have hx : es[i]? = some es[i] := List.getElem?_eq_getElem hlt
    generalize es[i] = x at hx
    obtain ⟨a, ⟨k, l⟩⟩ := x
    obtain ⟨b, o, vs, rfl, rfl, hat⟩ := hes i _ hx
    simp only [edV] at hat
    repeat' (first
      | refine W_seq ?_
      | refine WS_then ?_
      | refine W_if rfl ?_
      | refine W_skip ?_
      | refine W_block ?_
      | ((refine W_region (id := 2) ?_) <;>
      (refine R_lss_t rfl rfl (by omega) rfl rfl ?_))
      | ((refine W_region (id := 3) ?_) <;>
      (refine R_index rfl rfl (by omega) (by omega) rfl rfl ?_) <;>
      (refine R_loadHA rfl (by assumption) rfl rfl rfl ?_) <;>
      (refine R_alloc rfl rfl ?_; intro bk) <;>
      (refine R_store 0 (.agg _) [(.int _ _), (.int _ _), (.int _ _)] _ _ rfl rfl rfl rfl rfl rfl rfl rfl rfl rfl ?_; dsimp only [splice, List.set]))
      | ((refine W_region (id := 4) ?_) <;>
      (refine R_loadA 1 [(.int _ _), (.slice _ _ _)] rfl rfl rfl rfl rfl rfl ?_) <;>
      (refine R_loadA 0 [(.int _ _), (.int _ _), (.int _ _)] rfl rfl rfl rfl rfl rfl ?_) <;>
      (refine R_call (editOk_fn (by assumption) _ _ _ (by assumption)) rfl rfl rfl rfl ?_; rintro _ _ ⟨rfl, hq⟩; replace hq := hq.symm; subst hq) <;>
      (refine R_not _ rfl rfl rfl rfl ?_)))
    cases hk : editOk g ⟨a, ⟨k, l⟩⟩
    · repeat' (first
        | refine W_seq ?_
        | refine WS_then ?_
        | refine W_if rfl ?_
        | refine W_ret ?_
        | refine then_ret ?_
        | refine block_ret ?_
        | ((refine W_region (id := 5) ?_) <;>
        (refine R_assign (.bool _) rfl rfl rfl ?_)))
      refine end1 rfl ⟨bvq ?_, rfl⟩
      cases hall : es.all (editOk g) with
      | false => rfl
      | true =>
        rw [List.all_eq_true] at hall
        have := hall _ (List.mem_of_getElem? hx)
        rw [hk] at this; cases this
    · repeat' (first
        | refine WS_end ?_
        | refine W_else rfl ?_
        | refine W_skip ?_
        | refine then_normal ?_
        | refine block_normal ?_
        | ((refine W_region (id := 6) ?_) <;>
        (refine R_add rfl rfl (by omega) rfl rfl ?_) <;>
        (refine R_move (.int _ _) rfl rfl rfl ?_)))
      exact ⟨i + 1, ⟨by omega, fun j x hj hx' => by
        by_cases hji : j = i
        · subst hji; rw [hx] at hx'; cases hx'; exact hk
        · exact hok j x (by omega) hx'⟩, abs_mk ⟨rfl, rfl, rfl, ivq (by omega), trivial⟩ [1] rfl, by omega⟩
  · repeat' (first
      | refine W_seq ?_
      | refine WS_then ?_
      | refine W_else rfl ?_
      | refine W_ret ?_
      | refine W_exit ?_
      | ((refine W_region (id := 2) ?_) <;>
      (refine R_lss_f rfl rfl (by omega) rfl rfl ?_))
      | ((refine W_region (id := 7) ?_) <;>
      (refine R_assign (.bool _) rfl rfl rfl ?_)))
    refine end1 rfl ⟨bvq ?_, rfl⟩
    symm
    rw [List.all_eq_true]
    intro x hx
    obtain ⟨j, hj⟩ := List.mem_iff_getElem?.1 hx
    exact hok j x (by have := (List.getElem?_eq_some_iff.1 hj).1; omega) hj
end Go.Lu
