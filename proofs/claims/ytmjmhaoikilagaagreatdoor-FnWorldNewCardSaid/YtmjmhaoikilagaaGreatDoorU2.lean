/- drawn cells and grids -/
import Derived.Test.YtmjmhaoikilagaaGreatDoorU1
set_option linter.unusedVariables false
set_option linter.unusedSectionVars false
namespace Go.Lu
open Go.Proofs
variable {main : Bool} {lo : Nat → Prop} {A : (Goroutine → LH → Prop) → Prop} [hA : Adm Tryz.prog main lo A]
include hA
set_option maxHeartbeats 1000000 in
theorem l71Cell_fn {r len cap : Nat} {a : Option Addr} {p : Int} {h : LH} (hr : RdOk h a len) (hp : 0 ≤ p) (hp1 : p ≤ 900000000) :
    FnO Tryz.prog lo A 97 [.pointer (some ⟨r, 0, none⟩)] (RdO r a len cap p) h
      (fun v L h' => (∃ (c : Cel) (p' : Int), v = .agg (celV c).toArray ∧ cellOk c = true ∧ L = RdO r a len cap p' ∧ p ≤ p' ∧ p' ≤ p + 2 ∧ h' = h) ∧ LE h h') := by
  refine FnO_body (n := 32) (fn := Tryz.f97) Tryz.func97 rfl rfl rfl ?_
  unfold RdO
  repeat' (first
    | refine W_seq ?_
    | refine WS_then ?_
    | refine W_if rfl ?_
    | refine W_else rfl ?_
    | refine W_skip ?_
    | refine W_block ?_
    | refine W_ret ?_
    | refine then_ret ?_
    | refine block_ret ?_
    | ((refine W_region (id := 0) ?_) <;>
    (refine R_alloc rfl rfl ?_; intro bk))
    | ((refine W_region (id := 1) ?_) <;>
    (refine R_move (.pointer _) rfl rfl rfl ?_) <;>
    (refine R_rd (main := main) (A := A) 1 (by assumption) rfl (by omega) (by omega) rfl rfl rfl (by omega) (by omega) rfl rfl ?_; intro pk hpk0 hpk1; try dsimp only [List.set]))
    | ((refine W_region (id := 2) ?_) <;>
    (refine R_eql rfl rfl rfl rfl ?_ ?_ <;> intro hc) <;>
    (refine R_assign (.bool _) rfl rfl rfl ?_))
    | ((refine W_region (id := 3) ?_) <;>
    (refine R_build [(.int _ _), (.int _ _)] rfl rfl rfl ?_) <;>
    (refine R_store 0 (.agg _) [(.int _ _), (.int _ _)] _ _ rfl rfl rfl rfl rfl rfl rfl rfl rfl rfl ?_; dsimp only [splice, List.set]))
    | ((refine W_region (id := 4) ?_) <;>
    (refine R_eql rfl rfl rfl rfl ?_ ?_ <;> intro hc) <;>
    (refine R_assign (.bool _) rfl rfl rfl ?_))
    | ((refine W_region (id := 5) ?_) <;>
    (refine R_eql rfl rfl rfl rfl ?_ ?_ <;> intro hc) <;>
    (refine R_assign (.bool _) rfl rfl rfl ?_))
    | ((refine W_region (id := 6) ?_) <;>
    (refine R_build [(.int _ _), (.int _ _)] rfl rfl rfl ?_) <;>
    (refine R_store 0 (.agg _) [(.int _ _), (.int _ _)] _ _ rfl rfl rfl rfl rfl rfl rfl rfl rfl rfl ?_; dsimp only [splice, List.set]))
    | ((refine W_region (id := 7) ?_) <;>
    (refine R_eql rfl rfl rfl rfl ?_ ?_ <;> intro hc) <;>
    (refine R_assign (.bool _) rfl rfl rfl ?_))
    | ((refine W_region (id := 8) ?_) <;>
    (refine R_eql rfl rfl rfl rfl ?_ ?_ <;> intro hc) <;>
    (refine R_assign (.bool _) rfl rfl rfl ?_))
    | ((refine W_region (id := 9) ?_) <;>
    (refine R_build [(.int _ _), (.int _ _)] rfl rfl rfl ?_) <;>
    (refine R_store 0 (.agg _) [(.int _ _), (.int _ _)] _ _ rfl rfl rfl rfl rfl rfl rfl rfl rfl rfl ?_; dsimp only [splice, List.set]))
    | ((refine W_region (id := 10) ?_) <;>
    (refine R_eql rfl rfl rfl rfl ?_ ?_ <;> intro hc) <;>
    (refine R_assign (.bool _) rfl rfl rfl ?_))
    | ((refine W_region (id := 11) ?_) <;>
    (refine R_build [(.int _ _), (.int _ _)] rfl rfl rfl ?_) <;>
    (refine R_store 0 (.agg _) [(.int _ _), (.int _ _)] _ _ rfl rfl rfl rfl rfl rfl rfl rfl rfl rfl ?_; dsimp only [splice, List.set]))
    | ((refine W_region (id := 12) ?_) <;>
    (refine R_eql rfl rfl rfl rfl ?_ ?_ <;> intro hc) <;>
    (refine R_assign (.bool _) rfl rfl rfl ?_))
    | ((refine W_region (id := 13) ?_) <;>
    (refine R_build [(.int _ _), (.int _ _)] rfl rfl rfl ?_) <;>
    (refine R_store 0 (.agg _) [(.int _ _), (.int _ _)] _ _ rfl rfl rfl rfl rfl rfl rfl rfl rfl rfl ?_; dsimp only [splice, List.set]))
    | ((refine W_region (id := 14) ?_) <;>
    (refine R_eql rfl rfl rfl rfl ?_ ?_ <;> intro hc) <;>
    (refine R_assign (.bool _) rfl rfl rfl ?_))
    | ((refine W_region (id := 15) ?_) <;>
    (refine R_build [(.int _ _), (.int _ _)] rfl rfl rfl ?_) <;>
    (refine R_store 0 (.agg _) [(.int _ _), (.int _ _)] _ _ rfl rfl rfl rfl rfl rfl rfl rfl rfl rfl ?_; dsimp only [splice, List.set]))
    | ((refine W_region (id := 16) ?_) <;>
    (refine R_eql rfl rfl rfl rfl ?_ ?_ <;> intro hc) <;>
    (refine R_assign (.bool _) rfl rfl rfl ?_))
    | ((refine W_region (id := 17) ?_) <;>
    (refine R_move (.pointer _) rfl rfl rfl ?_) <;>
    (refine R_rd (main := main) (A := A) 1 (by assumption) rfl (by omega) (by omega) rfl rfl rfl (by omega) (by omega) rfl rfl ?_; intro pk hpk0 hpk1; try dsimp only [List.set]) <;>
    (refine R_add rfl rfl (by omega) rfl rfl ?_) <;>
    (refine R_build [(.int _ _), (.int _ _)] rfl rfl rfl ?_) <;>
    (refine R_store 0 (.agg _) [(.int _ _), (.int _ _)] _ _ rfl rfl rfl rfl rfl rfl rfl rfl rfl rfl ?_; dsimp only [splice, List.set]))
    | ((refine W_region (id := 18) ?_) <;>
    (refine R_build [(.int _ _), (.int _ _)] rfl rfl rfl ?_) <;>
    (refine R_store 0 (.agg _) [(.int _ _), (.int _ _)] _ _ rfl rfl rfl rfl rfl rfl rfl rfl rfl rfl ?_; dsimp only [splice, List.set])))
  all_goals
    refine endRO (RdO r a len cap _) [] (sub_picks [1] rfl) rfl (.cons (.cellA 0 [.int _ _, .int _ _] rfl rfl (r := []) rfl rfl) .nil) fun _ _ => ⟨⟨⟨_, _⟩, _, rfl, ?_, rfl, ?_, ?_, rfl⟩, LE.refl _⟩
    · simp [cellOk]
      try omega
    · omega
    · omega
set_option maxHeartbeats 1000000 in
theorem l71Off_fn {r len cap : Nat} {a : Option Addr} {p : Int} {h : LH} (hr : RdOk h a len) (hp : 0 ≤ p) (hp1 : p ≤ 900000000) :
    FnO Tryz.prog lo A 98 [.pointer (some ⟨r, 0, none⟩)] (RdO r a len cap p) h
      (fun v L h' => (∃ (c : Cel) (p' : Int), v = .agg (celV c).toArray ∧ L = RdO r a len cap p' ∧ p ≤ p' ∧ p' ≤ p + 2 ∧ h' = h) ∧ LE h h') := by
  refine FnO_body (n := 14) (fn := Tryz.f98) Tryz.func98 rfl rfl rfl ?_
  unfold RdO
  repeat' (first
    | refine W_seq ?_
    | refine WS_then ?_
    | ((refine W_region (id := 0) ?_) <;>
    (refine R_alloc rfl rfl ?_; intro bk)))
  refine W_region (id := 1) ?_
  all_goals (refine R_build [(.int _ _), (.int _ _)] rfl rfl rfl ?_)
  all_goals (refine R_build [(.int _ _), (.int _ _)] rfl rfl rfl ?_)
  all_goals (refine R_build [(.int _ _), (.int _ _)] rfl rfl rfl ?_)
  all_goals (refine R_build [(.int _ _), (.int _ _)] rfl rfl rfl ?_)
  all_goals (refine R_build [(.int _ _), (.int _ _)] rfl rfl rfl ?_)
  all_goals (refine R_build [(.int _ _), (.int _ _)] rfl rfl rfl ?_)
  all_goals (refine R_buildSlice [(.int _ _), (.int _ _), (.int _ _), (.int _ _), (.int _ _), (.int _ _), (.int _ _), (.int _ _), (.int _ _), (.int _ _), (.int _ _), (.int _ _)] rfl rfl rfl rfl rfl rfl ?_; intro bk)
  all_goals (refine R_move (.pointer _) rfl rfl rfl ?_)
  all_goals (refine R_rd (main := main) (A := A) 2 (by assumption) rfl (by omega) (by omega) rfl rfl rfl (by omega) (by omega) rfl rfl ?_; intro pk hpk0 hpk1; try dsimp only [List.set])
  all_goals (refine R_index rfl rfl (by omega) (by omega) rfl rfl ?_)
  have h6 : pk = 0 ∨ pk = 1 ∨ pk = 2 ∨ pk = 3 ∨ pk = 4 ∨ pk = 5 := by omega
  rcases h6 with rfl | rfl | rfl | rfl | rfl | rfl
  all_goals
    refine R_loadA 0 [.int _ _, .int _ _] rfl rfl rfl rfl rfl rfl ?_
    all_goals (refine R_store 1 (.agg _) [(.int _ _), (.int _ _)] _ _ rfl rfl rfl rfl rfl rfl rfl rfl rfl rfl ?_; dsimp only [splice, List.set])
    repeat' (first
      | refine WS_then ?_
      | refine W_ret ?_)
    refine endRO (RdO r a len cap _) [] (sub_picks [2] rfl) rfl (.cons (.cellA 1 [.int _ _, .int _ _] rfl rfl (r := []) rfl rfl) .nil) fun _ _ => ⟨⟨⟨_, _⟩, _, rfl, rfl, ?_, ?_, rfl⟩, LE.refl _⟩ <;> omega
end Go.Lu
