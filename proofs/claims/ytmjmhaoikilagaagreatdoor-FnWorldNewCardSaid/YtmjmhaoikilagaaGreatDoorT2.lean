import Derived.Test.YtmjmhaoikilagaaGreatDoorInst
import Derived.Test.YtmjmhaoikilagaaGreatDoorDraw2
import Derived.Test.YtmjmhaoikilagaaGreatDoorM
set_option linter.unusedVariables false
namespace Go.Lu
open Go.Proofs
variable {main : Bool} {lo : Nat → Prop} {A : (Goroutine → LH → Prop) → Prop} [hA : Adm Tryz.prog main lo A]
include hA

omit hA in
theorem tupB {x : Value} {a b : Bool} (h : a = b) : ∃ y, Value.tuple [x, .bool a].toArray = .tuple [y, .bool b].toArray := ⟨x, by rw [h]⟩
theorem cellTyped_fn (k l : Int) (h : LH) : Fn Tryz.prog A 95 [.agg [.int .i64 k, .int .i64 l].toArray].toArray h (fun v h' => (∃ x, v = .tuple [x, .bool (cellOk ⟨k, l⟩)].toArray) ∧ h' = h) := by
  refine Fn_body (n := 52) (fn := Tryz.f95) Tryz.func95 rfl rfl rfl ?_
  repeat' (first
    | refine W_seq ?_
    | refine WS_then ?_
    | refine W_if rfl ?_
    | refine W_else rfl ?_
    | refine W_skip ?_
    | refine W_ret ?_
    | refine then_ret ?_
    | ((refine W_region (id := 0) ?_) <;>
    (refine R_box (.agg _) [(.int _ _), (.int _ _)] rfl rfl rfl rfl ?_; intro bk) <;>
    (refine R_assign .nilIface rfl rfl rfl ?_) <;>
    (refine R_assign (.bool _) rfl rfl rfl ?_))
    | ((refine W_region (id := 1) ?_) <;>
    (refine R_field rfl rfl rfl ?_) <;>
    (refine R_load1 0 rfl rfl rfl rfl rfl rfl ?_) <;>
    (refine R_eql rfl rfl rfl rfl ?_ ?_ <;> intro hc))
    | ((refine W_region (id := 3) ?_) <;>
    (refine R_field rfl rfl rfl ?_) <;>
    (refine R_load1 0 rfl rfl rfl rfl rfl rfl ?_) <;>
    (refine R_lss rfl rfl rfl rfl ?_ ?_ <;> intro hc) <;>
    (refine R_move (.bool _) rfl rfl rfl ?_) <;>
    (first | refine R_field rfl rfl rfl ?_ | refine R_skip rfl rfl ?_) <;>
    (first | refine R_load1 0 rfl rfl rfl rfl rfl rfl ?_ | refine R_skip rfl rfl ?_) <;>
    (first | (refine R_gtr rfl rfl rfl rfl ?_ ?_ <;> intro hc) | refine R_skip rfl rfl ?_) <;>
    (refine R_pick (.bool _) rfl rfl rfl rfl ?_) <;>
    (refine R_move (.bool _) rfl rfl rfl ?_) <;>
    (first | refine R_field rfl rfl rfl ?_ | refine R_skip rfl rfl ?_) <;>
    (first | refine R_load1 0 rfl rfl rfl rfl rfl rfl ?_ | refine R_skip rfl rfl ?_) <;>
    (first | (refine R_neq rfl rfl rfl rfl ?_ ?_ <;> intro hc) | refine R_skip rfl rfl ?_) <;>
    (refine R_pick (.bool _) rfl rfl rfl rfl ?_))
    | ((refine W_region (id := 4) ?_) <;>
    (refine R_assign .nilIface rfl rfl rfl ?_) <;>
    (refine R_assign (.bool _) rfl rfl rfl ?_)))
  · subst k
    by_cases h1 : 1 ≤ l
    · by_cases h2 : l ≤ 9
      · all_goals refine W_draw (fun _ => false) [0, 1, 2, 3, 4, 5, 6, 7, 8, 9, 10, 11, 12, 13] (by kernel_rfl) (by kernel_rfl) (by kernel_rfl) (by kernel_rfl) ?_
        all_goals (refine WL_take 0 [1, 2, 3, 4, 5, 6, 7, 8, 9, 10, 11, 12, 13] rfl (by kernel_rfl) rfl (D_field rfl rfl) ?_)
        all_goals (refine WL_take 1 [2, 3, 4, 5, 6, 7, 8, 9, 10, 11, 12, 13] rfl (by kernel_rfl) rfl (D_load1 0 rfl rfl rfl rfl rfl) ?_)
        all_goals (refine WL_take 2 [3, 4, 5, 6, 7, 8, 9, 10, 11, 12, 13] rfl (by kernel_rfl) rfl (D_build [(.int _ _)] rfl rfl) ?_)
        all_goals (refine WL_take 3 [4, 5, 6, 7, 8, 9, 10, 11, 12, 13] rfl (by kernel_rfl) rfl (D_mkIface (.agg _) rfl rfl) ?_)
        all_goals (refine WL_take 4 [5, 6, 7, 8, 9, 10, 11, 12, 13] rfl (by kernel_rfl) rfl (D_field rfl rfl) ?_)
        all_goals (refine WL_take 5 [6, 7, 8, 9, 10, 11, 12, 13] rfl (by kernel_rfl) rfl (D_load1 0 rfl rfl rfl rfl rfl) ?_)
        all_goals (refine WL_take 6 [7, 8, 9, 10, 11, 12, 13] rfl (by kernel_rfl) rfl (D_geq_t rfl rfl (by omega) rfl) ?_)
        all_goals (refine WL_take 7 [8, 9, 10, 11, 12, 13] rfl (by kernel_rfl) rfl (D_move (.bool _) rfl rfl) ?_)
        all_goals (refine WL_take 8 [9, 10, 11, 12, 13] rfl (by kernel_rfl) rfl (D_field rfl rfl) ?_)
        all_goals (refine WL_take 9 [10, 11, 12, 13] rfl (by kernel_rfl) rfl (D_load1 0 rfl rfl rfl rfl rfl) ?_)
        all_goals (refine WL_take 10 [11, 12, 13] rfl (by kernel_rfl) rfl (D_leq_t rfl rfl (by omega) rfl) ?_)
        all_goals (refine WL_take 11 [12, 13] rfl (by kernel_rfl) rfl (D_pick (.bool _) rfl rfl rfl) ?_)
        all_goals (refine WL_take 12 [13] rfl (by kernel_rfl) rfl (D_assign (.iface _ _) rfl rfl) ?_)
        all_goals (refine WL_take 13 [] rfl (by kernel_rfl) rfl (D_assign (.bool _) rfl rfl) ?_)
        all_goals refine WL_nil ?_
        -- left: [] ready: [] []
        repeat' (first
          | refine W_ret ?_
          | refine then_ret ?_)
        exact end2 rfl ⟨tupB (by simp [cellOk, h1, h2]), rfl⟩
      · all_goals refine W_draw (fun _ => false) [0, 1, 2, 3, 4, 5, 6, 7, 8, 9, 10, 11, 12, 13] (by kernel_rfl) (by kernel_rfl) (by kernel_rfl) (by kernel_rfl) ?_
        all_goals (refine WL_take 0 [1, 2, 3, 4, 5, 6, 7, 8, 9, 10, 11, 12, 13] rfl (by kernel_rfl) rfl (D_field rfl rfl) ?_)
        all_goals (refine WL_take 1 [2, 3, 4, 5, 6, 7, 8, 9, 10, 11, 12, 13] rfl (by kernel_rfl) rfl (D_load1 0 rfl rfl rfl rfl rfl) ?_)
        all_goals (refine WL_take 2 [3, 4, 5, 6, 7, 8, 9, 10, 11, 12, 13] rfl (by kernel_rfl) rfl (D_build [(.int _ _)] rfl rfl) ?_)
        all_goals (refine WL_take 3 [4, 5, 6, 7, 8, 9, 10, 11, 12, 13] rfl (by kernel_rfl) rfl (D_mkIface (.agg _) rfl rfl) ?_)
        all_goals (refine WL_take 4 [5, 6, 7, 8, 9, 10, 11, 12, 13] rfl (by kernel_rfl) rfl (D_field rfl rfl) ?_)
        all_goals (refine WL_take 5 [6, 7, 8, 9, 10, 11, 12, 13] rfl (by kernel_rfl) rfl (D_load1 0 rfl rfl rfl rfl rfl) ?_)
        all_goals (refine WL_take 6 [7, 8, 9, 10, 11, 12, 13] rfl (by kernel_rfl) rfl (D_geq_t rfl rfl (by omega) rfl) ?_)
        all_goals (refine WL_take 7 [8, 9, 10, 11, 12, 13] rfl (by kernel_rfl) rfl (D_move (.bool _) rfl rfl) ?_)
        all_goals (refine WL_take 8 [9, 10, 11, 12, 13] rfl (by kernel_rfl) rfl (D_field rfl rfl) ?_)
        all_goals (refine WL_take 9 [10, 11, 12, 13] rfl (by kernel_rfl) rfl (D_load1 0 rfl rfl rfl rfl rfl) ?_)
        all_goals (refine WL_take 10 [11, 12, 13] rfl (by kernel_rfl) rfl (D_leq_f rfl rfl (by omega) rfl) ?_)
        all_goals (refine WL_take 11 [12, 13] rfl (by kernel_rfl) rfl (D_pick (.bool _) rfl rfl rfl) ?_)
        all_goals (refine WL_take 12 [13] rfl (by kernel_rfl) rfl (D_assign (.iface _ _) rfl rfl) ?_)
        all_goals (refine WL_take 13 [] rfl (by kernel_rfl) rfl (D_assign (.bool _) rfl rfl) ?_)
        all_goals refine WL_nil ?_
        -- left: [] ready: [] []
        repeat' (first
          | refine W_ret ?_
          | refine then_ret ?_)
        exact end2 rfl ⟨tupB (by simp [cellOk, h1, h2]), rfl⟩
    · all_goals refine W_draw (fun _ => false) [0, 1, 2, 3, 4, 5, 6, 7, 8, 9, 10, 11, 12, 13] (by kernel_rfl) (by kernel_rfl) (by kernel_rfl) (by kernel_rfl) ?_
      all_goals (refine WL_take 0 [1, 2, 3, 4, 5, 6, 7, 8, 9, 10, 11, 12, 13] rfl (by kernel_rfl) rfl (D_field rfl rfl) ?_)
      all_goals (refine WL_take 1 [2, 3, 4, 5, 6, 7, 8, 9, 10, 11, 12, 13] rfl (by kernel_rfl) rfl (D_load1 0 rfl rfl rfl rfl rfl) ?_)
      all_goals (refine WL_take 2 [3, 4, 5, 6, 7, 8, 9, 10, 11, 12, 13] rfl (by kernel_rfl) rfl (D_build [(.int _ _)] rfl rfl) ?_)
      all_goals (refine WL_take 3 [4, 5, 6, 7, 8, 9, 10, 11, 12, 13] rfl (by kernel_rfl) rfl (D_mkIface (.agg _) rfl rfl) ?_)
      all_goals (refine WL_take 4 [5, 6, 7, 8, 9, 10, 11, 12, 13] rfl (by kernel_rfl) rfl (D_field rfl rfl) ?_)
      all_goals (refine WL_take 5 [6, 7, 8, 9, 10, 11, 12, 13] rfl (by kernel_rfl) rfl (D_load1 0 rfl rfl rfl rfl rfl) ?_)
      all_goals (refine WL_take 6 [7, 8, 9, 10, 11, 12, 13] rfl (by kernel_rfl) rfl (D_geq_f rfl rfl (by omega) rfl) ?_)
      all_goals (refine WL_take 7 [8, 9, 10, 11, 12, 13] rfl (by kernel_rfl) rfl (D_move (.bool _) rfl rfl) ?_)
      all_goals (refine WL_take 8 [9, 10, 11, 12, 13] rfl (by kernel_rfl) rfl (D_skip rfl) ?_)
      all_goals (refine WL_take 9 [10, 11, 12, 13] rfl (by kernel_rfl) rfl (D_skip rfl) ?_)
      all_goals (refine WL_take 10 [11, 12, 13] rfl (by kernel_rfl) rfl (D_skip rfl) ?_)
      all_goals (refine WL_take 11 [12, 13] rfl (by kernel_rfl) rfl (D_pick (.bool _) rfl rfl rfl) ?_)
      all_goals (refine WL_take 12 [13] rfl (by kernel_rfl) rfl (D_assign (.iface _ _) rfl rfl) ?_)
      all_goals (refine WL_take 13 [] rfl (by kernel_rfl) rfl (D_assign (.bool _) rfl rfl) ?_)
      all_goals refine WL_nil ?_
      -- left: [] ready: [] []
      repeat' (first
        | refine W_ret ?_
        | refine then_ret ?_)
      exact end2 rfl ⟨tupB (by simp [cellOk, h1]), rfl⟩
  · exact end2 rfl ⟨tupB (by rw [cellOk_mk, if_neg (by omega)]; exact (decide_eq_false (by omega)).symm), rfl⟩
  · exact end2 rfl ⟨tupB (by rw [cellOk_mk, if_neg (by omega)]; exact (decide_eq_false (by omega)).symm), rfl⟩
  · exact end2 rfl ⟨tupB (by rw [cellOk_mk, if_neg (by omega)]; exact (decide_eq_false (by omega)).symm), rfl⟩
  · have hk : k = 0 ∨ k = 1 ∨ k = 2 ∨ k = 3 ∨ k = 4 ∨ k = 5 ∨ k = 6 := by omega
    have hl : l = 0 := by omega
    subst hl
    rcases hk with rfl | rfl | rfl | rfl | rfl | rfl | rfl
    all_goals
      repeat' (first
        | refine W_seq ?_
        | refine WS_then ?_
        | refine W_ret ?_
        | ((refine W_region (id := 5) ?_) <;>
        (refine R_build [] rfl rfl rfl ?_) <;>
        (refine R_mkIface (.agg _) rfl rfl rfl ?_) <;>
        (refine R_build [] rfl rfl rfl ?_) <;>
        (refine R_mkIface (.agg _) rfl rfl rfl ?_) <;>
        (refine R_build [] rfl rfl rfl ?_) <;>
        (refine R_mkIface (.agg _) rfl rfl rfl ?_) <;>
        (refine R_build [] rfl rfl rfl ?_) <;>
        (refine R_mkIface (.agg _) rfl rfl rfl ?_) <;>
        (refine R_build [] rfl rfl rfl ?_) <;>
        (refine R_mkIface (.agg _) rfl rfl rfl ?_) <;>
        (refine R_build [] rfl rfl rfl ?_) <;>
        (refine R_mkIface (.agg _) rfl rfl rfl ?_) <;>
        (refine R_build [] rfl rfl rfl ?_) <;>
        (refine R_mkIface (.agg _) rfl rfl rfl ?_) <;>
        (refine R_buildArr [_, _, _, _, _, _, _] rfl rfl rfl ?_) <;>
        (refine R_alloc rfl rfl ?_; intro bk) <;>
        (refine R_store 0 (.agg _) [_, _, _, _, _, _, _] _ _ rfl rfl rfl rfl rfl rfl rfl rfl rfl rfl ?_; dsimp only [splice, List.set]))
        | ((refine W_region (id := 6) ?_) <;>
        (refine R_field rfl rfl rfl ?_) <;>
        (refine R_load1 1 rfl rfl rfl rfl rfl rfl ?_) <;>
        (refine R_indexArr rfl rfl (by omega) (by omega) rfl rfl ?_) <;>
        (refine R_load1 0 rfl rfl rfl rfl rfl rfl ?_) <;>
        (refine R_assign (.iface _ _) rfl rfl rfl ?_) <;>
        (refine R_assign (.bool _) rfl rfl rfl ?_)))
      exact end2 rfl ⟨tupB (by simp [cellOk]), rfl⟩

set_option maxHeartbeats 1000000 in
theorem CellOk_fn (k l : Int) (h : LH) : Fn Tryz.prog A 62 [.agg [.int .i64 k, .int .i64 l].toArray].toArray h (fun v h' => v = .bool (cellOk ⟨k, l⟩) ∧ h' = h) := by
  refine Fn_body (n := 11) (fn := Tryz.f62) Tryz.func62 rfl rfl rfl ?_
  repeat' (first
    | refine W_seq ?_
    | refine WS_then ?_
    | refine W_ret ?_
    | ((refine W_region (id := 0) ?_) <;>
    (refine R_box (.agg _) [(.int _ _), (.int _ _)] rfl rfl rfl rfl ?_; intro bk) <;>
    (refine R_assign (.bool _) rfl rfl rfl ?_))
    | ((refine W_region (id := 1) ?_) <;>
    (refine R_loadA 0 [(.int _ _), (.int _ _)] rfl rfl rfl rfl rfl rfl ?_) <;>
    (refine R_call (cellTyped_fn _ _ _) rfl rfl rfl rfl ?_; rintro _ _ ⟨⟨_, rfl⟩, hq⟩; replace hq := hq.symm; subst hq) <;>
    (refine R_move (.tuple _) rfl rfl rfl ?_) <;>
    (refine R_extract _ rfl rfl rfl rfl ?_) <;>
    (refine R_extract (.bool _) rfl rfl rfl rfl ?_) <;>
    (refine R_assign _ rfl rfl rfl ?_) <;>
    (refine R_assign (.bool _) rfl rfl rfl ?_))
    | ((refine W_region (id := 2) ?_) <;>
    (refine R_move (.bool _) rfl rfl rfl ?_) <;>
    (refine R_assign (.bool _) rfl rfl rfl ?_)))
  exact end1 rfl ⟨rfl, rfl⟩
set_option maxHeartbeats 1000000 in
theorem GridOk_fn {gv : Value} {gr : Grd} {h : LH} (hs : GridD h gv gr) : Fn Tryz.prog A 61 [gv].toArray h (fun v h' => v = .bool (gridOk gr) ∧ h' = h) := by
  obtain ⟨w, cs⟩ := gr
  obtain ⟨p, c, rfl, hp, hd⟩ := hs
  dsimp only at hd ⊢
  refine Fn_body (n := 46) (fn := Tryz.f61) Tryz.func61 rfl rfl rfl ?_
  repeat' (first
    | refine W_seq ?_
    | refine WS_then ?_
    | refine W_if rfl ?_
    | refine W_else rfl ?_
    | refine W_skip ?_
    | refine W_block ?_
    | refine W_ret ?_
    | refine then_ret ?_
    | ((refine W_region (id := 0) ?_) <;>
    (refine R_box (.agg _) [(.int _ _), (.slice _ _ _)] rfl rfl rfl rfl ?_; intro bk) <;>
    (refine R_assign (.bool _) rfl rfl rfl ?_))
    | ((refine W_region (id := 1) ?_) <;>
    (refine R_field rfl rfl rfl ?_) <;>
    (refine R_load1 0 rfl rfl rfl rfl rfl rfl ?_) <;>
    (refine R_lss rfl rfl rfl rfl ?_ ?_ <;> intro hc) <;>
    (refine R_move (.bool _) rfl rfl rfl ?_) <;>
    (first | refine R_field rfl rfl rfl ?_ | refine R_skip rfl rfl ?_) <;>
    (first | refine R_load1 0 rfl rfl rfl rfl rfl rfl ?_ | refine R_skip rfl rfl ?_) <;>
    (first | (refine R_gtr rfl rfl rfl rfl ?_ ?_ <;> intro hc) | refine R_skip rfl rfl ?_) <;>
    (refine R_pick (.bool _) rfl rfl rfl rfl ?_))
    | ((refine W_region (id := 2) ?_) <;>
    (refine R_assign (.bool _) rfl rfl rfl ?_))
    | ((refine W_region (id := 3) ?_) <;>
    (refine R_field rfl rfl rfl ?_) <;>
    (refine R_load1 0 rfl rfl rfl rfl rfl rfl ?_) <;>
    (refine R_len rfl rfl rfl ?_) <;>
    (refine R_eql rfl rfl rfl rfl ?_ ?_ <;> intro hc) <;>
    (refine R_move (.bool _) rfl rfl rfl ?_) <;>
    (first | refine R_field rfl rfl rfl ?_ | refine R_skip rfl rfl ?_) <;>
    (first | refine R_load1 0 rfl rfl rfl rfl rfl rfl ?_ | refine R_skip rfl rfl ?_) <;>
    (first | refine R_len rfl rfl rfl ?_ | refine R_skip rfl rfl ?_) <;>
    (first | refine R_field rfl rfl rfl ?_ | refine R_skip rfl rfl ?_) <;>
    (first | refine R_load1 0 rfl rfl rfl rfl rfl rfl ?_ | refine R_skip rfl rfl ?_) <;>
    (first | refine R_mul rfl rfl (by omega) rfl rfl ?_ | refine R_skip rfl rfl ?_) <;>
    (first | (refine R_gtr rfl rfl rfl rfl ?_ ?_ <;> intro hc) | refine R_skip rfl rfl ?_) <;>
    (refine R_pick (.bool _) rfl rfl rfl rfl ?_) <;>
    (refine R_move (.bool _) rfl rfl rfl ?_) <;>
    (first | refine R_field rfl rfl rfl ?_ | refine R_skip rfl rfl ?_) <;>
    (first | refine R_load1 0 rfl rfl rfl rfl rfl rfl ?_ | refine R_skip rfl rfl ?_) <;>
    (first | refine R_len rfl rfl rfl ?_ | refine R_skip rfl rfl ?_) <;>
    (first | refine R_field rfl rfl rfl ?_ | refine R_skip rfl rfl ?_) <;>
    (first | refine R_load1 0 rfl rfl rfl rfl rfl rfl ?_ | refine R_skip rfl rfl ?_) <;>
    (first | refine R_rem rfl rfl (by omega) (by omega) rfl rfl ?_ | refine R_skip rfl rfl ?_) <;>
    (first | (refine R_neq rfl rfl rfl rfl ?_ ?_ <;> intro hc) | refine R_skip rfl rfl ?_) <;>
    (refine R_pick (.bool _) rfl rfl rfl rfl ?_))
    | ((refine W_region (id := 4) ?_) <;>
    (refine R_assign (.bool _) rfl rfl rfl ?_))
    | ((refine W_region (id := 5) ?_) <;>
    (refine R_field rfl rfl rfl ?_) <;>
    (refine R_load1 0 rfl rfl rfl rfl rfl rfl ?_) <;>
    (refine R_len rfl rfl rfl ?_) <;>
    (refine R_move (.int _ _) rfl rfl rfl ?_)))
  · exact end1 rfl ⟨bvq (gridOk_f (by omega)), rfl⟩
  · exact end1 rfl ⟨bvq (gridOk_f (by omega)), rfl⟩
  · exact end1 rfl ⟨bvq (gridOk_f (by omega)), rfl⟩
  · exact end1 rfl ⟨bvq (gridOk_f (by omega)), rfl⟩
  · exact end1 rfl ⟨bvq (gridOk_f (by omega)), rfl⟩
  · refine W_loopA (ι := Nat) (fun i => cs.length - i) (fun i => [(36, .slice p cs.length c), (37, .int .i64 cs.length), (38, .int .i64 i)]) (fun _ => []) (fun _ => h) (fun i => i ≤ cs.length ∧ ∀ (j : Nat) x, j < i → cs[j]? = some x → cellOk x = true) 0 ⟨by omega, by omega⟩ (abs_mk ⟨rfl, rfl, rfl, trivial⟩ [] rfl) ?_
    rintro i e ⟨hi, hok⟩
    by_cases hlt : i < cs.length
    · have hx : cs[i]? = some cs[i] := List.getElem?_eq_getElem hlt
      obtain ⟨b, o, vs, rfl, rfl, hat⟩ := hd i _ hx
      unfold celV at hat
      repeat' (first
        | refine W_seq ?_
        | refine WS_then ?_
        | refine W_if rfl ?_
        | refine W_skip ?_
        | refine W_block ?_
        | ((refine W_region (id := 6) ?_) <;>
        (refine R_lss_t rfl rfl (by omega) rfl rfl ?_))
        | ((refine W_region (id := 7) ?_) <;>
        (refine R_index rfl rfl (by omega) (by omega) rfl rfl ?_) <;>
        (refine R_loadHA rfl (by assumption) rfl rfl rfl ?_) <;>
        (refine R_alloc rfl rfl ?_; intro bk) <;>
        (refine R_store 0 (.agg _) [(.int _ _), (.int _ _)] _ _ rfl rfl rfl rfl rfl rfl rfl rfl rfl rfl ?_; dsimp only [splice, List.set]))
        | ((refine W_region (id := 8) ?_) <;>
        (refine R_loadA 0 [(.int _ _), (.int _ _)] rfl rfl rfl rfl rfl rfl ?_) <;>
        (refine R_call (CellOk_fn _ _ _) rfl rfl rfl rfl ?_; rintro _ _ ⟨rfl, hq⟩; replace hq := hq.symm; subst hq) <;>
        (refine R_not _ rfl rfl rfl rfl ?_)))
      cases hk : cellOk ⟨cs[i].kind, cs[i].light⟩
      · repeat' (first
          | refine W_seq ?_
          | refine WS_then ?_
          | refine W_if rfl ?_
          | refine W_ret ?_
          | refine then_ret ?_
          | refine block_ret ?_
          | ((refine W_region (id := 9) ?_) <;>
          (refine R_assign (.bool _) rfl rfl rfl ?_)))
        exact end1 rfl ⟨bvq (gridOk_f2 hx hk), rfl⟩
      · repeat' (first
          | refine WS_end ?_
          | refine W_else rfl ?_
          | refine W_skip ?_
          | refine then_normal ?_
          | refine block_normal ?_
          | ((refine W_region (id := 10) ?_) <;>
          (refine R_add rfl rfl (by omega) rfl rfl ?_) <;>
          (refine R_move (.int _ _) rfl rfl rfl ?_)))
        exact ⟨i + 1, ⟨by omega, fun j x hj hx' => by
          by_cases hji : j = i
          · subst hji; rw [hx] at hx'; cases hx'; exact hk
          · exact hok j x (by omega) hx'⟩, abs_mk ⟨rfl, rfl, ivq (by omega), trivial⟩ [] rfl, by omega⟩
    · repeat' (first
        | refine W_seq ?_
        | refine WS_then ?_
        | refine W_else rfl ?_
        | refine W_ret ?_
        | refine W_exit ?_
        | ((refine W_region (id := 6) ?_) <;>
        (refine R_lss_f rfl rfl (by omega) rfl rfl ?_))
        | ((refine W_region (id := 11) ?_) <;>
        (refine R_assign (.bool _) rfl rfl rfl ?_)))
      exact end1 rfl ⟨bvq (gridOk_iff.2 ⟨by omega, fun j x hx => hok j x (by have := (List.getElem?_eq_some_iff.1 hx).1; omega) hx⟩).symm, rfl⟩
end Go.Lu
