import Derived.Test.YtmjmhaoikilagaaGreatDoorInst
import Derived.Test.YtmjmhaoikilagaaGreatDoorDraw
set_option linter.unusedVariables false
namespace Go.Lu
open Go.Proofs
variable {main : Bool} {lo : Nat → Prop} {A : (Goroutine → LH → Prop) → Prop} [hA : Adm Tryz.prog main lo A]
include hA

theorem l6In_fn (a b c : Int) (h : LH) : Fn Tryz.prog A 51 [.int .i64 a, .int .i64 b, .int .i64 c].toArray h (fun v h' => v = .bool (decide (b ≤ a ∧ a ≤ c)) ∧ h' = h) := by
  refine Fn_body (n := 15) (fn := Tryz.f51) Tryz.func51 rfl rfl rfl ?_
  repeat' (first
    | refine W_seq ?_
    | refine WS_then ?_
    | refine W_ret ?_
    | ((refine W_region (id := 0) ?_) <;>
    (refine R_assign (.bool _) rfl rfl rfl ?_))
    | ((refine W_region (id := 1) ?_) <;>
    (refine R_move (.int _ _) rfl rfl rfl ?_) <;>
    (refine R_move (.int _ _) rfl rfl rfl ?_) <;>
    (refine R_geq rfl rfl rfl rfl ?_ ?_ <;> intro hc) <;>
    (refine R_move (.bool _) rfl rfl rfl ?_) <;>
    (first | refine R_move (.int _ _) rfl rfl rfl ?_ | refine R_skip rfl rfl ?_) <;>
    (first | refine R_move (.int _ _) rfl rfl rfl ?_ | refine R_skip rfl rfl ?_) <;>
    (first | (refine R_leq rfl rfl rfl rfl ?_ ?_ <;> intro hc) | refine R_skip rfl rfl ?_) <;>
    (refine R_pick (.bool _) rfl rfl rfl rfl ?_) <;>
    (refine R_assign (.bool _) rfl rfl rfl ?_)))
  all_goals (refine end1 rfl ⟨congrArg Value.bool ?_, rfl⟩; simp; omega)

omit hA in
structure Bytes (h : LH) (b o len : Nat) : Prop where
  byte : ∀ i, i < len → ∃ x : Int, At h b (o + i) [.int .u8 x] ∧ 0 ≤ x ∧ x ≤ 255

def RdX (r b o len cap : Nat) (p : Int) : OL := [(r, bx [.slice (some ⟨b, o, none⟩) len cap, .int .i64 p] 126)]

set_option maxHeartbeats 1000000 in
theorem pick_fn (r b o len cap : Nat) (p q : Int) (h : LH) (hb : Bytes h b o len) (hl : len ≤ 2000) (hp : 0 ≤ p) (hp1 : p ≤ 1000000000) (hq : q ≤ 1000) (hq0 : 0 ≤ q) :
    FnO Tryz.prog lo A 58 [.pointer (some ⟨r, 0, none⟩), .int .i64 q] (RdX r b o len cap p) h
      (fun v L h' => ∃ x : Int, v = .int .i64 x ∧ 0 ≤ x ∧ (0 < q → x < q) ∧ L = RdX r b o len cap (p + 1) ∧ h' = h) := by
  refine FnO_body (n := 99) (fn := Tryz.f58) Tryz.func58 rfl rfl rfl ?_
  unfold RdX
  repeat' (first
    | refine W_seq ?_
    | refine WS_then ?_
    | refine W_if rfl ?_
    | refine W_else rfl ?_
    | refine W_skip ?_
    | refine W_ret ?_
    | refine then_ret ?_
    | ((refine W_region (id := 0) ?_) <;>
    (refine R_assign (.int _ _) rfl rfl rfl ?_))
    | ((refine W_region (id := 1) ?_) <;>
    (refine R_move (.pointer _) rfl rfl rfl ?_) <;>
    (refine R_move (.pointer _) rfl rfl rfl ?_) <;>
    (refine R_nilCheck rfl rfl rfl ?_) <;>
    (refine R_field rfl rfl rfl ?_) <;>
    (refine R_load1 0 rfl rfl rfl rfl rfl rfl ?_) <;>
    (refine R_add rfl rfl (by omega) rfl rfl ?_) <;>
    (refine R_nilCheck rfl rfl rfl ?_) <;>
    (refine R_field rfl rfl rfl ?_) <;>
    (refine R_store 0 (.int _ _) [(.int _ _)] _ _ rfl rfl rfl rfl rfl rfl rfl rfl rfl rfl ?_; dsimp only [splice, List.set]))
    | ((refine W_region (id := 2) ?_) <;>
    (refine R_move (.int _ _) rfl rfl rfl ?_) <;>
    (refine R_lss rfl rfl rfl rfl ?_ ?_ <;> intro hc) <;>
    (refine R_move (.bool _) rfl rfl rfl ?_) <;>
    (first | refine R_move (.pointer _) rfl rfl rfl ?_ | refine R_skip rfl rfl ?_) <;>
    (first | refine R_nilCheck rfl rfl rfl ?_ | refine R_skip rfl rfl ?_) <;>
    (first | refine R_field rfl rfl rfl ?_ | refine R_skip rfl rfl ?_) <;>
    (first | refine R_load1 0 rfl rfl rfl rfl rfl rfl ?_ | refine R_skip rfl rfl ?_) <;>
    (first | refine R_len rfl rfl rfl ?_ | refine R_skip rfl rfl ?_) <;>
    (first | (refine R_eql rfl rfl rfl rfl ?_ ?_ <;> intro hc) | refine R_skip rfl rfl ?_) <;>
    (refine R_pick (.bool _) rfl rfl rfl rfl ?_))
    | ((refine W_region (id := 3) ?_) <;>
    (refine R_assign (.int _ _) rfl rfl rfl ?_))
    | ((refine W_region (id := 4) ?_) <;>
    (refine R_move (.pointer _) rfl rfl rfl ?_) <;>
    (refine R_nilCheck rfl rfl rfl ?_) <;>
    (refine R_field rfl rfl rfl ?_) <;>
    (refine R_load1 0 rfl rfl rfl rfl rfl rfl ?_) <;>
    (refine R_sub rfl rfl (by omega) rfl rfl ?_) <;>
    (refine R_assign (.int _ _) rfl rfl rfl ?_))
    | ((refine W_region (id := 5) ?_) <;>
    (refine R_move (.int _ _) rfl rfl rfl ?_) <;>
    (refine R_move (.pointer _) rfl rfl rfl ?_) <;>
    (refine R_nilCheck rfl rfl rfl ?_) <;>
    (refine R_field rfl rfl rfl ?_) <;>
    (refine R_load1 0 rfl rfl rfl rfl rfl rfl ?_) <;>
    (refine R_len rfl rfl rfl ?_) <;>
    (refine R_lss rfl rfl rfl rfl ?_ ?_ <;> intro hc)))
  · exact end1O _ [] [] (by simp) rfl fun _ _ => ⟨0, rfl, by omega, by omega, rfl, rfl⟩
  · exact end1O _ [] [] (by simp) rfl fun _ _ => ⟨0, rfl, by omega, by omega, rfl, rfl⟩
  · obtain ⟨x, hx, h0, h1⟩ := hb.byte (p + 1 - 1).toNat (by omega)
    rw [show o + (p + 1 - 1).toNat = o + (p + 1 - 1).toNat * 1 by omega] at hx
    refine W_region (id := 6) ?_
    all_goals (refine R_move (.pointer _) rfl rfl rfl ?_)
    all_goals (refine R_nilCheck rfl rfl rfl ?_)
    all_goals (refine R_field rfl rfl rfl ?_)
    all_goals (refine R_load1 0 rfl rfl rfl rfl rfl rfl ?_)
    all_goals (refine R_move (.int _ _) rfl rfl rfl ?_)
    all_goals (refine R_index rfl rfl (by omega) (by omega) rfl rfl ?_)
    all_goals (refine R_loadH1 rfl (by assumption) rfl rfl rfl ?_)
    all_goals (refine R_conv rfl (w64_eq (by omega) (by omega)) rfl rfl ?_)
    all_goals (refine R_move (.int _ _) rfl rfl rfl ?_)
    all_goals (refine R_rem rfl rfl (by omega) (by omega) rfl rfl ?_)
    all_goals (refine R_assign (.int _ _) rfl rfl rfl ?_)
    repeat' (first
      | refine WS_then ?_
      | refine W_ret ?_
      | refine then_ret ?_)
    exact end1O _ [] [] (by simp) rfl fun _ _ => ⟨x % q, rfl, Int.emod_nonneg _ (by omega), fun _ => Int.emod_lt_of_pos _ (by omega), rfl, rfl⟩
  · have e1 : 0 ≤ (p + 1 - 1) % (len : Int) := Int.emod_nonneg _ (by omega)
    have e2 : (p + 1 - 1) % (len : Int) < len := Int.emod_lt_of_pos _ (by omega)
    have e3 : 0 ≤ ((p + 1 - 1) * 7 + 3) % (len : Int) := Int.emod_nonneg _ (by omega)
    have e4 : ((p + 1 - 1) * 7 + 3) % (len : Int) < len := Int.emod_lt_of_pos _ (by omega)
    have e5 : 0 ≤ (p + 1 - 1) / (len : Int) := Int.ediv_nonneg (by omega) (by omega)
    have e6 : (p + 1 - 1) / (len : Int) ≤ p + 1 - 1 := Int.ediv_le_self _ (by omega)
    obtain ⟨x, hx, h0, h1⟩ := hb.byte ((p + 1 - 1) % (len : Int)).toNat (by omega)
    obtain ⟨y, hy, h2, h3⟩ := hb.byte (((p + 1 - 1) * 7 + 3) % (len : Int)).toNat (by omega)
    rw [show o + ((p + 1 - 1) % (len : Int)).toNat = o + ((p + 1 - 1) % (len : Int)).toNat * 1 by omega] at hx
    rw [show o + (((p + 1 - 1) * 7 + 3) % (len : Int)).toNat = o + (((p + 1 - 1) * 7 + 3) % (len : Int)).toNat * 1 by omega] at hy
    all_goals refine W_draw (fun _ => false) [0, 1, 2, 3, 4, 5, 6, 7, 8, 9, 10, 11, 12, 13, 14, 15, 16, 17, 18, 19, 20, 21, 22, 23, 24, 25, 26, 27, 28, 29, 30, 31, 32, 33, 34, 35, 36, 37, 38, 39, 40, 41, 42, 43, 44, 45] (by kernel_rfl) (by kernel_rfl) (by kernel_rfl) (by kernel_rfl) ?_
    all_goals (refine WL_take 0 [1, 2, 3, 4, 5, 6, 7, 8, 9, 10, 11, 12, 13, 14, 15, 16, 17, 18, 19, 20, 21, 22, 23, 24, 25, 26, 27, 28, 29, 30, 31, 32, 33, 34, 35, 36, 37, 38, 39, 40, 41, 42, 43, 44, 45] rfl (by kernel_rfl) rfl (D_move (.pointer _) rfl rfl) ?_)
    all_goals (refine WL_take 1 [2, 3, 4, 5, 6, 7, 8, 9, 10, 11, 12, 13, 14, 15, 16, 17, 18, 19, 20, 21, 22, 23, 24, 25, 26, 27, 28, 29, 30, 31, 32, 33, 34, 35, 36, 37, 38, 39, 40, 41, 42, 43, 44, 45] rfl (by kernel_rfl) rfl (D_nilCheck rfl rfl) ?_)
    all_goals (refine WL_take 2 [3, 4, 5, 6, 7, 8, 9, 10, 11, 12, 13, 14, 15, 16, 17, 18, 19, 20, 21, 22, 23, 24, 25, 26, 27, 28, 29, 30, 31, 32, 33, 34, 35, 36, 37, 38, 39, 40, 41, 42, 43, 44, 45] rfl (by kernel_rfl) rfl (D_field rfl rfl) ?_)
    all_goals (refine WL_take 3 [4, 5, 6, 7, 8, 9, 10, 11, 12, 13, 14, 15, 16, 17, 18, 19, 20, 21, 22, 23, 24, 25, 26, 27, 28, 29, 30, 31, 32, 33, 34, 35, 36, 37, 38, 39, 40, 41, 42, 43, 44, 45] rfl (by kernel_rfl) rfl (D_load1 0 rfl rfl rfl rfl rfl) ?_)
    all_goals (refine WL_take 4 [5, 6, 7, 8, 9, 10, 11, 12, 13, 14, 15, 16, 17, 18, 19, 20, 21, 22, 23, 24, 25, 26, 27, 28, 29, 30, 31, 32, 33, 34, 35, 36, 37, 38, 39, 40, 41, 42, 43, 44, 45] rfl (by kernel_rfl) rfl (D_move (.int _ _) rfl rfl) ?_)
    all_goals (refine WL_take 5 [6, 7, 8, 9, 10, 11, 12, 13, 14, 15, 16, 17, 18, 19, 20, 21, 22, 23, 24, 25, 26, 27, 28, 29, 30, 31, 32, 33, 34, 35, 36, 37, 38, 39, 40, 41, 42, 43, 44, 45] rfl (by kernel_rfl) rfl (D_move (.pointer _) rfl rfl) ?_)
    all_goals (refine WL_take 6 [7, 8, 9, 10, 11, 12, 13, 14, 15, 16, 17, 18, 19, 20, 21, 22, 23, 24, 25, 26, 27, 28, 29, 30, 31, 32, 33, 34, 35, 36, 37, 38, 39, 40, 41, 42, 43, 44, 45] rfl (by kernel_rfl) rfl (D_nilCheck rfl rfl) ?_)
    all_goals (refine WL_take 7 [8, 9, 10, 11, 12, 13, 14, 15, 16, 17, 18, 19, 20, 21, 22, 23, 24, 25, 26, 27, 28, 29, 30, 31, 32, 33, 34, 35, 36, 37, 38, 39, 40, 41, 42, 43, 44, 45] rfl (by kernel_rfl) rfl (D_field rfl rfl) ?_)
    all_goals (refine WL_take 8 [9, 10, 11, 12, 13, 14, 15, 16, 17, 18, 19, 20, 21, 22, 23, 24, 25, 26, 27, 28, 29, 30, 31, 32, 33, 34, 35, 36, 37, 38, 39, 40, 41, 42, 43, 44, 45] rfl (by kernel_rfl) rfl (D_load1 0 rfl rfl rfl rfl rfl) ?_)
    all_goals (refine WL_take 9 [10, 11, 12, 13, 14, 15, 16, 17, 18, 19, 20, 21, 22, 23, 24, 25, 26, 27, 28, 29, 30, 31, 32, 33, 34, 35, 36, 37, 38, 39, 40, 41, 42, 43, 44, 45] rfl (by kernel_rfl) rfl (D_len rfl rfl) ?_)
    all_goals (refine WL_take 10 [11, 12, 13, 14, 15, 16, 17, 18, 19, 20, 21, 22, 23, 24, 25, 26, 27, 28, 29, 30, 31, 32, 33, 34, 35, 36, 37, 38, 39, 40, 41, 42, 43, 44, 45] rfl (by kernel_rfl) rfl (D_rem rfl rfl (by omega) (by omega) rfl) ?_)
    all_goals (refine WL_take 11 [12, 13, 14, 15, 16, 17, 18, 19, 20, 21, 22, 23, 24, 25, 26, 27, 28, 29, 30, 31, 32, 33, 34, 35, 36, 37, 38, 39, 40, 41, 42, 43, 44, 45] rfl (by kernel_rfl) rfl (D_index rfl rfl (by omega) (by omega) rfl) ?_)
    all_goals (refine WL_take 12 [13, 14, 15, 16, 17, 18, 19, 20, 21, 22, 23, 24, 25, 26, 27, 28, 29, 30, 31, 32, 33, 34, 35, 36, 37, 38, 39, 40, 41, 42, 43, 44, 45] rfl (by kernel_rfl) rfl (D_loadH1 rfl (by assumption) rfl rfl) ?_)
    all_goals (refine WL_take 13 [14, 15, 16, 17, 18, 19, 20, 21, 22, 23, 24, 25, 26, 27, 28, 29, 30, 31, 32, 33, 34, 35, 36, 37, 38, 39, 40, 41, 42, 43, 44, 45] rfl (by kernel_rfl) rfl (D_conv rfl (w64_eq (by omega) (by omega)) rfl) ?_)
    all_goals (refine WL_take 14 [15, 16, 17, 18, 19, 20, 21, 22, 23, 24, 25, 26, 27, 28, 29, 30, 31, 32, 33, 34, 35, 36, 37, 38, 39, 40, 41, 42, 43, 44, 45] rfl (by kernel_rfl) rfl (D_mul rfl rfl (by omega) rfl) ?_)
    all_goals (refine WL_take 15 [16, 17, 18, 19, 20, 21, 22, 23, 24, 25, 26, 27, 28, 29, 30, 31, 32, 33, 34, 35, 36, 37, 38, 39, 40, 41, 42, 43, 44, 45] rfl (by kernel_rfl) rfl (D_move (.pointer _) rfl rfl) ?_)
    all_goals (refine WL_take 16 [17, 18, 19, 20, 21, 22, 23, 24, 25, 26, 27, 28, 29, 30, 31, 32, 33, 34, 35, 36, 37, 38, 39, 40, 41, 42, 43, 44, 45] rfl (by kernel_rfl) rfl (D_nilCheck rfl rfl) ?_)
    all_goals (refine WL_take 17 [18, 19, 20, 21, 22, 23, 24, 25, 26, 27, 28, 29, 30, 31, 32, 33, 34, 35, 36, 37, 38, 39, 40, 41, 42, 43, 44, 45] rfl (by kernel_rfl) rfl (D_field rfl rfl) ?_)
    all_goals (refine WL_take 18 [19, 20, 21, 22, 23, 24, 25, 26, 27, 28, 29, 30, 31, 32, 33, 34, 35, 36, 37, 38, 39, 40, 41, 42, 43, 44, 45] rfl (by kernel_rfl) rfl (D_load1 0 rfl rfl rfl rfl rfl) ?_)
    all_goals (refine WL_take 19 [20, 21, 22, 23, 24, 25, 26, 27, 28, 29, 30, 31, 32, 33, 34, 35, 36, 37, 38, 39, 40, 41, 42, 43, 44, 45] rfl (by kernel_rfl) rfl (D_move (.int _ _) rfl rfl) ?_)
    all_goals (refine WL_take 20 [21, 22, 23, 24, 25, 26, 27, 28, 29, 30, 31, 32, 33, 34, 35, 36, 37, 38, 39, 40, 41, 42, 43, 44, 45] rfl (by kernel_rfl) rfl (D_mul rfl rfl (by omega) rfl) ?_)
    all_goals (refine WL_take 21 [22, 23, 24, 25, 26, 27, 28, 29, 30, 31, 32, 33, 34, 35, 36, 37, 38, 39, 40, 41, 42, 43, 44, 45] rfl (by kernel_rfl) rfl (D_add rfl rfl (by omega) rfl) ?_)
    all_goals (refine WL_take 22 [23, 24, 25, 26, 27, 28, 29, 30, 31, 32, 33, 34, 35, 36, 37, 38, 39, 40, 41, 42, 43, 44, 45] rfl (by kernel_rfl) rfl (D_move (.pointer _) rfl rfl) ?_)
    all_goals (refine WL_take 23 [24, 25, 26, 27, 28, 29, 30, 31, 32, 33, 34, 35, 36, 37, 38, 39, 40, 41, 42, 43, 44, 45] rfl (by kernel_rfl) rfl (D_nilCheck rfl rfl) ?_)
    all_goals (refine WL_take 24 [25, 26, 27, 28, 29, 30, 31, 32, 33, 34, 35, 36, 37, 38, 39, 40, 41, 42, 43, 44, 45] rfl (by kernel_rfl) rfl (D_field rfl rfl) ?_)
    all_goals (refine WL_take 25 [26, 27, 28, 29, 30, 31, 32, 33, 34, 35, 36, 37, 38, 39, 40, 41, 42, 43, 44, 45] rfl (by kernel_rfl) rfl (D_load1 0 rfl rfl rfl rfl rfl) ?_)
    all_goals (refine WL_take 26 [27, 28, 29, 30, 31, 32, 33, 34, 35, 36, 37, 38, 39, 40, 41, 42, 43, 44, 45] rfl (by kernel_rfl) rfl (D_len rfl rfl) ?_)
    all_goals (refine WL_take 27 [28, 29, 30, 31, 32, 33, 34, 35, 36, 37, 38, 39, 40, 41, 42, 43, 44, 45] rfl (by kernel_rfl) rfl (D_rem rfl rfl (by omega) (by omega) rfl) ?_)
    all_goals (refine WL_take 28 [29, 30, 31, 32, 33, 34, 35, 36, 37, 38, 39, 40, 41, 42, 43, 44, 45] rfl (by kernel_rfl) rfl (D_index rfl rfl (by omega) (by omega) rfl) ?_)
    all_goals (refine WL_take 29 [30, 31, 32, 33, 34, 35, 36, 37, 38, 39, 40, 41, 42, 43, 44, 45] rfl (by kernel_rfl) rfl (D_loadH1 rfl (by assumption) rfl rfl) ?_)
    all_goals (refine WL_take 30 [31, 32, 33, 34, 35, 36, 37, 38, 39, 40, 41, 42, 43, 44, 45] rfl (by kernel_rfl) rfl (D_conv rfl (w64_eq (by omega) (by omega)) rfl) ?_)
    all_goals (refine WL_take 31 [32, 33, 34, 35, 36, 37, 38, 39, 40, 41, 42, 43, 44, 45] rfl (by kernel_rfl) rfl (D_mul rfl rfl (by omega) rfl) ?_)
    all_goals (refine WL_take 32 [33, 34, 35, 36, 37, 38, 39, 40, 41, 42, 43, 44, 45] rfl (by kernel_rfl) rfl (D_add rfl rfl (by omega) rfl) ?_)
    all_goals (refine WL_take 33 [34, 35, 36, 37, 38, 39, 40, 41, 42, 43, 44, 45] rfl (by kernel_rfl) rfl (D_move (.int _ _) rfl rfl) ?_)
    all_goals (refine WL_take 34 [35, 36, 37, 38, 39, 40, 41, 42, 43, 44, 45] rfl (by kernel_rfl) rfl (D_mul rfl rfl (by omega) rfl) ?_)
    all_goals (refine WL_take 35 [36, 37, 38, 39, 40, 41, 42, 43, 44, 45] rfl (by kernel_rfl) rfl (D_add rfl rfl (by omega) rfl) ?_)
    all_goals (refine WL_take 36 [37, 38, 39, 40, 41, 42, 43, 44, 45] rfl (by kernel_rfl) rfl (D_move (.int _ _) rfl rfl) ?_)
    all_goals (refine WL_take 37 [38, 39, 40, 41, 42, 43, 44, 45] rfl (by kernel_rfl) rfl (D_move (.pointer _) rfl rfl) ?_)
    all_goals (refine WL_take 38 [39, 40, 41, 42, 43, 44, 45] rfl (by kernel_rfl) rfl (D_nilCheck rfl rfl) ?_)
    all_goals (refine WL_take 39 [40, 41, 42, 43, 44, 45] rfl (by kernel_rfl) rfl (D_field rfl rfl) ?_)
    all_goals (refine WL_take 40 [41, 42, 43, 44, 45] rfl (by kernel_rfl) rfl (D_load1 0 rfl rfl rfl rfl rfl) ?_)
    all_goals (refine WL_take 41 [42, 43, 44, 45] rfl (by kernel_rfl) rfl (D_len rfl rfl) ?_)
    all_goals (refine WL_take 42 [43, 44, 45] rfl (by kernel_rfl) rfl (D_quo rfl rfl (by omega) (by omega) (by omega) rfl) ?_)
    all_goals (refine WL_take 43 [44, 45] rfl (by kernel_rfl) rfl (D_mul rfl rfl (by omega) rfl) ?_)
    all_goals (refine WL_take 44 [45] rfl (by kernel_rfl) rfl (D_add rfl rfl (by omega) rfl) ?_)
    all_goals (refine WL_take 45 [] rfl (by kernel_rfl) rfl (D_assign (.int _ _) rfl rfl) ?_)
    all_goals refine WL_nil ?_
    -- left: [] ready: [] []
    refine then_normal ?_
    have f1 : (0:Int) ≤ (p + 1 - 1) / (len : Int) * 53 := by omega
    have f2 := xor64_bd (a := x * 131 + y * 1117 + (p + 1 - 1) * 29 + (p + 1 - 1) / (len : Int) * 53) (c := (x * 131 + y * 1117 + (p + 1 - 1) * 29 + (p + 1 - 1) / (len : Int) * 53) / 64) (by omega) (by omega) (by omega) (by omega)
    repeat' (first
      | refine W_seq ?_
      | refine WS_then ?_
      | refine W_ret ?_
      | ((refine W_region (id := 8) ?_) <;>
      (refine R_move (.int _ _) rfl rfl rfl ?_) <;>
      (refine R_move (.int _ _) rfl rfl rfl ?_) <;>
      (refine R_quo rfl rfl (by omega) (by omega) (by omega) rfl rfl ?_) <;>
      (refine R_xor rfl rfl rfl rfl ?_) <;>
      (refine R_assign (.int _ _) rfl rfl rfl ?_))
      | ((refine W_region (id := 9) ?_) <;>
      (refine R_move (.int _ _) rfl rfl rfl ?_) <;>
      (refine R_move (.int _ _) rfl rfl rfl ?_) <;>
      (refine R_rem rfl rfl (by omega) (by omega) rfl rfl ?_) <;>
      (refine R_assign (.int _ _) rfl rfl rfl ?_)))
    exact end1O _ [] [] (by simp) rfl fun _ _ => ⟨_, rfl, Int.emod_nonneg _ (by omega), fun _ => Int.emod_lt_of_pos _ (by omega), rfl, rfl⟩
end Go.Lu
