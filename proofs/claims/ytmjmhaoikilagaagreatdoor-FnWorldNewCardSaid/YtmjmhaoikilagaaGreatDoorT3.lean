/- gridRows, SightMany, directions -/
import Derived.Test.YtmjmhaoikilagaaGreatDoorT2
set_option linter.unusedVariables false
namespace Go.Lu
open Go.Proofs
variable {main : Bool} {lo : Nat → Prop} {A : (Goroutine → LH → Prop) → Prop} [hA : Adm Tryz.prog main lo A]
include hA

theorem GridOk_t {gv : Value} {g : Grd} {h : LH} (hs : GridD h gv g) (hk : GOk g) : Fn Tryz.prog A 61 [gv].toArray h (fun v h' => v = .bool true ∧ h' = h) := by
  have := GridOk_fn (main := main) (lo := lo) (A := A) hs
  rw [hk.ok] at this
  exact this
theorem gridRows_fn {gv : Value} {g : Grd} {h : LH} (hs : GridD h gv g) (hk : GOk g) : Fn Tryz.prog A 106 [gv].toArray h (fun v h' => v = .int .i64 (gH g) ∧ h' = h) := by
  obtain ⟨p, c, rfl, hp, hd⟩ := hs
  have w1 := hk.w1
  have ew := hk.wide
  have l25 := hk.len25
  refine Fn_body (n := 9) (fn := Tryz.f106) Tryz.func106 rfl rfl rfl ?_
  repeat' (first
    | refine W_seq ?_
    | refine WS_then ?_
    | refine W_ret ?_
    | ((refine W_region (id := 0) ?_) <;>
    (refine R_box (.agg _) [(.int _ _), (.slice _ _ _)] rfl rfl rfl rfl ?_; intro bk) <;>
    (refine R_assign (.int _ _) rfl rfl rfl ?_))
    | ((refine W_region (id := 1) ?_) <;>
    (refine R_field rfl rfl rfl ?_) <;>
    (refine R_load1 0 rfl rfl rfl rfl rfl rfl ?_) <;>
    (refine R_len rfl rfl rfl ?_) <;>
    (refine R_field rfl rfl rfl ?_) <;>
    (refine R_load1 0 rfl rfl rfl rfl rfl rfl ?_) <;>
    (refine R_quo rfl rfl (by omega) (by omega) (by omega) rfl rfl ?_) <;>
    (refine R_assign (.int _ _) rfl rfl rfl ?_)))
  refine end1 rfl ⟨ivq ?_, rfl⟩
  rw [ew, hk.len, Int.natCast_mul]
  exact Int.mul_ediv_cancel _ (by omega)

theorem SightMany_fn {gv : Value} {g : Grd} {h : LH} (hs : GridD h gv g) : Fn Tryz.prog A 74 [gv].toArray h (fun v h' => v = .int .i64 (gMany g) ∧ h' = h) := by
  have hG := hs
  obtain ⟨p, c, rfl, hp, hd⟩ := hs
  refine Fn_body (n := 12) (fn := Tryz.f74) Tryz.func74 rfl rfl rfl ?_
  repeat' (first
    | refine W_seq ?_
    | refine WS_then ?_
    | ((refine W_region (id := 0) ?_) <;>
    (refine R_box (.agg _) [(.int _ _), (.slice _ _ _)] rfl rfl rfl rfl ?_; intro bk) <;>
    (refine R_assign (.int _ _) rfl rfl rfl ?_))
    | ((refine W_region (id := 1) ?_) <;>
    (refine R_loadA 0 [(.int _ _), (.slice _ _ _)] rfl rfl rfl rfl rfl rfl ?_) <;>
    (refine R_call (GridOk_fn (by assumption)) rfl rfl rfl rfl ?_; rintro _ _ ⟨rfl, hq⟩; replace hq := hq.symm; subst hq) <;>
    (refine R_not _ rfl rfl rfl rfl ?_)))
  cases hg : gridOk g
  · repeat' (first
      | refine W_seq ?_
      | refine WS_then ?_
      | refine W_if rfl ?_
      | refine W_ret ?_
      | refine then_ret ?_
      | ((refine W_region (id := 2) ?_) <;>
      (refine R_assign (.int _ _) rfl rfl rfl ?_)))
    exact end1 rfl ⟨ivq (by rw [gMany_no hg]; rfl), rfl⟩
  · have hk := gOk hg
    have ew := hk.wide
    have w5 := hk.w5
    have h5 := hk.h5
    repeat' (first
      | refine W_seq ?_
      | refine W_else rfl ?_
      | refine W_skip ?_)
    all_goals refine W_draw (fun _ => false) [0, 1, 2, 3, 4, 5, 6] (by kernel_rfl) (by kernel_rfl) (by kernel_rfl) (by kernel_rfl) ?_
    all_goals (refine WL_take 0 [1, 2, 3, 4, 5, 6] rfl (by kernel_rfl) rfl (D_field rfl rfl) ?_)
    all_goals (refine WL_take 1 [2, 3, 4, 5, 6] rfl (by kernel_rfl) rfl (D_load1 0 rfl rfl rfl rfl rfl) ?_)
    all_goals (refine WL_take 2 [3, 4, 5, 6] rfl (by kernel_rfl) rfl (D_loadA 0 [(.int _ _), (.slice _ _ _)] rfl rfl rfl rfl rfl) ?_)
    all_goals (refine WL_callP 3 [4, 5, 6] rfl (by kernel_rfl) rfl (gridRows_fn (by assumption) (by assumption)) rfl rfl rfl ?_; rintro _ _ ⟨rfl, hq⟩; replace hq := hq.symm; subst hq)
    all_goals (refine WL_take 4 [5, 6] rfl (by kernel_rfl) rfl (D_add rfl rfl (by omega) rfl) ?_)
    all_goals (refine WL_take 5 [6] rfl (by kernel_rfl) rfl (D_mul rfl rfl (by omega) rfl) ?_)
    all_goals (refine WL_take 6 [] rfl (by kernel_rfl) rfl (D_assign (.int _ _) rfl rfl) ?_)
    all_goals refine WL_nil ?_
    -- left: [] ready: [] []
    repeat' (refine W_ret ?_)
    exact end1 rfl ⟨ivq (by rw [gMany_ok hg]; omega), rfl⟩

theorem dirOk_fn (d : Int) (h : LH) : Fn Tryz.prog A 140 [.int .i64 d].toArray h (fun v h' => v = .bool (dirOk d) ∧ h' = h) := by
  refine Fn_body (n := 9) (fn := Tryz.f140) Tryz.func140 rfl rfl rfl ?_
  repeat' (first
    | refine W_seq ?_
    | refine WS_then ?_
    | refine W_ret ?_
    | ((refine W_region (id := 0) ?_) <;>
    (refine R_assign (.bool _) rfl rfl rfl ?_))
    | ((refine W_region (id := 1) ?_) <;>
    (refine R_move (.int _ _) rfl rfl rfl ?_) <;>
    (refine R_geq rfl rfl rfl rfl ?_ ?_ <;> intro hc) <;>
    (refine R_move (.bool _) rfl rfl rfl ?_) <;>
    (first | refine R_move (.int _ _) rfl rfl rfl ?_ | refine R_skip rfl rfl ?_) <;>
    (first | (refine R_leq rfl rfl rfl rfl ?_ ?_ <;> intro hc) | refine R_skip rfl rfl ?_) <;>
    (refine R_pick (.bool _) rfl rfl rfl rfl ?_) <;>
    (refine R_assign (.bool _) rfl rfl rfl ?_)))
  all_goals (refine end1 rfl ⟨bvq ?_, rfl⟩; simp [dirOk]; omega)

theorem dirOk_t (d : Int) (h : LH) (h0 : 0 ≤ d) (h1 : d ≤ 3) : Fn Tryz.prog A 140 [.int .i64 d].toArray h (fun v h' => v = .bool true ∧ h' = h) := by
  have := dirOk_fn (main := main) (lo := lo) (A := A) d h
  rw [show dirOk d = true by simp [dirOk]; omega] at this
  exact this
theorem dirOpposite_fn (d : Int) (h : LH) (h0 : 0 ≤ d) (h1 : d ≤ 3) : Fn Tryz.prog A 174 [.int .i64 d].toArray h (fun v h' => v = .int .i64 ((d + 2) % 4) ∧ h' = h) := by
  refine Fn_body (n := 6) (fn := Tryz.f174) Tryz.func174 rfl rfl rfl ?_
  repeat' (first
    | refine W_seq ?_
    | refine WS_then ?_
    | refine W_ret ?_
    | ((refine W_region (id := 0) ?_) <;>
    (refine R_assign (.int _ _) rfl rfl rfl ?_))
    | ((refine W_region (id := 1) ?_) <;>
    (refine R_move (.int _ _) rfl rfl rfl ?_) <;>
    (refine R_add rfl rfl (by omega) rfl rfl ?_) <;>
    (refine R_rem rfl rfl (by omega) (by omega) rfl rfl ?_) <;>
    (refine R_assign (.int _ _) rfl rfl rfl ?_)))
  exact end1 rfl ⟨rfl, rfl⟩

theorem DirTurn_fn (k d : Int) (h : LH) (h0 : 0 ≤ d) (h1 : d ≤ 3) : Fn Tryz.prog A 111 [.int .i64 k, .int .i64 d].toArray h (fun v h' => v = .int .i64 (dTurn k d) ∧ h' = h) := by
  refine Fn_body (n := 22) (fn := Tryz.f111) Tryz.func111 rfl rfl rfl ?_
  have hd : d = 0 ∨ d = 1 ∨ d = 2 ∨ d = 3 := by omega
  rcases hd with rfl | rfl | rfl | rfl
  all_goals
    repeat' (first
      | refine W_seq ?_
      | refine WS_then ?_
      | refine W_if rfl ?_
      | refine W_else rfl ?_
      | refine W_skip ?_
      | refine W_block ?_
      | refine W_ret ?_
      | refine block_ret ?_
      | ((refine W_region (id := 0) ?_) <;>
      (refine R_assign (.int _ _) rfl rfl rfl ?_))
      | ((refine W_region (id := 1) ?_) <;>
      (refine R_move (.int _ _) rfl rfl rfl ?_) <;>
      (refine R_call (dirOk_t _ _ (by omega) (by omega)) rfl rfl rfl rfl ?_; rintro _ _ ⟨rfl, hq⟩; replace hq := hq.symm; subst hq) <;>
      (refine R_not _ rfl rfl rfl rfl ?_))
      | ((refine W_region (id := 3) ?_) <;>
      (refine R_move (.int _ _) rfl rfl rfl ?_))
      | ((refine W_region (id := 5) ?_) <;>
      (refine R_eql rfl rfl rfl rfl ?_ ?_ <;> intro hc) <;>
      (refine R_assign (.bool _) rfl rfl rfl ?_))
      | ((refine W_region (id := 6) ?_) <;>
      (refine R_eql rfl rfl rfl rfl ?_ ?_ <;> intro hc) <;>
      (refine R_assign (.bool _) rfl rfl rfl ?_))
      | ((refine W_region (id := 7) ?_) <;>
      (refine R_buildArr [(.int _ _), (.int _ _), (.int _ _), (.int _ _)] rfl rfl rfl ?_) <;>
      (refine R_move (.int _ _) rfl rfl rfl ?_) <;>
      (refine R_indexV (.int _ _) rfl rfl (by omega) (by omega) rfl rfl rfl ?_) <;>
      (refine R_assign (.int _ _) rfl rfl rfl ?_))
      | ((refine W_region (id := 8) ?_) <;>
      (refine R_eql rfl rfl rfl rfl ?_ ?_ <;> intro hc) <;>
      (refine R_assign (.bool _) rfl rfl rfl ?_))
      | ((refine W_region (id := 9) ?_) <;>
      (refine R_eql rfl rfl rfl rfl ?_ ?_ <;> intro hc) <;>
      (refine R_assign (.bool _) rfl rfl rfl ?_))
      | ((refine W_region (id := 10) ?_) <;>
      (refine R_buildArr [(.int _ _), (.int _ _), (.int _ _), (.int _ _)] rfl rfl rfl ?_) <;>
      (refine R_move (.int _ _) rfl rfl rfl ?_) <;>
      (refine R_indexV (.int _ _) rfl rfl (by omega) (by omega) rfl rfl rfl ?_) <;>
      (refine R_assign (.int _ _) rfl rfl rfl ?_))
      | ((refine W_region (id := 4) ?_) <;>
      (refine R_move (.int _ _) rfl rfl rfl ?_) <;>
      (refine R_assign (.int _ _) rfl rfl rfl ?_)))
    all_goals
      refine end1 rfl ⟨ivq ?_, rfl⟩
      simp [dTurn, *]
end Go.Lu
