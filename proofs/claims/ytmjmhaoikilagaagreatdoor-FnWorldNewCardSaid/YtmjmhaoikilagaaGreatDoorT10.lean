/- the reference: grids -/
import Derived.Test.YtmjmhaoikilagaaGreatDoorT3
import Derived.Test.YtmjmhaoikilagaaGreatDoorT1
set_option linter.unusedVariables false
namespace Go.Lu
open Go.Proofs
variable {main : Bool} {lo : Nat → Prop} {A : (Goroutine → LH → Prop) → Prop} [hA : Adm Tryz.prog main lo A]
include hA

theorem l6In_t (a b c : Int) (h : LH) (hc : b ≤ a ∧ a ≤ c) : Fn Tryz.prog A 51 [.int .i64 a, .int .i64 b, .int .i64 c].toArray h (fun v h' => v = .bool true ∧ h' = h) := by
  have := l6In_fn (main := main) (lo := lo) (A := A) a b c h
  rw [decide_eq_true hc] at this
  exact this
theorem l6In_f (a b c : Int) (h : LH) (hc : ¬ (b ≤ a ∧ a ≤ c)) : Fn Tryz.prog A 51 [.int .i64 a, .int .i64 b, .int .i64 c].toArray h (fun v h' => v = .bool false ∧ h' = h) := by
  have := l6In_fn (main := main) (lo := lo) (A := A) a b c h
  rw [decide_eq_false hc] at this
  exact this
theorem l6In_s (a b c : Int) (h : LH) : Fn Tryz.prog A 51 [.int .i64 a, .int .i64 b, .int .i64 c].toArray h (fun v h' => ((b ≤ a ∧ a ≤ c) ∧ v = .bool true ∨ ¬ (b ≤ a ∧ a ≤ c) ∧ v = .bool false) ∧ h' = h) := by
  have := l6In_fn (main := main) (lo := lo) (A := A) a b c h
  refine FnE.mono this fun e H he => ?_
  cases e with
  | returned v =>
    obtain ⟨rfl, rfl⟩ := he
    by_cases hc : b ≤ a ∧ a ≤ c
    · exact ⟨.inl ⟨hc, by rw [decide_eq_true hc]⟩, rfl⟩
    · exact ⟨.inr ⟨hc, by rw [decide_eq_false hc]⟩, rfl⟩
  | panicked ch => exact he

set_option maxHeartbeats 1000000 in
theorem SCellOk_fn (k l : Int) (h : LH) : Fn Tryz.prog A 88 [.agg [.int .i64 k, .int .i64 l].toArray].toArray h (fun v h' => v = .bool (cellOk ⟨k, l⟩) ∧ h' = h) := by
  refine Fn_body (n := 17) (fn := Tryz.f88) Tryz.func88 rfl rfl rfl ?_
  repeat' (first
    | refine W_seq ?_
    | refine WS_then ?_
    | refine W_if rfl ?_
    | refine W_else rfl ?_
    | refine W_skip ?_
    | refine W_ret ?_
    | refine then_ret ?_
    | ((refine W_region (id := 0) ?_) <;>
    (refine R_box (.agg _) [(.int _ _), (.int _ _)] rfl rfl rfl rfl ?_; intro bk) <;>
    (refine R_assign (.bool _) rfl rfl rfl ?_))
    | ((refine W_region (id := 1) ?_) <;>
    (refine R_field rfl rfl rfl ?_) <;>
    (refine R_load1 0 rfl rfl rfl rfl rfl rfl ?_) <;>
    (refine R_eql rfl rfl rfl rfl ?_ ?_ <;> intro hc))
    | ((refine W_region (id := 2) ?_) <;>
    (refine R_field rfl rfl rfl ?_) <;>
    (refine R_load1 0 rfl rfl rfl rfl rfl rfl ?_) <;>
    (refine R_call (l6In_s _ _ _ _) rfl rfl rfl rfl ?_; rintro _ _ ⟨⟨hc, rfl⟩ | ⟨hc, rfl⟩, hq⟩ <;> (replace hq := hq.symm; subst hq)) <;>
    (refine R_assign (.bool _) rfl rfl rfl ?_))
    | ((refine W_region (id := 3) ?_) <;>
    (refine R_field rfl rfl rfl ?_) <;>
    (refine R_load1 0 rfl rfl rfl rfl rfl rfl ?_) <;>
    (refine R_call (l6In_s _ _ _ _) rfl rfl rfl rfl ?_; rintro _ _ ⟨⟨hc, rfl⟩ | ⟨hc, rfl⟩, hq⟩ <;> (replace hq := hq.symm; subst hq)) <;>
    (refine R_move (.bool _) rfl rfl rfl ?_) <;>
    (first | refine R_field rfl rfl rfl ?_ | refine R_skip rfl rfl ?_) <;>
    (first | refine R_load1 0 rfl rfl rfl rfl rfl rfl ?_ | refine R_skip rfl rfl ?_) <;>
    (first | (refine R_eql rfl rfl rfl rfl ?_ ?_ <;> intro hc) | refine R_skip rfl rfl ?_) <;>
    (refine R_pick (.bool _) rfl rfl rfl rfl ?_) <;>
    (refine R_assign (.bool _) rfl rfl rfl ?_)))
  all_goals
    refine end1 rfl ⟨bvq ?_, rfl⟩
    rw [cellOk_mk]
    first
    | (rw [if_pos (by omega)]; first | exact (decide_eq_true (by omega)).symm | exact (decide_eq_false (by omega)).symm)
    | (rw [if_neg (by omega)]; first | exact (decide_eq_true (by omega)).symm | exact (decide_eq_false (by omega)).symm)

set_option maxHeartbeats 1000000 in
theorem SGridOk_fn {gv : Value} {gr : Grd} {h : LH} (hs : GridD h gv gr) (hl : gr.cells.length ≤ 1000000) : Fn Tryz.prog A 50 [gv].toArray h (fun v h' => v = .bool (gridOk gr) ∧ h' = h) := by
  obtain ⟨w, cs⟩ := gr
  obtain ⟨p, c, rfl, hp, hd⟩ := hs
  dsimp only at hd ⊢
  refine Fn_body (n := 41) (fn := Tryz.f50) Tryz.func50 rfl rfl rfl ?_
  dsimp only at hl
  by_cases hw : 1 ≤ w ∧ w ≤ 5
  · by_cases hm : (cs.length : Int) % w = 0
    · have hr := rows_iff hw.1 hw.2 hm
      by_cases hq5 : 1 ≤ (cs.length : Int) / w ∧ (cs.length : Int) / w ≤ 5
      · repeat' (first
          | refine W_seq ?_
          | refine WS_then ?_
          | refine W_else rfl ?_
          | refine W_skip ?_
          | refine W_block ?_
          | ((refine W_region (id := 0) ?_) <;>
          (refine R_box (.agg _) [(.int _ _), (.slice _ _ _)] rfl rfl rfl rfl ?_; intro bk) <;>
          (refine R_assign (.bool _) rfl rfl rfl ?_))
          | ((refine W_region (id := 1) ?_) <;>
          (refine R_field rfl rfl rfl ?_) <;>
          (refine R_load1 0 rfl rfl rfl rfl rfl rfl ?_) <;>
          (refine R_call (l6In_t _ _ _ _ (by omega)) rfl rfl rfl rfl ?_; rintro _ _ ⟨rfl, hq⟩; replace hq := hq.symm; subst hq) <;>
          (refine R_not _ rfl rfl rfl rfl ?_) <;>
          (refine R_move (.bool _) rfl rfl rfl ?_) <;>
          (refine R_field rfl rfl rfl ?_) <;>
          (refine R_load1 0 rfl rfl rfl rfl rfl rfl ?_) <;>
          (refine R_len rfl rfl rfl ?_) <;>
          (refine R_field rfl rfl rfl ?_) <;>
          (refine R_load1 0 rfl rfl rfl rfl rfl rfl ?_) <;>
          (refine R_rem rfl rfl (by omega) (by omega) rfl rfl ?_) <;>
          (refine R_neq_f rfl rfl (by omega) rfl rfl ?_) <;>
          (refine R_pick (.bool _) rfl rfl rfl rfl ?_) <;>
          (refine R_move (.bool _) rfl rfl rfl ?_) <;>
          (refine R_field rfl rfl rfl ?_) <;>
          (refine R_load1 0 rfl rfl rfl rfl rfl rfl ?_) <;>
          (refine R_len rfl rfl rfl ?_) <;>
          (refine R_field rfl rfl rfl ?_) <;>
          (refine R_load1 0 rfl rfl rfl rfl rfl rfl ?_) <;>
          (refine R_quo rfl rfl (by omega) (by omega) (by omega) rfl rfl ?_) <;>
          (refine R_call (l6In_t _ _ _ _ (by omega)) rfl rfl rfl rfl ?_; rintro _ _ ⟨rfl, hq⟩; replace hq := hq.symm; subst hq) <;>
          (refine R_not _ rfl rfl rfl rfl ?_) <;>
          (refine R_pick (.bool _) rfl rfl rfl rfl ?_))
          | ((refine W_region (id := 3) ?_) <;>
          (refine R_assign (.int _ _) rfl rfl rfl ?_)))
        refine W_loopA (ι := Nat) (fun i => cs.length - i) (fun i => [(1, .pointer (some ⟨bk, 0, none⟩)), (3, .int .i64 i)]) (fun _ => [(bk, bx [.int .i64 w, .slice p cs.length c] 25)]) (fun _ => h) (fun i => i ≤ cs.length ∧ ∀ (j : Nat) x, j < i → cs[j]? = some x → cellOk x = true) 0 ⟨by omega, by omega⟩ (abs_mk ⟨rfl, rfl, trivial⟩ [0] rfl) ?_
        rintro i e ⟨hi, hok⟩
        by_cases hlt : i < cs.length
        · have hx : cs[i]? = some cs[i] := List.getElem?_eq_getElem hlt
          obtain ⟨b, o, vs, rfl, rfl, hat⟩ := hd i _ hx
          unfold celV at hat
          repeat' (first
            | refine W_seq ?_
            | refine WS_then ?_
            | refine W_if rfl ?_
            | refine W_skip ?_
            | refine W_block ?_
            | ((refine W_region (id := 4) ?_) <;>
            (refine R_move (.int _ _) rfl rfl rfl ?_) <;>
            (refine R_field rfl rfl rfl ?_) <;>
            (refine R_load1 0 rfl rfl rfl rfl rfl rfl ?_) <;>
            (refine R_len rfl rfl rfl ?_) <;>
            (refine R_lss_t rfl rfl (by omega) rfl rfl ?_))
            | ((refine W_region (id := 6) ?_) <;>
            (refine R_field rfl rfl rfl ?_) <;>
            (refine R_load1 0 rfl rfl rfl rfl rfl rfl ?_) <;>
            (refine R_move (.int _ _) rfl rfl rfl ?_) <;>
            (refine R_index rfl rfl (by omega) (by omega) rfl rfl ?_) <;>
            (refine R_loadHA rfl (by assumption) rfl rfl rfl ?_) <;>
            (refine R_call (SCellOk_fn _ _ _) rfl rfl rfl rfl ?_; rintro _ _ ⟨rfl, hq⟩; replace hq := hq.symm; subst hq) <;>
            (refine R_not _ rfl rfl rfl rfl ?_)))
          cases hk : cellOk ⟨cs[i].kind, cs[i].light⟩
          · repeat' (first
              | refine W_seq ?_
              | refine WS_then ?_
              | refine W_if rfl ?_
              | refine W_ret ?_
              | refine then_ret ?_
              | refine block_ret ?_
              | ((refine W_region (id := 7) ?_) <;>
              (refine R_assign (.bool _) rfl rfl rfl ?_)))
            exact end1 rfl ⟨bvq (gridOk_f2 hx hk), rfl⟩
          · repeat' (first
              | refine WS_end ?_
              | refine W_else rfl ?_
              | refine W_skip ?_
              | refine then_normal ?_
              | refine block_normal ?_
              | ((refine W_region (id := 5) ?_) <;>
              (refine R_move (.int _ _) rfl rfl rfl ?_) <;>
              (refine R_add rfl rfl (by omega) rfl rfl ?_) <;>
              (refine R_assign (.int _ _) rfl rfl rfl ?_)))
            exact ⟨i + 1, ⟨by omega, fun j x hj hx' => by
              by_cases hji : j = i
              · subst hji; rw [hx] at hx'; cases hx'; exact hk
              · exact hok j x (by omega) hx'⟩, abs_mk ⟨rfl, ivq (by omega), trivial⟩ [0] rfl, by omega⟩
        · repeat' (first
            | refine W_seq ?_
            | refine WS_then ?_
            | refine W_else rfl ?_
            | refine W_ret ?_
            | refine W_exit ?_
            | ((refine W_region (id := 4) ?_) <;>
            (refine R_move (.int _ _) rfl rfl rfl ?_) <;>
            (refine R_field rfl rfl rfl ?_) <;>
            (refine R_load1 0 rfl rfl rfl rfl rfl rfl ?_) <;>
            (refine R_len rfl rfl rfl ?_) <;>
            (refine R_lss_f rfl rfl (by omega) rfl rfl ?_))
            | ((refine W_region (id := 8) ?_) <;>
            (refine R_assign (.bool _) rfl rfl rfl ?_)))
          exact end1 rfl ⟨bvq (gridOk_iff.2 ⟨by omega, fun j x hx => hok j x (by have := (List.getElem?_eq_some_iff.1 hx).1; omega) hx⟩).symm, rfl⟩
      · repeat' (first
          | refine W_seq ?_
          | refine WS_then ?_
          | refine W_if rfl ?_
          | refine W_ret ?_
          | refine then_ret ?_
          | ((refine W_region (id := 0) ?_) <;>
          (refine R_box (.agg _) [(.int _ _), (.slice _ _ _)] rfl rfl rfl rfl ?_; intro bk) <;>
          (refine R_assign (.bool _) rfl rfl rfl ?_))
          | ((refine W_region (id := 1) ?_) <;>
          (refine R_field rfl rfl rfl ?_) <;>
          (refine R_load1 0 rfl rfl rfl rfl rfl rfl ?_) <;>
          (refine R_call (l6In_t _ _ _ _ (by omega)) rfl rfl rfl rfl ?_; rintro _ _ ⟨rfl, hq⟩; replace hq := hq.symm; subst hq) <;>
          (refine R_not _ rfl rfl rfl rfl ?_) <;>
          (refine R_move (.bool _) rfl rfl rfl ?_) <;>
          (refine R_field rfl rfl rfl ?_) <;>
          (refine R_load1 0 rfl rfl rfl rfl rfl rfl ?_) <;>
          (refine R_len rfl rfl rfl ?_) <;>
          (refine R_field rfl rfl rfl ?_) <;>
          (refine R_load1 0 rfl rfl rfl rfl rfl rfl ?_) <;>
          (refine R_rem rfl rfl (by omega) (by omega) rfl rfl ?_) <;>
          (refine R_neq_f rfl rfl (by omega) rfl rfl ?_) <;>
          (refine R_pick (.bool _) rfl rfl rfl rfl ?_) <;>
          (refine R_move (.bool _) rfl rfl rfl ?_) <;>
          (refine R_field rfl rfl rfl ?_) <;>
          (refine R_load1 0 rfl rfl rfl rfl rfl rfl ?_) <;>
          (refine R_len rfl rfl rfl ?_) <;>
          (refine R_field rfl rfl rfl ?_) <;>
          (refine R_load1 0 rfl rfl rfl rfl rfl rfl ?_) <;>
          (refine R_quo rfl rfl (by omega) (by omega) (by omega) rfl rfl ?_) <;>
          (refine R_call (l6In_f _ _ _ _ (by omega)) rfl rfl rfl rfl ?_; rintro _ _ ⟨rfl, hq⟩; replace hq := hq.symm; subst hq) <;>
          (refine R_not _ rfl rfl rfl rfl ?_) <;>
          (refine R_pick (.bool _) rfl rfl rfl rfl ?_))
          | ((refine W_region (id := 2) ?_) <;>
          (refine R_assign (.bool _) rfl rfl rfl ?_)))
        exact end1 rfl ⟨bvq (gridOk_f (by omega)), rfl⟩
    · repeat' (first
        | refine W_seq ?_
        | refine WS_then ?_
        | refine W_if rfl ?_
        | refine W_ret ?_
        | refine then_ret ?_
        | ((refine W_region (id := 0) ?_) <;>
        (refine R_box (.agg _) [(.int _ _), (.slice _ _ _)] rfl rfl rfl rfl ?_; intro bk) <;>
        (refine R_assign (.bool _) rfl rfl rfl ?_))
        | ((refine W_region (id := 1) ?_) <;>
        (refine R_field rfl rfl rfl ?_) <;>
        (refine R_load1 0 rfl rfl rfl rfl rfl rfl ?_) <;>
        (refine R_call (l6In_t _ _ _ _ (by omega)) rfl rfl rfl rfl ?_; rintro _ _ ⟨rfl, hq⟩; replace hq := hq.symm; subst hq) <;>
        (refine R_not _ rfl rfl rfl rfl ?_) <;>
        (refine R_move (.bool _) rfl rfl rfl ?_) <;>
        (refine R_field rfl rfl rfl ?_) <;>
        (refine R_load1 0 rfl rfl rfl rfl rfl rfl ?_) <;>
        (refine R_len rfl rfl rfl ?_) <;>
        (refine R_field rfl rfl rfl ?_) <;>
        (refine R_load1 0 rfl rfl rfl rfl rfl rfl ?_) <;>
        (refine R_rem rfl rfl (by omega) (by omega) rfl rfl ?_) <;>
        (refine R_neq_t rfl rfl (by omega) rfl rfl ?_) <;>
        (refine R_pick (.bool _) rfl rfl rfl rfl ?_) <;>
        (refine R_move (.bool _) rfl rfl rfl ?_) <;>
        (refine R_skip rfl rfl ?_) <;>
        (refine R_skip rfl rfl ?_) <;>
        (refine R_skip rfl rfl ?_) <;>
        (refine R_skip rfl rfl ?_) <;>
        (refine R_skip rfl rfl ?_) <;>
        (refine R_skip rfl rfl ?_) <;>
        (refine R_skip rfl rfl ?_) <;>
        (refine R_skip rfl rfl ?_) <;>
        (refine R_pick (.bool _) rfl rfl rfl rfl ?_))
        | ((refine W_region (id := 2) ?_) <;>
        (refine R_assign (.bool _) rfl rfl rfl ?_)))
      exact end1 rfl ⟨bvq (gridOk_f (by omega)), rfl⟩
  · repeat' (first
      | refine W_seq ?_
      | refine WS_then ?_
      | refine W_if rfl ?_
      | refine W_ret ?_
      | refine then_ret ?_
      | ((refine W_region (id := 0) ?_) <;>
      (refine R_box (.agg _) [(.int _ _), (.slice _ _ _)] rfl rfl rfl rfl ?_; intro bk) <;>
      (refine R_assign (.bool _) rfl rfl rfl ?_))
      | ((refine W_region (id := 1) ?_) <;>
      (refine R_field rfl rfl rfl ?_) <;>
      (refine R_load1 0 rfl rfl rfl rfl rfl rfl ?_) <;>
      (refine R_call (l6In_f _ _ _ _ (by omega)) rfl rfl rfl rfl ?_; rintro _ _ ⟨rfl, hq⟩; replace hq := hq.symm; subst hq) <;>
      (refine R_not _ rfl rfl rfl rfl ?_) <;>
      (refine R_move (.bool _) rfl rfl rfl ?_) <;>
      (refine R_skip rfl rfl ?_) <;>
      (refine R_skip rfl rfl ?_) <;>
      (refine R_skip rfl rfl ?_) <;>
      (refine R_skip rfl rfl ?_) <;>
      (refine R_skip rfl rfl ?_) <;>
      (refine R_skip rfl rfl ?_) <;>
      (refine R_skip rfl rfl ?_) <;>
      (refine R_pick (.bool _) rfl rfl rfl rfl ?_) <;>
      (refine R_move (.bool _) rfl rfl rfl ?_) <;>
      (refine R_skip rfl rfl ?_) <;>
      (refine R_skip rfl rfl ?_) <;>
      (refine R_skip rfl rfl ?_) <;>
      (refine R_skip rfl rfl ?_) <;>
      (refine R_skip rfl rfl ?_) <;>
      (refine R_skip rfl rfl ?_) <;>
      (refine R_skip rfl rfl ?_) <;>
      (refine R_skip rfl rfl ?_) <;>
      (refine R_pick (.bool _) rfl rfl rfl rfl ?_))
      | ((refine W_region (id := 2) ?_) <;>
      (refine R_assign (.bool _) rfl rfl rfl ?_)))
    exact end1 rfl ⟨bvq (gridOk_f (by omega)), rfl⟩
theorem SGridOk_t {gv : Value} {g : Grd} {h : LH} (hs : GridD h gv g) (hk : GOk g) : Fn Tryz.prog A 50 [gv].toArray h (fun v h' => v = .bool true ∧ h' = h) := by
  have := SGridOk_fn (main := main) (lo := lo) (A := A) hs (by have := hk.len25; omega)
  rw [hk.ok] at this
  exact this

theorem l1High_fn {gv : Value} {g : Grd} {h : LH} (hs : GridD h gv g) (hk : GOk g) : Fn Tryz.prog A 123 [gv].toArray h (fun v h' => v = .int .i64 (gH g) ∧ h' = h) := by
  obtain ⟨p, c, rfl, hp, hd⟩ := hs
  have w1 := hk.w1
  have ew := hk.wide
  have l25 := hk.len25
  refine Fn_body (n := 9) (fn := Tryz.f123) Tryz.func123 rfl rfl rfl ?_
  repeat' (first
    | refine W_seq ?_
    | refine WS_then ?_
    | refine W_ret ?_
    | ((refine W_region (id := 0) ?_) <;>
    (refine R_box (.agg _) [(.int _ _), (.slice _ _ _)] rfl rfl rfl rfl ?_; intro bk) <;>
    (refine R_assign (.int _ _) rfl rfl rfl ?_))
    | ((refine W_region (id := 1) ?_) <;>
    (refine R_field rfl rfl rfl ?_) <;>
    (refine R_load1 0 rfl rfl rfl rfl rfl rfl ?_) <;>
    (refine R_len rfl rfl rfl ?_) <;>
    (refine R_field rfl rfl rfl ?_) <;>
    (refine R_load1 0 rfl rfl rfl rfl rfl rfl ?_) <;>
    (refine R_quo rfl rfl (by omega) (by omega) (by omega) rfl rfl ?_) <;>
    (refine R_assign (.int _ _) rfl rfl rfl ?_)))
  refine end1 rfl ⟨ivq ?_, rfl⟩
  rw [ew, hk.len, Int.natCast_mul]
  exact Int.mul_ediv_cancel _ (by omega)

theorem l3Many_fn {gv : Value} {g : Grd} {h : LH} (hs : GridD h gv g) (hk : GOk g) : Fn Tryz.prog A 90 [gv].toArray h (fun v h' => v = .int .i64 (2 * (gW g + gH g) : Nat) ∧ h' = h) := by
  have hG := hs
  obtain ⟨p, c, rfl, hp, hd⟩ := hs
  have ew := hk.wide
  have w5 := hk.w5
  have h5 := hk.h5
  refine Fn_body (n := 9) (fn := Tryz.f90) Tryz.func90 rfl rfl rfl ?_
  repeat' (first
    | refine W_seq ?_
    | refine WS_then ?_
    | ((refine W_region (id := 0) ?_) <;>
    (refine R_box (.agg _) [(.int _ _), (.slice _ _ _)] rfl rfl rfl rfl ?_; intro bk) <;>
    (refine R_assign (.int _ _) rfl rfl rfl ?_)))
  all_goals refine W_draw (fun _ => false) [0, 1, 2, 3, 4, 5, 6] (by kernel_rfl) (by kernel_rfl) (by kernel_rfl) (by kernel_rfl) ?_
  all_goals (refine WL_take 0 [1, 2, 3, 4, 5, 6] rfl (by kernel_rfl) rfl (D_field rfl rfl) ?_)
  all_goals (refine WL_take 1 [2, 3, 4, 5, 6] rfl (by kernel_rfl) rfl (D_load1 0 rfl rfl rfl rfl rfl) ?_)
  all_goals (refine WL_take 2 [3, 4, 5, 6] rfl (by kernel_rfl) rfl (D_loadA 0 [(.int _ _), (.slice _ _ _)] rfl rfl rfl rfl rfl) ?_)
  all_goals (refine WL_callP 3 [4, 5, 6] rfl (by kernel_rfl) rfl (l1High_fn (by assumption) (by assumption)) rfl rfl rfl ?_; rintro _ _ ⟨rfl, hq⟩; replace hq := hq.symm; subst hq)
  all_goals (refine WL_take 4 [5, 6] rfl (by kernel_rfl) rfl (D_add rfl rfl (by omega) rfl) ?_)
  all_goals (refine WL_take 5 [6] rfl (by kernel_rfl) rfl (D_mul rfl rfl (by omega) rfl) ?_)
  all_goals (refine WL_take 6 [] rfl (by kernel_rfl) rfl (D_assign (.int _ _) rfl rfl) ?_)
  all_goals refine WL_nil ?_
  -- left: [] ready: [] []
  repeat' (refine W_ret ?_)
  exact end1 rfl ⟨ivq (by omega), rfl⟩

set_option maxHeartbeats 1000000 in
theorem sideStarts_fn {gv : Value} {g : Grd} {h : LH} (hs : GridD h gv g) (hk : GOk g) : Fn Tryz.prog A 126 [gv].toArray h
    (fun v h' => v = .agg [.int .i64 0, .int .i64 (gW g), .int .i64 (gW g + gH g : Nat), .int .i64 (2 * gW g + gH g : Nat), .int .i64 (2 * (gW g + gH g) : Nat)].toArray ∧ h' = h) := by
  have hG := hs
  obtain ⟨p, c, rfl, hp, hd⟩ := hs
  have ew := hk.wide
  have w5 := hk.w5
  have h5 := hk.h5
  refine Fn_body (n := 23) (fn := Tryz.f126) Tryz.func126 rfl rfl rfl ?_
  repeat' (first
    | refine W_seq ?_
    | refine WS_then ?_
    | refine W_ret ?_
    | ((refine W_region (id := 0) ?_) <;>
    (refine R_box (.agg _) [(.int _ _), (.slice _ _ _)] rfl rfl rfl rfl ?_; intro bk) <;>
    (refine R_alloc rfl rfl ?_; intro bk))
    | ((refine W_region (id := 1) ?_) <;>
    (refine R_loadA 1 [(.int _ _), (.slice _ _ _)] rfl rfl rfl rfl rfl rfl ?_) <;>
    (refine R_call (gridRows_fn (by assumption) (by assumption)) rfl rfl rfl rfl ?_; rintro _ _ ⟨rfl, hq⟩; replace hq := hq.symm; subst hq) <;>
    (refine R_assign (.int _ _) rfl rfl rfl ?_))
    | ((refine W_region (id := 2) ?_) <;>
    (refine R_field rfl rfl rfl ?_) <;>
    (refine R_load1 1 rfl rfl rfl rfl rfl rfl ?_) <;>
    (refine R_field rfl rfl rfl ?_) <;>
    (refine R_load1 1 rfl rfl rfl rfl rfl rfl ?_) <;>
    (refine R_move (.int _ _) rfl rfl rfl ?_) <;>
    (refine R_add rfl rfl (by omega) rfl rfl ?_) <;>
    (refine R_field rfl rfl rfl ?_) <;>
    (refine R_load1 1 rfl rfl rfl rfl rfl rfl ?_) <;>
    (refine R_mul rfl rfl (by omega) rfl rfl ?_) <;>
    (refine R_move (.int _ _) rfl rfl rfl ?_) <;>
    (refine R_add rfl rfl (by omega) rfl rfl ?_) <;>
    (refine R_field rfl rfl rfl ?_) <;>
    (refine R_load1 1 rfl rfl rfl rfl rfl rfl ?_) <;>
    (refine R_move (.int _ _) rfl rfl rfl ?_) <;>
    (refine R_add rfl rfl (by omega) rfl rfl ?_) <;>
    (refine R_mul rfl rfl (by omega) rfl rfl ?_) <;>
    (refine R_buildArr [(.int _ _), (.int _ _), (.int _ _), (.int _ _), (.int _ _)] rfl rfl rfl ?_) <;>
    (refine R_store 0 (.agg _) [(.int _ _), (.int _ _), (.int _ _), (.int _ _), (.int _ _)] _ _ rfl rfl rfl rfl rfl rfl rfl rfl rfl rfl ?_; dsimp only [splice, List.set])))
  refine endR rfl (.cons (.cellA 0 [.int _ _, .int _ _, .int _ _, .int _ _, .int _ _] rfl rfl (r := []) rfl rfl) .nil) ⟨?_, rfl⟩
  show Value.agg _ = _
  rw [ew]
  rfl
end Go.Lu
