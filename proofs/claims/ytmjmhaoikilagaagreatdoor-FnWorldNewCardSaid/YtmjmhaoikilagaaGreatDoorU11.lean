/- a fresh world is ok -/
import Derived.Test.YtmjmhaoikilagaaGreatDoorU10
set_option linter.unusedVariables false
set_option linter.unusedSectionVars false
namespace Go.Lu
open Go.Proofs
variable {main : Bool} {lo : Nat → Prop} {A : (Goroutine → LH → Prop) → Prop} [hA : Adm Tryz.prog main lo A]
theorem KeepC.newShape {H : LH} {w c e p s : Value} {g : Grd} {n : Nat} (x : KeepC H w c e p s (keepNew g n)) : ∃ q1 c1 q2 c2 q3 c3 q4 c4, w = .int .i64 g.wide ∧ c = .slice q1 g.cells.length c1 ∧ e = .slice q2 0 c2 ∧ p = .slice q3 n c3 ∧ s = .slice q4 0 c4 := by
  obtain ⟨q1, c1, q2, c2, q3, c3, q4, c4, h1, h2, h3, h4, h5⟩ := x.shape
  exact ⟨q1, c1, q2, c2, q3, c3, q4, c4, h1, h2, h3, by rw [h4]; simp [keepNew], h5⟩
theorem newParts {g : Grd} {n : Nat} : (keepNew g n).parts.length = n := by simp [keepNew]
theorem newFresh {g : Grd} {n : Nat} : ∀ x ∈ (keepNew g n).parts, x = ⟨false, 0, []⟩ := fun x hx => (List.mem_replicate.1 hx).2
include hA
set_option maxHeartbeats 2000000 in
theorem keepCheck_new {w c e p s : Value} {g : Grd} {n : Nat} {h : LH} (hK : KeepC h w c e p s (keepNew g n)) (hk : GOk g) (h1 : 1 ≤ n) (h3 : n ≤ 3) : Fn Tryz.prog A 49 [.agg [w, c, e, p, s].toArray].toArray h (fun v h' => v = .nilIface ∧ h' = h) := by
  obtain ⟨q1, c1, q2, c2, q3, c3, q4, c4, rfl, rfl, rfl, rfl, rfl⟩ := hK.newShape
  have hG : GridD h (.agg [.int .i64 g.wide, .slice q1 g.cells.length c1].toArray) g := hK.first
  have hE : Sd h 3 (.slice q2 0 c2) ([] : List Edt) EdR := hK.edits
  have h25 := hk.len25
  have hpl := newParts (g := g) (n := n)
  have hpf := newFresh (g := g) (n := n)
  have he0 : ([] : List Edt).length ≤ 1000000 := by simp
  refine Fn_body (n := 88) (fn := Tryz.f49) Tryz.func49 rfl rfl rfl ?_
-- CALL impl.editsOk := editsOk_fn (by assumption) (by assumption) (by omega) (by assumption) ;; rintro _ _ ⟨rfl, hq⟩; replace hq := hq.symm; subst hq
  repeat' (first
    | refine W_seq ?_
    | refine WS_then ?_
    | refine W_else rfl ?_
    | refine W_skip ?_
    | refine W_block ?_
    | ((refine W_region (id := 0) ?_) <;>
    (refine R_box (.agg _) [(.int _ _), (.slice _ _ _), (.slice _ _ _), (.slice _ _ _), (.slice _ _ _)] rfl rfl rfl rfl ?_; intro bk) <;>
    (refine R_assign .nilIface rfl rfl rfl ?_))
    | ((refine W_region (id := 1) ?_) <;>
    (refine R_field rfl rfl rfl ?_) <;>
    (refine R_loadA 0 [(.int _ _), (.slice _ _ _)] rfl rfl rfl rfl rfl rfl ?_) <;>
    (refine R_call (GridOk_t (by assumption) (by assumption)) rfl rfl rfl rfl ?_; rintro _ _ ⟨rfl, hq⟩; replace hq := hq.symm; subst hq) <;>
    (refine R_not _ rfl rfl rfl rfl ?_))
    | ((refine W_region (id := 3) ?_) <;>
    (refine R_field rfl rfl rfl ?_) <;>
    (refine R_load1 0 rfl rfl rfl rfl rfl rfl ?_) <;>
    (refine R_len rfl rfl rfl ?_) <;>
    (refine R_lss_f rfl rfl (by omega) rfl rfl ?_) <;>
    (refine R_move (.bool _) rfl rfl rfl ?_) <;>
    (refine R_field rfl rfl rfl ?_) <;>
    (refine R_load1 0 rfl rfl rfl rfl rfl rfl ?_) <;>
    (refine R_len rfl rfl rfl ?_) <;>
    (refine R_gtr_f rfl rfl (by omega) rfl rfl ?_) <;>
    (refine R_pick (.bool _) rfl rfl rfl rfl ?_))
    | ((refine W_region (id := 5) ?_) <;>
    (refine R_field rfl rfl rfl ?_) <;>
    (refine R_load1 0 rfl rfl rfl rfl rfl rfl ?_) <;>
    (refine R_len rfl rfl rfl ?_) <;>
    (refine R_gtr_f rfl rfl (by omega) rfl rfl ?_) <;>
    (refine R_move (.bool _) rfl rfl rfl ?_) <;>
    (refine R_field rfl rfl rfl ?_) <;>
    (refine R_loadA 0 [(.int _ _), (.slice _ _ _)] rfl rfl rfl rfl rfl rfl ?_) <;>
    (refine R_field rfl rfl rfl ?_) <;>
    (refine R_load1 0 rfl rfl rfl rfl rfl rfl ?_) <;>
    (refine R_call (editsOk_fn (by assumption) (by assumption) (by omega) (by omega)) rfl rfl rfl rfl ?_; rintro _ _ ⟨rfl, hq⟩; replace hq := hq.symm; subst hq) <;>
    (refine R_not _ rfl rfl rfl rfl ?_) <;>
    (refine R_pick (.bool _) rfl rfl rfl rfl ?_))
    | ((refine W_region (id := 7) ?_) <;>
    (refine R_assign (.int _ _) rfl rfl rfl ?_)))
  revert bk
  intro b1
  refine W_loopA (ι := Nat) (fun i => n - i) (fun i => [(1, .pointer (some ⟨b1, 0, none⟩)), (3, .int .i64 (i + 1))]) (fun _ => [(b1, bx [.int .i64 g.wide, .slice q1 g.cells.length c1, .slice q2 0 c2, .slice q3 n c3, .slice q4 0 c4] 32)]) (fun _ => h)
    (fun i => i ≤ n) 0 (by omega) (abs_mk ⟨rfl, rfl, trivial⟩ [0] rfl) ?_
  intro i e hi
  by_cases hlt : i < n
  · repeat' (first
      | refine W_seq ?_
      | refine WS_then ?_
      | refine WS_end ?_
      | refine W_if rfl ?_
      | refine W_else rfl ?_
      | refine W_skip ?_
      | refine W_block ?_
      | refine then_normal ?_
      | refine block_normal ?_
      | ((refine W_region (id := 8) ?_) <;>
      (refine R_move (.int _ _) rfl rfl rfl ?_) <;>
      (refine R_field rfl rfl rfl ?_) <;>
      (refine R_load1 0 rfl rfl rfl rfl rfl rfl ?_) <;>
      (refine R_len rfl rfl rfl ?_) <;>
      (refine R_leq_t rfl rfl (by omega) rfl rfl ?_))
      | ((refine W_region (id := 10) ?_) <;>
      (refine R_loadA 0 [(.int _ _), (.slice _ _ _), (.slice _ _ _), (.slice _ _ _), (.slice _ _ _)] rfl rfl rfl rfl rfl rfl ?_) <;>
      (refine R_move (.int _ _) rfl rfl rfl ?_) <;>
      (refine R_call (partCheck_no (by assumption) (by assumption) (by omega) (by omega) (by omega)) rfl rfl rfl rfl ?_; rintro _ _ ⟨rfl, hq⟩; replace hq := hq.symm; subst hq) <;>
      (refine R_assign .nilIface rfl rfl rfl ?_))
      | ((refine W_region (id := 11) ?_) <;>
      (refine R_move .nilIface rfl rfl rfl ?_) <;>
      (refine R_neqNilI false rfl (by first | exact .inl rfl | exact .inr ⟨_, _, rfl⟩) rfl rfl rfl ?_))
      | ((refine W_region (id := 9) ?_) <;>
      (refine R_move (.int _ _) rfl rfl rfl ?_) <;>
      (refine R_add rfl rfl (by omega) rfl rfl ?_) <;>
      (refine R_assign (.int _ _) rfl rfl rfl ?_)))
    exact ⟨i + 1, by omega, abs_mk ⟨rfl, ivq (by omega), trivial⟩ [0] rfl, by omega⟩
  · repeat' (first
      | refine W_seq ?_
      | refine WS_then ?_
      | refine W_else rfl ?_
      | refine W_block ?_
      | refine W_exit ?_
      | ((refine W_region (id := 8) ?_) <;>
      (refine R_move (.int _ _) rfl rfl rfl ?_) <;>
      (refine R_field rfl rfl rfl ?_) <;>
      (refine R_load1 0 rfl rfl rfl rfl rfl rfl ?_) <;>
      (refine R_len rfl rfl rfl ?_) <;>
      (refine R_leq_f rfl rfl (by omega) rfl rfl ?_))
      | ((refine W_region (id := 13) ?_) <;>
      (refine R_assign (.int _ _) rfl rfl rfl ?_))
      | ((refine W_region (id := 14) ?_) <;>
      (refine R_field rfl rfl rfl ?_) <;>
      (refine R_load1 0 rfl rfl rfl rfl rfl rfl ?_) <;>
      (refine R_len rfl rfl rfl ?_) <;>
      (refine R_move (.int _ _) rfl rfl rfl ?_)))
    refine W_loopA (ι := Unit) (fun i => 0) (fun i => [(56, .int .i64 0), (57, .int .i64 0)]) (fun _ => []) (fun _ => h) (fun i => True) () trivial (abs_mk ⟨rfl, rfl, trivial⟩ [] rfl) ?_
    intro _ e _
    repeat' (first
      | refine W_seq ?_
      | refine WS_then ?_
      | refine W_else rfl ?_
      | refine W_ret ?_
      | refine W_exit ?_
      | ((refine W_region (id := 15) ?_) <;>
      (refine R_lss_f rfl rfl (by omega) rfl rfl ?_))
      | ((refine W_region (id := 24) ?_) <;>
      (refine R_assign .nilIface rfl rfl rfl ?_)))
    exact end1 rfl ⟨rfl, rfl⟩
theorem KeepOk_new {w c e p s : Value} {g : Grd} {n : Nat} {h : LH} (hK : KeepC h w c e p s (keepNew g n)) (hk : GOk g) (h1 : 1 ≤ n) (h3 : n ≤ 3) : Fn Tryz.prog A 17 [.agg [w, c, e, p, s].toArray].toArray h (fun v h' => v = .bool true ∧ h' = h) := by
  obtain ⟨q1, c1, q2, c2, q3, c3, q4, c4, rfl, rfl, rfl, rfl, rfl⟩ := hK.newShape
  refine Fn_body (n := 7) (fn := Tryz.f17) Tryz.func17 rfl rfl rfl ?_
  repeat' (first
    | refine W_seq ?_
    | refine WS_then ?_
    | refine W_ret ?_
    | ((refine W_region (id := 0) ?_) <;>
    (refine R_box (.agg _) [(.int _ _), (.slice _ _ _), (.slice _ _ _), (.slice _ _ _), (.slice _ _ _)] rfl rfl rfl rfl ?_; intro bk) <;>
    (refine R_assign (.bool _) rfl rfl rfl ?_))
    | ((refine W_region (id := 1) ?_) <;>
    (refine R_loadA 0 [(.int _ _), (.slice _ _ _), (.slice _ _ _), (.slice _ _ _), (.slice _ _ _)] rfl rfl rfl rfl rfl rfl ?_) <;>
    (refine R_call (keepCheck_new (by assumption) (by assumption) (by omega) (by omega)) rfl rfl rfl rfl ?_; rintro _ _ ⟨rfl, hq⟩; replace hq := hq.symm; subst hq) <;>
    (refine R_call (refusedNil_fn) rfl rfl rfl rfl ?_; rintro _ _ ⟨rfl, hq⟩; replace hq := hq.symm; subst hq) <;>
    (refine R_not _ rfl rfl rfl rfl ?_) <;>
    (refine R_assign (.bool _) rfl rfl rfl ?_)))
  exact end1 rfl ⟨rfl, rfl⟩
theorem PaintOk_no {up : Bool} {w c l f : Value} {h : LH} (hS : ScnC h w c l f ⟨grd0, [], []⟩) : Fn Tryz.prog A 79 [.agg [.bool up, .bool false, .int .i64 0, w, c, l, f].toArray].toArray h (fun v h' => v = .bool true ∧ h' = h) := by
  obtain ⟨q1, c1, q2, c2, q3, c3, rfl, rfl, rfl, rfl⟩ := hS.shape
  have h0 : ScnC h (.int .i64 0) (.slice none 0 0) (.slice none 0 0) (.slice none 0 0) ⟨grd0, [], []⟩ := ⟨grid0 h, sd_nil _ _ _, sd_nil _ _ _⟩
  refine Fn_body (n := 31) (fn := Tryz.f79) Tryz.func79 rfl rfl rfl ?_
  repeat' (first
    | refine W_seq ?_
    | refine WS_then ?_
    | refine W_else rfl ?_
    | refine W_skip ?_
    | refine W_ret ?_
    | ((refine W_region (id := 0) ?_) <;>
    (refine R_box (.agg _) [(.bool _), (.bool _), (.int _ _), (.int _ _), (.slice _ _ _), (.slice _ _ _), (.slice _ _ _)] rfl rfl rfl rfl ?_; intro bk) <;>
    (refine R_assign (.bool _) rfl rfl rfl ?_))
    | ((refine W_region (id := 1) ?_) <;>
    (refine R_field rfl rfl rfl ?_) <;>
    (refine R_load1 0 rfl rfl rfl rfl rfl rfl ?_))
    | ((refine W_region (id := 3) ?_) <;>
    (refine R_field rfl rfl rfl ?_) <;>
    (refine R_load1 0 rfl rfl rfl rfl rfl rfl ?_) <;>
    (refine R_eql_t rfl rfl (by omega) rfl rfl ?_) <;>
    (refine R_move (.bool _) rfl rfl rfl ?_) <;>
    (refine R_field rfl rfl rfl ?_) <;>
    (refine R_loadA 0 [(.int _ _), (.slice _ _ _), (.slice _ _ _), (.slice _ _ _)] rfl rfl rfl rfl rfl rfl ?_) <;>
    (refine R_build [(.int _ _), (.slice _ _ _), (.slice _ _ _), (.slice _ _ _)] rfl rfl rfl ?_) <;>
    (refine R_call (sceneSame_nil (by assumption) (by assumption)) rfl rfl rfl rfl ?_; rintro _ _ ⟨rfl, hq⟩; replace hq := hq.symm; subst hq) <;>
    (refine R_pick (.bool _) rfl rfl rfl rfl ?_) <;>
    (refine R_assign (.bool _) rfl rfl rfl ?_)))
  exact end1 rfl ⟨rfl, rfl⟩
theorem painterCorrect_no {up : Bool} {w c e p s w' c' l f : Value} {k : Kpr} {h : LH} (hK : KeepC h w c e p s k) (hS : ScnC h w' c' l f ⟨grd0, [], []⟩) : Fn Tryz.prog A 44 [.agg [w, c, e, p, s].toArray, .agg [.bool up, .bool false, .int .i64 0, w', c', l, f].toArray].toArray h (fun v h' => v = .bool true ∧ h' = h) := by
  obtain ⟨q1, c1, q2, c2, q3, c3, q4, c4, rfl, rfl, rfl, rfl, rfl⟩ := hK.shape
  obtain ⟨p1, d1, p2, d2, p3, d3, rfl, rfl, rfl, rfl⟩ := hS.shape
  refine Fn_body (n := 28) (fn := Tryz.f44) Tryz.func44 rfl rfl rfl ?_
  repeat' (first
    | refine W_seq ?_
    | refine WS_then ?_
    | refine W_else rfl ?_
    | refine W_skip ?_
    | ((refine W_region (id := 0) ?_) <;>
    (refine R_box (.agg _) [(.int _ _), (.slice _ _ _), (.slice _ _ _), (.slice _ _ _), (.slice _ _ _)] rfl rfl rfl rfl ?_; intro bk) <;>
    (refine R_box (.agg _) [(.bool _), (.bool _), (.int _ _), (.int _ _), (.slice _ _ _), (.slice _ _ _), (.slice _ _ _)] rfl rfl rfl rfl ?_; intro bk) <;>
    (refine R_assign (.bool _) rfl rfl rfl ?_))
    | ((refine W_region (id := 1) ?_) <;>
    (refine R_loadA 1 [(.int _ _), (.slice _ _ _), (.slice _ _ _), (.slice _ _ _), (.slice _ _ _)] rfl rfl rfl rfl rfl rfl ?_) <;>
    (refine R_field rfl rfl rfl ?_) <;>
    (refine R_load1 0 rfl rfl rfl rfl rfl rfl ?_) <;>
    (refine R_call (keepVersion_ok (by assumption) (by omega) (by omega)) rfl rfl rfl rfl ?_; rintro _ _ ⟨rfl, hq⟩; replace hq := hq.symm; subst hq) <;>
    (refine R_call (refusedNil_fn) rfl rfl rfl rfl ?_; rintro _ _ ⟨rfl, hq⟩; replace hq := hq.symm; subst hq) <;>
    (refine R_move (.bool _) rfl rfl rfl ?_) <;>
    (refine R_loadA 0 [(.bool _), (.bool _), (.int _ _), (.int _ _), (.slice _ _ _), (.slice _ _ _), (.slice _ _ _)] rfl rfl rfl rfl rfl rfl ?_) <;>
    (refine R_call (PaintOk_no (by assumption)) rfl rfl rfl rfl ?_; rintro _ _ ⟨rfl, hq⟩; replace hq := hq.symm; subst hq) <;>
    (refine R_not _ rfl rfl rfl rfl ?_) <;>
    (refine R_pick (.bool _) rfl rfl rfl rfl ?_)))
  all_goals refine W_draw (fun _ => false) [0, 1, 2, 3, 4, 5, 6, 7, 8, 9, 10, 11, 12, 13] (by kernel_rfl) (by kernel_rfl) (by kernel_rfl) (by kernel_rfl) ?_
  all_goals (refine WL_take 0 [1, 2, 3, 4, 5, 6, 7, 8, 9, 10, 11, 12, 13] rfl (by kernel_rfl) rfl (D_field rfl rfl) ?_)
  all_goals (refine WL_take 1 [2, 3, 4, 5, 6, 7, 8, 9, 10, 11, 12, 13] rfl (by kernel_rfl) rfl (D_load1 0 rfl rfl rfl rfl rfl) ?_)
  all_goals (refine WL_take 2 [3, 4, 5, 6, 7, 8, 9, 10, 11, 12, 13] rfl (by kernel_rfl) rfl (D_not _ rfl rfl rfl) ?_)
  all_goals (refine WL_take 3 [4, 5, 6, 7, 8, 9, 10, 11, 12, 13] rfl (by kernel_rfl) rfl (D_move (.bool _) rfl rfl) ?_)
  all_goals (refine WL_take 4 [5, 6, 7, 8, 9, 10, 11, 12, 13] rfl (by kernel_rfl) rfl (D_skip rfl) ?_)
  all_goals (refine WL_take 5 [6, 7, 8, 9, 10, 11, 12, 13] rfl (by kernel_rfl) rfl (D_skip rfl) ?_)
  all_goals (refine WL_take 6 [7, 8, 9, 10, 11, 12, 13] rfl (by kernel_rfl) rfl (D_skip rfl) ?_)
  all_goals (refine WL_take 7 [8, 9, 10, 11, 12, 13] rfl (by kernel_rfl) rfl (D_skip rfl) ?_)
  all_goals (refine WL_take 8 [9, 10, 11, 12, 13] rfl (by kernel_rfl) rfl (D_skip rfl) ?_)
  all_goals (refine WL_take 9 [10, 11, 12, 13] rfl (by kernel_rfl) rfl (D_skip rfl) ?_)
  all_goals (refine WL_take 10 [11, 12, 13] rfl (by kernel_rfl) rfl (D_skip rfl) ?_)
  all_goals (refine WL_take 11 [12, 13] rfl (by kernel_rfl) rfl (D_skip rfl) ?_)
  all_goals (refine WL_take 12 [13] rfl (by kernel_rfl) rfl (D_pick (.bool _) rfl rfl rfl) ?_)
  all_goals (refine WL_take 13 [] rfl (by kernel_rfl) rfl (D_assign (.bool _) rfl rfl) ?_)
  all_goals refine WL_nil ?_
  -- left: [] ready: [] []
  repeat' (refine W_ret ?_)
  exact end1 rfl ⟨rfl, rfl⟩
end Go.Lu
