/- what is the same is told the same -/
import Derived.Test.YtmjmhaoikilagaaGreatDoorU7
set_option linter.unusedVariables false
set_option linter.unusedSectionVars false
namespace Go.Lu
open Go.Proofs
variable {main : Bool} {lo : Nat → Prop} {A : (Goroutine → LH → Prop) → Prop} [hA : Adm Tryz.prog main lo A]
include hA
set_option maxHeartbeats 1000000 in
theorem SWorldNew_f {gv : Value} {g : Grd} {h : LH} (k : Int) (hs : GridD h gv g) (hl : g.cells.length ≤ 50) (hno : gridOk g = false ∨ k < 1 ∨ 3 < k) : Fn Tryz.prog A 12 [gv, .int .i64 k].toArray h
    (fun v h' => (∃ kv, v = .tuple [kv, .bool false].toArray ∧ WorldD h' kv ⟨keep0, [], []⟩) ∧ LE h h') := by
  have hG := hs
  obtain ⟨p, c, rfl, hp, hd⟩ := hs
  refine Fn_body (n := 34) (fn := Tryz.f12) Tryz.func12 rfl rfl rfl ?_
  repeat' (first
    | refine W_seq ?_
    | refine WS_then ?_
    | ((refine W_region (id := 0) ?_) <;>
    (refine R_box (.agg _) [(.int _ _), (.slice _ _ _)] rfl rfl rfl rfl ?_; intro bk) <;>
    (refine R_alloc rfl rfl ?_; intro bk) <;>
    (refine R_assign (.bool _) rfl rfl rfl ?_)))
  refine W_region (id := 1) ?_
  all_goals (refine R_loadA 1 [(.int _ _), (.slice _ _ _)] rfl rfl rfl rfl rfl rfl ?_)
  all_goals (refine R_move (.int _ _) rfl rfl rfl ?_)
  refine R_call (main := main) (A := A) (SKeepNew_f (main := main) (lo := lo) (A := A) k hG hl hno) rfl rfl rfl rfl ?_
  rintro _ h1' ⟨⟨_, rfl, w', c', e', p', s', rfl, hK⟩, hle⟩
  obtain ⟨q1, c1, q2, c2, q3, c3, q4, c4, rfl, rfl, rfl, rfl, rfl⟩ := hK.shape
  all_goals (refine R_move (.tuple _) rfl rfl rfl ?_)
  all_goals (refine R_extract (.agg _) rfl rfl rfl rfl ?_)
  all_goals (refine R_extract (.bool _) rfl rfl rfl rfl ?_)
  all_goals (refine R_alloc rfl rfl ?_; intro bk)
  all_goals (refine R_store 0 (.agg _) [(.int _ _), (.slice _ _ _), (.slice _ _ _), (.slice _ _ _), (.slice _ _ _)] _ _ rfl rfl rfl rfl rfl rfl rfl rfl rfl rfl ?_; dsimp only [splice, List.set])
  all_goals (refine R_assign (.bool _) rfl rfl rfl ?_)
  repeat' (first
    | refine W_seq ?_
    | refine WS_then ?_
    | refine W_if rfl ?_
    | refine W_ret ?_
    | refine then_ret ?_
    | ((refine W_region (id := 2) ?_) <;>
    (refine R_move (.bool _) rfl rfl rfl ?_) <;>
    (refine R_not _ rfl rfl rfl rfl ?_))
    | ((refine W_region (id := 3) ?_) <;>
    (refine R_build [(.int _ _), (.slice _ _ _), (.slice _ _ _), (.slice _ _ _), (.slice _ _ _), (.slice _ _ _), (.slice _ _ _)] rfl rfl rfl ?_) <;>
    (refine R_store 1 (.agg _) [(.int _ _), (.slice _ _ _), (.slice _ _ _), (.slice _ _ _), (.slice _ _ _), (.slice _ _ _), (.slice _ _ _)] _ _ rfl rfl rfl rfl rfl rfl rfl rfl rfl rfl ?_; dsimp only [splice, List.set]) <;>
    (refine R_assign (.bool _) rfl rfl rfl ?_)))
  exact endRle _ (LE.refl _) rfl (.cons (.cellA 1 [.int _ _, .slice _ _ _, .slice _ _ _, .slice _ _ _, .slice _ _ _, .slice _ _ _, .slice _ _ _] rfl rfl (r := []) rfl rfl) (.cons (.tmp rfl) .nil)) ⟨⟨_, rfl, _, _, _, _, _, _, _, rfl, keepC0 _, sd_nil _ _ _, sd_nil _ _ _⟩, hle⟩
set_option maxHeartbeats 1000000 in
theorem WorldNew_f {gv : Value} {g : Grd} {h : LH} (k : Int) (hs : GridD h gv g) (hno : gridOk g = false ∨ k < 1 ∨ 3 < k) : Fn Tryz.prog A 13 [gv, .int .i64 k].toArray h
    (fun v h' => (∃ kv, v = .tuple [kv, .bool false].toArray ∧ WorldD h' kv ⟨keep0, [], []⟩) ∧ LE h h') := by
  have hG := hs
  obtain ⟨p, c, rfl, hp, hd⟩ := hs
  refine Fn_body (n := 31) (fn := Tryz.f13) Tryz.func13 rfl rfl rfl ?_
  repeat' (first
    | refine W_seq ?_
    | refine WS_then ?_
    | ((refine W_region (id := 0) ?_) <;>
    (refine R_box (.agg _) [(.int _ _), (.slice _ _ _)] rfl rfl rfl rfl ?_; intro bk) <;>
    (refine R_alloc rfl rfl ?_; intro bk) <;>
    (refine R_assign (.bool _) rfl rfl rfl ?_)))
  refine W_region (id := 1) ?_
  all_goals (refine R_loadA 1 [(.int _ _), (.slice _ _ _)] rfl rfl rfl rfl rfl rfl ?_)
  all_goals (refine R_move (.int _ _) rfl rfl rfl ?_)
  refine R_call (main := main) (A := A) (KeepNew_f (main := main) (lo := lo) (A := A) k hG hno) rfl rfl rfl rfl ?_
  rintro _ h1' ⟨⟨_, rfl, w', c', e', p', s', rfl, hK⟩, hle⟩
  obtain ⟨q1, c1, q2, c2, q3, c3, q4, c4, rfl, rfl, rfl, rfl, rfl⟩ := hK.shape
  all_goals (refine R_move (.tuple _) rfl rfl rfl ?_)
  all_goals (refine R_extract (.agg _) rfl rfl rfl rfl ?_)
  all_goals (refine R_extract (.bool _) rfl rfl rfl rfl ?_)
  all_goals (refine R_alloc rfl rfl ?_; intro bk)
  all_goals (refine R_store 0 (.agg _) [(.int _ _), (.slice _ _ _), (.slice _ _ _), (.slice _ _ _), (.slice _ _ _)] _ _ rfl rfl rfl rfl rfl rfl rfl rfl rfl rfl ?_; dsimp only [splice, List.set])
  all_goals (refine R_assign (.bool _) rfl rfl rfl ?_)
  repeat' (first
    | refine W_seq ?_
    | refine WS_then ?_
    | refine W_if rfl ?_
    | refine W_ret ?_
    | refine then_ret ?_
    | ((refine W_region (id := 2) ?_) <;>
    (refine R_move (.bool _) rfl rfl rfl ?_) <;>
    (refine R_not _ rfl rfl rfl rfl ?_))
    | ((refine W_region (id := 3) ?_) <;>
    (refine R_build [(.int _ _), (.slice _ _ _), (.slice _ _ _), (.slice _ _ _), (.slice _ _ _), (.slice _ _ _), (.slice _ _ _)] rfl rfl rfl ?_) <;>
    (refine R_store 1 (.agg _) [(.int _ _), (.slice _ _ _), (.slice _ _ _), (.slice _ _ _), (.slice _ _ _), (.slice _ _ _), (.slice _ _ _)] _ _ rfl rfl rfl rfl rfl rfl rfl rfl rfl rfl ?_; dsimp only [splice, List.set]) <;>
    (refine R_assign (.bool _) rfl rfl rfl ?_)))
  exact endRle _ (LE.refl _) rfl (.cons (.cellA 1 [.int _ _, .slice _ _ _, .slice _ _ _, .slice _ _ _, .slice _ _ _, .slice _ _ _, .slice _ _ _] rfl rfl (r := []) rfl rfl) (.cons (.tmp rfl) .nil)) ⟨⟨_, rfl, _, _, _, _, _, _, _, rfl, keepC0 _, sd_nil _ _ _, sd_nil _ _ _⟩, hle⟩
/-! ### the same -/
set_option maxHeartbeats 1000000 in
theorem llGrid_same {va vb : Value} {g : Grd} {h : LH} (ha : GridD h va g) (hb : GridD h vb g) (hl : g.cells.length ≤ 100000) : Fn Tryz.prog A 23 [va, vb].toArray h (fun v h' => v = .bool true ∧ h' = h) := by
  obtain ⟨pa, ca, rfl, hpa, hda⟩ := ha
  obtain ⟨pb, cb, rfl, hpb, hdb⟩ := hb
  refine Fn_body (n := 38) (fn := Tryz.f23) Tryz.func23 rfl rfl rfl ?_
  repeat' (first
    | refine W_seq ?_
    | refine WS_then ?_
    | refine W_else rfl ?_
    | refine W_skip ?_
    | refine W_block ?_
    | ((refine W_region (id := 0) ?_) <;>
    (refine R_box (.agg _) [(.int _ _), (.slice _ _ _)] rfl rfl rfl rfl ?_; intro bk) <;>
    (refine R_box (.agg _) [(.int _ _), (.slice _ _ _)] rfl rfl rfl rfl ?_; intro bk) <;>
    (refine R_assign (.bool _) rfl rfl rfl ?_))
    | ((refine W_region (id := 1) ?_) <;>
    (refine R_field rfl rfl rfl ?_) <;>
    (refine R_load1 1 rfl rfl rfl rfl rfl rfl ?_) <;>
    (refine R_field rfl rfl rfl ?_) <;>
    (refine R_load1 0 rfl rfl rfl rfl rfl rfl ?_) <;>
    (refine R_neq_f rfl rfl (by omega) rfl rfl ?_) <;>
    (refine R_move (.bool _) rfl rfl rfl ?_) <;>
    (refine R_field rfl rfl rfl ?_) <;>
    (refine R_load1 1 rfl rfl rfl rfl rfl rfl ?_) <;>
    (refine R_len rfl rfl rfl ?_) <;>
    (refine R_field rfl rfl rfl ?_) <;>
    (refine R_load1 0 rfl rfl rfl rfl rfl rfl ?_) <;>
    (refine R_len rfl rfl rfl ?_) <;>
    (refine R_neq_f rfl rfl (by omega) rfl rfl ?_) <;>
    (refine R_pick (.bool _) rfl rfl rfl rfl ?_))
    | ((refine W_region (id := 3) ?_) <;>
    (refine R_assign (.int _ _) rfl rfl rfl ?_)))
  rename_i b2
  revert bk
  intro b3
  refine W_loopA (ι := Nat) (fun i => g.cells.length - i) (fun i => [(2, .pointer (some ⟨b2, 0, none⟩)), (3, .pointer (some ⟨b3, 0, none⟩)), (5, .int .i64 i)]) (fun _ => [(b2, bx [.int .i64 g.wide, .slice pa g.cells.length ca] 25), (b3, bx [.int .i64 g.wide, .slice pb g.cells.length cb] 25)]) (fun _ => h)
    (fun i => i ≤ g.cells.length) 0 (by omega) (abs_mk ⟨rfl, rfl, rfl, trivial⟩ [1, 0] rfl) ?_
  intro i e hi
  by_cases hlt : i < g.cells.length
  · have hx : g.cells[i]? = some g.cells[i] := List.getElem?_eq_getElem hlt
    generalize g.cells[i] = x at hx
    obtain ⟨k, l⟩ := x
    obtain ⟨b, o, vs, rfl, rfl, hat⟩ := hda i _ hx
    obtain ⟨b', o', vs', rfl, rfl, hat'⟩ := hdb i _ hx
    simp only [celV] at hat hat'
    repeat' (first
      | refine W_seq ?_
      | refine WS_then ?_
      | refine W_if rfl ?_
      | refine W_skip ?_
      | refine W_block ?_
      | ((refine W_region (id := 4) ?_) <;>
      (refine R_move (.int _ _) rfl rfl rfl ?_) <;>
      (refine R_field rfl rfl rfl ?_) <;>
      (refine R_load1 0 rfl rfl rfl rfl rfl rfl ?_) <;>
      (refine R_len rfl rfl rfl ?_) <;>
      (refine R_lss_t rfl rfl (by omega) rfl rfl ?_)))
    all_goals refine W_draw (fun _ => false) [0, 1, 2, 3, 4, 5, 6, 7, 8, 9, 10] (by kernel_rfl) (by kernel_rfl) (by kernel_rfl) (by kernel_rfl) ?_
    all_goals (refine WL_take 0 [1, 2, 3, 4, 5, 6, 7, 8, 9, 10] rfl (by kernel_rfl) rfl (D_field rfl rfl) ?_)
    all_goals (refine WL_take 1 [2, 3, 4, 5, 6, 7, 8, 9, 10] rfl (by kernel_rfl) rfl (D_load1 0 rfl rfl rfl rfl rfl) ?_)
    all_goals (refine WL_take 2 [3, 4, 5, 6, 7, 8, 9, 10] rfl (by kernel_rfl) rfl (D_move (.int _ _) rfl rfl) ?_)
    all_goals (refine WL_take 3 [4, 5, 6, 7, 8, 9, 10] rfl (by kernel_rfl) rfl (D_index rfl rfl (by omega) (by omega) rfl) ?_)
    all_goals (refine WL_take 4 [5, 6, 7, 8, 9, 10] rfl (by kernel_rfl) rfl (D_loadHA rfl (by assumption) rfl rfl) ?_)
    all_goals (refine WL_take 5 [6, 7, 8, 9, 10] rfl (by kernel_rfl) rfl (D_field rfl rfl) ?_)
    all_goals (refine WL_take 6 [7, 8, 9, 10] rfl (by kernel_rfl) rfl (D_load1 1 rfl rfl rfl rfl rfl) ?_)
    all_goals (refine WL_take 7 [8, 9, 10] rfl (by kernel_rfl) rfl (D_move (.int _ _) rfl rfl) ?_)
    all_goals (refine WL_take 8 [9, 10] rfl (by kernel_rfl) rfl (D_index rfl rfl (by omega) (by omega) rfl) ?_)
    all_goals (refine WL_take 9 [10] rfl (by kernel_rfl) rfl (D_loadHA rfl (by assumption) rfl rfl) ?_)
    all_goals (refine WL_take 10 [] rfl (by kernel_rfl) rfl (D_neqS false rfl rfl (by simp) rfl) ?_)
    all_goals refine WL_nil ?_
    -- left: [] ready: [] []
    repeat' (first
      | refine WS_end ?_
      | refine W_else rfl ?_
      | refine W_skip ?_
      | refine then_normal ?_
      | refine block_normal ?_
      | ((refine W_region (id := 5) ?_) <;>
      (refine R_move (.int _ _) rfl rfl rfl ?_) <;>
      (refine R_add rfl rfl (by omega) rfl rfl ?_) <;>
      (refine R_assign (.int _ _) rfl rfl rfl ?_)))
    exact ⟨i + 1, by omega, abs_mk ⟨rfl, rfl, ivq (by omega), trivial⟩ [0, 0] rfl, by omega⟩
  · repeat' (first
      | refine W_seq ?_
      | refine WS_then ?_
      | refine W_else rfl ?_
      | refine W_ret ?_
      | refine W_exit ?_
      | ((refine W_region (id := 4) ?_) <;>
      (refine R_move (.int _ _) rfl rfl rfl ?_) <;>
      (refine R_field rfl rfl rfl ?_) <;>
      (refine R_load1 0 rfl rfl rfl rfl rfl rfl ?_) <;>
      (refine R_len rfl rfl rfl ?_) <;>
      (refine R_lss_f rfl rfl (by omega) rfl rfl ?_))
      | ((refine W_region (id := 8) ?_) <;>
      (refine R_assign (.bool _) rfl rfl rfl ?_)))
    exact end1 rfl ⟨rfl, rfl⟩
set_option maxHeartbeats 1000000 in
theorem llEdits_same {va vb : Value} {es : List Edt} {h : LH} (ha : Sd h 3 va es EdR) (hb : Sd h 3 vb es EdR) (hl : es.length ≤ 100000) : Fn Tryz.prog A 37 [va, vb].toArray h (fun v h' => v = .bool true ∧ h' = h) := by
  obtain ⟨pa, ca, rfl, hpa, hda⟩ := ha
  obtain ⟨pb, cb, rfl, hpb, hdb⟩ := hb
  refine Fn_body (n := 26) (fn := Tryz.f37) Tryz.func37 rfl rfl rfl ?_
  repeat' (first
    | refine W_seq ?_
    | refine WS_then ?_
    | refine W_else rfl ?_
    | refine W_skip ?_
    | refine W_block ?_
    | ((refine W_region (id := 0) ?_) <;>
    (refine R_assign (.bool _) rfl rfl rfl ?_))
    | ((refine W_region (id := 1) ?_) <;>
    (refine R_move (.slice _ _ _) rfl rfl rfl ?_) <;>
    (refine R_len rfl rfl rfl ?_) <;>
    (refine R_move (.slice _ _ _) rfl rfl rfl ?_) <;>
    (refine R_len rfl rfl rfl ?_) <;>
    (refine R_neq_f rfl rfl (by omega) rfl rfl ?_))
    | ((refine W_region (id := 3) ?_) <;>
    (refine R_assign (.int _ _) rfl rfl rfl ?_)))
  refine W_loopA (ι := Nat) (fun i => es.length - i) (fun i => [(0, .slice pa es.length ca), (1, .slice pb es.length cb), (5, .int .i64 i)]) (fun _ => []) (fun _ => h)
    (fun i => i ≤ es.length) 0 (by omega) (abs_mk ⟨rfl, rfl, rfl, trivial⟩ [] rfl) ?_
  intro i e hi
  by_cases hlt : i < es.length
  · have hx : es[i]? = some es[i] := List.getElem?_eq_getElem hlt
    generalize es[i] = x at hx
    obtain ⟨at1, ⟨k, l⟩⟩ := x
    obtain ⟨b, o, vs, rfl, rfl, hat⟩ := hda i _ hx
    obtain ⟨b', o', vs', rfl, rfl, hat'⟩ := hdb i _ hx
    simp only [edV] at hat hat'
    repeat' (first
      | refine W_seq ?_
      | refine WS_then ?_
      | refine W_if rfl ?_
      | refine W_skip ?_
      | refine W_block ?_
      | ((refine W_region (id := 4) ?_) <;>
      (refine R_move (.int _ _) rfl rfl rfl ?_) <;>
      (refine R_move (.slice _ _ _) rfl rfl rfl ?_) <;>
      (refine R_len rfl rfl rfl ?_) <;>
      (refine R_lss_t rfl rfl (by omega) rfl rfl ?_)))
    all_goals refine W_draw (fun _ => false) [0, 1, 2, 3, 4, 5, 6, 7, 8] (by kernel_rfl) (by kernel_rfl) (by kernel_rfl) (by kernel_rfl) ?_
    all_goals (refine WL_take 0 [1, 2, 3, 4, 5, 6, 7, 8] rfl (by kernel_rfl) rfl (D_move (.slice _ _ _) rfl rfl) ?_)
    all_goals (refine WL_take 1 [2, 3, 4, 5, 6, 7, 8] rfl (by kernel_rfl) rfl (D_move (.int _ _) rfl rfl) ?_)
    all_goals (refine WL_take 2 [3, 4, 5, 6, 7, 8] rfl (by kernel_rfl) rfl (D_index rfl rfl (by omega) (by omega) rfl) ?_)
    all_goals (refine WL_take 3 [4, 5, 6, 7, 8] rfl (by kernel_rfl) rfl (D_loadHA rfl (by assumption) rfl rfl) ?_)
    all_goals (refine WL_take 4 [5, 6, 7, 8] rfl (by kernel_rfl) rfl (D_move (.slice _ _ _) rfl rfl) ?_)
    all_goals (refine WL_take 5 [6, 7, 8] rfl (by kernel_rfl) rfl (D_move (.int _ _) rfl rfl) ?_)
    all_goals (refine WL_take 6 [7, 8] rfl (by kernel_rfl) rfl (D_index rfl rfl (by omega) (by omega) rfl) ?_)
    all_goals (refine WL_take 7 [8] rfl (by kernel_rfl) rfl (D_loadHA rfl (by assumption) rfl rfl) ?_)
    all_goals (refine WL_take 8 [] rfl (by kernel_rfl) rfl (D_neqE false rfl rfl (by simp) rfl) ?_)
    all_goals refine WL_nil ?_
    -- left: [] ready: [] []
    repeat' (first
      | refine WS_end ?_
      | refine W_else rfl ?_
      | refine W_skip ?_
      | refine then_normal ?_
      | refine block_normal ?_
      | ((refine W_region (id := 5) ?_) <;>
      (refine R_move (.int _ _) rfl rfl rfl ?_) <;>
      (refine R_add rfl rfl (by omega) rfl rfl ?_) <;>
      (refine R_assign (.int _ _) rfl rfl rfl ?_)))
    exact ⟨i + 1, by omega, abs_mk ⟨rfl, rfl, ivq (by omega), trivial⟩ [] rfl, by omega⟩
  · repeat' (first
      | refine W_seq ?_
      | refine WS_then ?_
      | refine W_else rfl ?_
      | refine W_ret ?_
      | refine W_exit ?_
      | ((refine W_region (id := 4) ?_) <;>
      (refine R_move (.int _ _) rfl rfl rfl ?_) <;>
      (refine R_move (.slice _ _ _) rfl rfl rfl ?_) <;>
      (refine R_len rfl rfl rfl ?_) <;>
      (refine R_lss_f rfl rfl (by omega) rfl rfl ?_))
      | ((refine W_region (id := 8) ?_) <;>
      (refine R_assign (.bool _) rfl rfl rfl ?_)))
    exact end1 rfl ⟨rfl, rfl⟩
theorem llInts_same {va vb : Value} {xs : List Int} {h : LH} (ha : Sd h 1 va xs IntR) (hb : Sd h 1 vb xs IntR) (hl1 : xs.length ≤ 1000000) : Fn Tryz.prog A 36 [va, vb].toArray h (fun v h' => v = .bool true ∧ h' = h) :=
  Fn.mono (llInts_fn (main := main) (lo := lo) ha hb hl1) fun v h' ⟨a, b⟩ => ⟨by rw [a]; simp, b⟩
set_option maxHeartbeats 1000000 in
theorem llRows_same {va vb : Value} {xs : List (List Int)} {h : LH} (ha : Sd h 1 va xs (RowR h)) (hb : Sd h 1 vb xs (RowR h)) (hl : xs.length ≤ 100000) (hl2 : ∀ x ∈ xs, x.length ≤ 100000) : Fn Tryz.prog A 113 [va, vb].toArray h (fun v h' => v = .bool true ∧ h' = h) := by
  obtain ⟨pa, ca, rfl, hpa, hda⟩ := ha
  obtain ⟨pb, cb, rfl, hpb, hdb⟩ := hb
  refine Fn_body (n := 27) (fn := Tryz.f113) Tryz.func113 rfl rfl rfl ?_
  repeat' (first
    | refine W_seq ?_
    | refine WS_then ?_
    | refine W_else rfl ?_
    | refine W_skip ?_
    | refine W_block ?_
    | ((refine W_region (id := 0) ?_) <;>
    (refine R_assign (.bool _) rfl rfl rfl ?_))
    | ((refine W_region (id := 1) ?_) <;>
    (refine R_move (.slice _ _ _) rfl rfl rfl ?_) <;>
    (refine R_len rfl rfl rfl ?_) <;>
    (refine R_move (.slice _ _ _) rfl rfl rfl ?_) <;>
    (refine R_len rfl rfl rfl ?_) <;>
    (refine R_neq_f rfl rfl (by omega) rfl rfl ?_))
    | ((refine W_region (id := 3) ?_) <;>
    (refine R_assign (.int _ _) rfl rfl rfl ?_)))
  refine W_loopA (ι := Nat) (fun i => xs.length - i) (fun i => [(0, .slice pa xs.length ca), (1, .slice pb xs.length cb), (5, .int .i64 i)]) (fun _ => []) (fun _ => h)
    (fun i => i ≤ xs.length) 0 (by omega) (abs_mk ⟨rfl, rfl, rfl, trivial⟩ [] rfl) ?_
  intro i e hi
  by_cases hlt : i < xs.length
  · have hx : xs[i]? = some xs[i] := List.getElem?_eq_getElem hlt
    generalize xs[i] = x at hx
    obtain ⟨b, o, vs, rfl, ⟨s1, rfl, hs1⟩, hat⟩ := hda i _ hx
    obtain ⟨b', o', vs', rfl, ⟨s2, rfl, hs2⟩, hat'⟩ := hdb i _ hx
    have hxl := hl2 x (List.mem_of_getElem? hx)
    repeat' (first
      | refine W_seq ?_
      | refine WS_then ?_
      | refine W_if rfl ?_
      | refine W_skip ?_
      | refine W_block ?_
      | ((refine W_region (id := 4) ?_) <;>
      (refine R_move (.int _ _) rfl rfl rfl ?_) <;>
      (refine R_move (.slice _ _ _) rfl rfl rfl ?_) <;>
      (refine R_len rfl rfl rfl ?_) <;>
      (refine R_lss_t rfl rfl (by omega) rfl rfl ?_)))
    all_goals refine W_draw (fun _ => false) [0, 1, 2, 3, 4, 5, 6, 7, 8, 9] (by kernel_rfl) (by kernel_rfl) (by kernel_rfl) (by kernel_rfl) ?_
    all_goals (refine WL_take 0 [1, 2, 3, 4, 5, 6, 7, 8, 9] rfl (by kernel_rfl) rfl (D_move (.slice _ _ _) rfl rfl) ?_)
    all_goals (refine WL_take 1 [2, 3, 4, 5, 6, 7, 8, 9] rfl (by kernel_rfl) rfl (D_move (.int _ _) rfl rfl) ?_)
    all_goals (refine WL_take 2 [3, 4, 5, 6, 7, 8, 9] rfl (by kernel_rfl) rfl (D_index rfl rfl (by omega) (by omega) rfl) ?_)
    all_goals (refine WL_take 3 [4, 5, 6, 7, 8, 9] rfl (by kernel_rfl) rfl (D_loadH1 rfl (by assumption) rfl rfl) ?_)
    all_goals (refine WL_take 4 [5, 6, 7, 8, 9] rfl (by kernel_rfl) rfl (D_move (.slice _ _ _) rfl rfl) ?_)
    all_goals (refine WL_take 5 [6, 7, 8, 9] rfl (by kernel_rfl) rfl (D_move (.int _ _) rfl rfl) ?_)
    all_goals (refine WL_take 6 [7, 8, 9] rfl (by kernel_rfl) rfl (D_index rfl rfl (by omega) (by omega) rfl) ?_)
    all_goals (refine WL_take 7 [8, 9] rfl (by kernel_rfl) rfl (D_loadH1 rfl (by assumption) rfl rfl) ?_)
    all_goals (refine WL_callP 8 [9] rfl (by kernel_rfl) rfl (llInts_same (by assumption) (by assumption) (by omega)) rfl rfl rfl ?_; rintro _ _ ⟨rfl, hq⟩; replace hq := hq.symm; subst hq)
    all_goals (refine WL_take 9 [] rfl (by kernel_rfl) rfl (D_not _ rfl rfl rfl) ?_)
    all_goals refine WL_nil ?_
    -- left: [] ready: [] []
    repeat' (first
      | refine WS_end ?_
      | refine W_else rfl ?_
      | refine W_skip ?_
      | refine then_normal ?_
      | refine block_normal ?_
      | ((refine W_region (id := 5) ?_) <;>
      (refine R_move (.int _ _) rfl rfl rfl ?_) <;>
      (refine R_add rfl rfl (by omega) rfl rfl ?_) <;>
      (refine R_assign (.int _ _) rfl rfl rfl ?_)))
    exact ⟨i + 1, by omega, abs_mk ⟨rfl, rfl, ivq (by omega), trivial⟩ [] rfl, by omega⟩
  · repeat' (first
      | refine W_seq ?_
      | refine WS_then ?_
      | refine W_else rfl ?_
      | refine W_ret ?_
      | refine W_exit ?_
      | ((refine W_region (id := 4) ?_) <;>
      (refine R_move (.int _ _) rfl rfl rfl ?_) <;>
      (refine R_move (.slice _ _ _) rfl rfl rfl ?_) <;>
      (refine R_len rfl rfl rfl ?_) <;>
      (refine R_lss_f rfl rfl (by omega) rfl rfl ?_))
      | ((refine W_region (id := 8) ?_) <;>
      (refine R_assign (.bool _) rfl rfl rfl ?_)))
    exact end1 rfl ⟨rfl, rfl⟩
end Go.Lu
