/- new keepers and worlds -/
import Derived.Test.YtmjmhaoikilagaaGreatDoorU6
set_option linter.unusedVariables false
set_option linter.unusedSectionVars false
namespace Go.Lu
open Go.Proofs
variable {main : Bool} {lo : Nat → Prop} {A : (Goroutine → LH → Prop) → Prop} [hA : Adm Tryz.prog main lo A]
theorem KeepC.shape {H : LH} {w c e p s : Value} {k : Kpr} (x : KeepC H w c e p s k) : ∃ q1 c1 q2 c2 q3 c3 q4 c4, w = .int .i64 k.first.wide ∧ c = .slice q1 k.first.cells.length c1 ∧ e = .slice q2 k.edits.length c2 ∧ p = .slice q3 k.parts.length c3 ∧ s = .slice q4 k.shown.length c4 := by
  obtain ⟨⟨h1, h2⟩, ⟨q2, c2, h3, _⟩, ⟨q3, c3, h4, _⟩, ⟨q4, c4, h5, _⟩⟩ := x
  obtain ⟨c1, e, _, _⟩ := h2
  injection e with e
  have e := congrArg Array.toList e
  simp at e
  exact ⟨_, _, _, _, _, _, _, _, e.1, e.2, h3, h4, h5⟩
include hA
set_option maxHeartbeats 1000000 in
theorem SKeepNew_f {gv : Value} {g : Grd} {h : LH} (k : Int) (hs : GridD h gv g) (hl : g.cells.length ≤ 50) (hno : gridOk g = false ∨ k < 1 ∨ 3 < k) : Fn Tryz.prog A 41 [gv, .int .i64 k].toArray h
    (fun v h' => (∃ kv, v = .tuple [kv, .bool false].toArray ∧ KeepD h' kv keep0) ∧ LE h h') := by
  have hG := hs
  obtain ⟨p, c, rfl, hp, hd⟩ := hs
  refine Fn_body (n := 35) (fn := Tryz.f41) Tryz.func41 rfl rfl rfl ?_
  cases hg : gridOk g with
  | false =>
    repeat' (first
      | refine W_seq ?_
      | refine WS_then ?_
      | refine W_if rfl ?_
      | refine W_ret ?_
      | refine then_ret ?_
      | ((refine W_region (id := 0) ?_) <;>
      (refine R_box (.agg _) [(.int _ _), (.slice _ _ _)] rfl rfl rfl rfl ?_; intro bk) <;>
      (refine R_alloc rfl rfl ?_; intro bk) <;>
      (refine R_assign (.bool _) rfl rfl rfl ?_))
      | ((refine W_region (id := 1) ?_) <;>
      (refine R_loadA 1 [(.int _ _), (.slice _ _ _)] rfl rfl rfl rfl rfl rfl ?_) <;>
      (refine R_call (SGridOk_f (by assumption) (by assumption) (by omega)) rfl rfl rfl rfl ?_; rintro _ _ ⟨rfl, hq⟩; replace hq := hq.symm; subst hq) <;>
      (refine R_not _ rfl rfl rfl rfl ?_) <;>
      (refine R_move (.bool _) rfl rfl rfl ?_) <;>
      (refine R_skip rfl rfl ?_) <;>
      (refine R_skip rfl rfl ?_) <;>
      (refine R_skip rfl rfl ?_) <;>
      (refine R_pick (.bool _) rfl rfl rfl rfl ?_))
      | ((refine W_region (id := 2) ?_) <;>
      (refine R_build [(.int _ _), (.slice _ _ _), (.slice _ _ _), (.slice _ _ _), (.slice _ _ _)] rfl rfl rfl ?_) <;>
      (refine R_store 0 (.agg _) [(.int _ _), (.slice _ _ _), (.slice _ _ _), (.slice _ _ _), (.slice _ _ _)] _ _ rfl rfl rfl rfl rfl rfl rfl rfl rfl rfl ?_; dsimp only [splice, List.set]) <;>
      (refine R_assign (.bool _) rfl rfl rfl ?_)))
    exact endRle _ (LE.refl _) rfl (.cons (.cellA 0 [.int _ _, .slice _ _ _, .slice _ _ _, .slice _ _ _, .slice _ _ _] rfl rfl (r := []) rfl rfl) (.cons (.tmp rfl) .nil)) ⟨⟨_, rfl, _, _, _, _, _, rfl, keepC0 _⟩, LE.refl _⟩
  | true =>
    have hk := gOk hg
    have hno2 : ¬ (1 ≤ k ∧ k ≤ 3) := by
      rcases hno with h1 | h1 | h1
      · rw [hg] at h1; cases h1
      · omega
      · omega
    repeat' (first
      | refine W_seq ?_
      | refine WS_then ?_
      | refine W_if rfl ?_
      | refine W_ret ?_
      | refine then_ret ?_
      | ((refine W_region (id := 0) ?_) <;>
      (refine R_box (.agg _) [(.int _ _), (.slice _ _ _)] rfl rfl rfl rfl ?_; intro bk) <;>
      (refine R_alloc rfl rfl ?_; intro bk) <;>
      (refine R_assign (.bool _) rfl rfl rfl ?_))
      | ((refine W_region (id := 1) ?_) <;>
      (refine R_loadA 1 [(.int _ _), (.slice _ _ _)] rfl rfl rfl rfl rfl rfl ?_) <;>
      (refine R_call (SGridOk_t (by assumption) (by assumption)) rfl rfl rfl rfl ?_; rintro _ _ ⟨rfl, hq⟩; replace hq := hq.symm; subst hq) <;>
      (refine R_not _ rfl rfl rfl rfl ?_) <;>
      (refine R_move (.bool _) rfl rfl rfl ?_) <;>
      (refine R_move (.int _ _) rfl rfl rfl ?_) <;>
      (refine R_call (l6In_f _ _ _ _ (by omega)) rfl rfl rfl rfl ?_; rintro _ _ ⟨rfl, hq⟩; replace hq := hq.symm; subst hq) <;>
      (refine R_not _ rfl rfl rfl rfl ?_) <;>
      (refine R_pick (.bool _) rfl rfl rfl rfl ?_))
      | ((refine W_region (id := 2) ?_) <;>
      (refine R_build [(.int _ _), (.slice _ _ _), (.slice _ _ _), (.slice _ _ _), (.slice _ _ _)] rfl rfl rfl ?_) <;>
      (refine R_store 0 (.agg _) [(.int _ _), (.slice _ _ _), (.slice _ _ _), (.slice _ _ _), (.slice _ _ _)] _ _ rfl rfl rfl rfl rfl rfl rfl rfl rfl rfl ?_; dsimp only [splice, List.set]) <;>
      (refine R_assign (.bool _) rfl rfl rfl ?_)))
    exact endRle _ (LE.refl _) rfl (.cons (.cellA 0 [.int _ _, .slice _ _ _, .slice _ _ _, .slice _ _ _, .slice _ _ _] rfl rfl (r := []) rfl rfl) (.cons (.tmp rfl) .nil)) ⟨⟨_, rfl, _, _, _, _, _, rfl, keepC0 _⟩, LE.refl _⟩
set_option maxHeartbeats 1000000 in
theorem KeepNew_f {gv : Value} {g : Grd} {h : LH} (k : Int) (hs : GridD h gv g) (hno : gridOk g = false ∨ k < 1 ∨ 3 < k) : Fn Tryz.prog A 42 [gv, .int .i64 k].toArray h
    (fun v h' => (∃ kv, v = .tuple [kv, .bool false].toArray ∧ KeepD h' kv keep0) ∧ LE h h') := by
  have hG := hs
  obtain ⟨p, c, rfl, hp, hd⟩ := hs
  refine Fn_body (n := 23) (fn := Tryz.f42) Tryz.func42 rfl rfl rfl ?_
  cases hg : gridOk g with
  | false =>
    repeat' (first
      | refine W_seq ?_
      | refine WS_then ?_
      | refine W_if rfl ?_
      | refine W_ret ?_
      | refine then_ret ?_
      | ((refine W_region (id := 0) ?_) <;>
      (refine R_box (.agg _) [(.int _ _), (.slice _ _ _)] rfl rfl rfl rfl ?_; intro bk) <;>
      (refine R_alloc rfl rfl ?_; intro bk) <;>
      (refine R_assign (.bool _) rfl rfl rfl ?_))
      | ((refine W_region (id := 1) ?_) <;>
      (refine R_loadA 1 [(.int _ _), (.slice _ _ _)] rfl rfl rfl rfl rfl rfl ?_) <;>
      (refine R_call (GridOk_f (by assumption) (by assumption)) rfl rfl rfl rfl ?_; rintro _ _ ⟨rfl, hq⟩; replace hq := hq.symm; subst hq) <;>
      (refine R_not _ rfl rfl rfl rfl ?_) <;>
      (refine R_move (.bool _) rfl rfl rfl ?_) <;>
      (refine R_skip rfl rfl ?_) <;>
      (refine R_skip rfl rfl ?_) <;>
      (refine R_pick (.bool _) rfl rfl rfl rfl ?_) <;>
      (refine R_move (.bool _) rfl rfl rfl ?_) <;>
      (refine R_skip rfl rfl ?_) <;>
      (refine R_skip rfl rfl ?_) <;>
      (refine R_pick (.bool _) rfl rfl rfl rfl ?_))
      | ((refine W_region (id := 2) ?_) <;>
      (refine R_build [(.int _ _), (.slice _ _ _), (.slice _ _ _), (.slice _ _ _), (.slice _ _ _)] rfl rfl rfl ?_) <;>
      (refine R_store 0 (.agg _) [(.int _ _), (.slice _ _ _), (.slice _ _ _), (.slice _ _ _), (.slice _ _ _)] _ _ rfl rfl rfl rfl rfl rfl rfl rfl rfl rfl ?_; dsimp only [splice, List.set]) <;>
      (refine R_assign (.bool _) rfl rfl rfl ?_)))
    exact endRle _ (LE.refl _) rfl (.cons (.cellA 0 [.int _ _, .slice _ _ _, .slice _ _ _, .slice _ _ _, .slice _ _ _] rfl rfl (r := []) rfl rfl) (.cons (.tmp rfl) .nil)) ⟨⟨_, rfl, _, _, _, _, _, rfl, keepC0 _⟩, LE.refl _⟩
  | true =>
    have hk := gOk hg
    have hno2 : k < 1 ∨ 3 < k := by
      rcases hno with h1 | h1
      · rw [hg] at h1; cases h1
      · exact h1
    rcases hno2 with hno2 | hno2
    · repeat' (first
        | refine W_seq ?_
        | refine WS_then ?_
        | refine W_if rfl ?_
        | refine W_ret ?_
        | refine then_ret ?_
        | ((refine W_region (id := 0) ?_) <;>
        (refine R_box (.agg _) [(.int _ _), (.slice _ _ _)] rfl rfl rfl rfl ?_; intro bk) <;>
        (refine R_alloc rfl rfl ?_; intro bk) <;>
        (refine R_assign (.bool _) rfl rfl rfl ?_))
        | ((refine W_region (id := 1) ?_) <;>
        (refine R_loadA 1 [(.int _ _), (.slice _ _ _)] rfl rfl rfl rfl rfl rfl ?_) <;>
        (refine R_call (GridOk_t (by assumption) (by assumption)) rfl rfl rfl rfl ?_; rintro _ _ ⟨rfl, hq⟩; replace hq := hq.symm; subst hq) <;>
        (refine R_not _ rfl rfl rfl rfl ?_) <;>
        (refine R_move (.bool _) rfl rfl rfl ?_) <;>
        (refine R_move (.int _ _) rfl rfl rfl ?_) <;>
        (refine R_lss_t rfl rfl (by omega) rfl rfl ?_) <;>
        (refine R_pick (.bool _) rfl rfl rfl rfl ?_) <;>
        (refine R_move (.bool _) rfl rfl rfl ?_) <;>
        (refine R_skip rfl rfl ?_) <;>
        (refine R_skip rfl rfl ?_) <;>
        (refine R_pick (.bool _) rfl rfl rfl rfl ?_))
        | ((refine W_region (id := 2) ?_) <;>
        (refine R_build [(.int _ _), (.slice _ _ _), (.slice _ _ _), (.slice _ _ _), (.slice _ _ _)] rfl rfl rfl ?_) <;>
        (refine R_store 0 (.agg _) [(.int _ _), (.slice _ _ _), (.slice _ _ _), (.slice _ _ _), (.slice _ _ _)] _ _ rfl rfl rfl rfl rfl rfl rfl rfl rfl rfl ?_; dsimp only [splice, List.set]) <;>
        (refine R_assign (.bool _) rfl rfl rfl ?_)))
      exact endRle _ (LE.refl _) rfl (.cons (.cellA 0 [.int _ _, .slice _ _ _, .slice _ _ _, .slice _ _ _, .slice _ _ _] rfl rfl (r := []) rfl rfl) (.cons (.tmp rfl) .nil)) ⟨⟨_, rfl, _, _, _, _, _, rfl, keepC0 _⟩, LE.refl _⟩
    · repeat' (first
        | refine W_seq ?_
        | refine WS_then ?_
        | refine W_if rfl ?_
        | refine W_ret ?_
        | refine then_ret ?_
        | ((refine W_region (id := 0) ?_) <;>
        (refine R_box (.agg _) [(.int _ _), (.slice _ _ _)] rfl rfl rfl rfl ?_; intro bk) <;>
        (refine R_alloc rfl rfl ?_; intro bk) <;>
        (refine R_assign (.bool _) rfl rfl rfl ?_))
        | ((refine W_region (id := 1) ?_) <;>
        (refine R_loadA 1 [(.int _ _), (.slice _ _ _)] rfl rfl rfl rfl rfl rfl ?_) <;>
        (refine R_call (GridOk_t (by assumption) (by assumption)) rfl rfl rfl rfl ?_; rintro _ _ ⟨rfl, hq⟩; replace hq := hq.symm; subst hq) <;>
        (refine R_not _ rfl rfl rfl rfl ?_) <;>
        (refine R_move (.bool _) rfl rfl rfl ?_) <;>
        (refine R_move (.int _ _) rfl rfl rfl ?_) <;>
        (refine R_lss_f rfl rfl (by omega) rfl rfl ?_) <;>
        (refine R_pick (.bool _) rfl rfl rfl rfl ?_) <;>
        (refine R_move (.bool _) rfl rfl rfl ?_) <;>
        (refine R_move (.int _ _) rfl rfl rfl ?_) <;>
        (refine R_gtr_t rfl rfl (by omega) rfl rfl ?_) <;>
        (refine R_pick (.bool _) rfl rfl rfl rfl ?_))
        | ((refine W_region (id := 2) ?_) <;>
        (refine R_build [(.int _ _), (.slice _ _ _), (.slice _ _ _), (.slice _ _ _), (.slice _ _ _)] rfl rfl rfl ?_) <;>
        (refine R_store 0 (.agg _) [(.int _ _), (.slice _ _ _), (.slice _ _ _), (.slice _ _ _), (.slice _ _ _)] _ _ rfl rfl rfl rfl rfl rfl rfl rfl rfl rfl ?_; dsimp only [splice, List.set]) <;>
        (refine R_assign (.bool _) rfl rfl rfl ?_)))
      exact endRle _ (LE.refl _) rfl (.cons (.cellA 0 [.int _ _, .slice _ _ _, .slice _ _ _, .slice _ _ _, .slice _ _ _] rfl rfl (r := []) rfl rfl) (.cons (.tmp rfl) .nil)) ⟨⟨_, rfl, _, _, _, _, _, rfl, keepC0 _⟩, LE.refl _⟩
set_option maxHeartbeats 1000000 in
theorem KeepNew_t {gv : Value} {g : Grd} {h : LH} (k : Int) (hs : GridD h gv g) (hk : GOk g) (h1 : 1 ≤ k) (h3 : k ≤ 3) : Fn Tryz.prog A 42 [gv, .int .i64 k].toArray h
    (fun v h' => (∃ kv, v = .tuple [kv, .bool true].toArray ∧ KeepD h' kv (keepNew g k.toNat)) ∧ LE h h') := by
  have hG := hs
  obtain ⟨p, c, rfl, hp, hd⟩ := hs
  have h25 := hk.len25
  refine Fn_body (n := 23) (fn := Tryz.f42) Tryz.func42 rfl rfl rfl ?_
  repeat' (first
    | refine W_seq ?_
    | refine WS_then ?_
    | refine W_else rfl ?_
    | refine W_skip ?_
    | ((refine W_region (id := 0) ?_) <;>
    (refine R_box (.agg _) [(.int _ _), (.slice _ _ _)] rfl rfl rfl rfl ?_; intro bk) <;>
    (refine R_alloc rfl rfl ?_; intro bk) <;>
    (refine R_assign (.bool _) rfl rfl rfl ?_))
    | ((refine W_region (id := 1) ?_) <;>
    (refine R_loadA 1 [(.int _ _), (.slice _ _ _)] rfl rfl rfl rfl rfl rfl ?_) <;>
    (refine R_call (GridOk_t (by assumption) (by assumption)) rfl rfl rfl rfl ?_; rintro _ _ ⟨rfl, hq⟩; replace hq := hq.symm; subst hq) <;>
    (refine R_not _ rfl rfl rfl rfl ?_) <;>
    (refine R_move (.bool _) rfl rfl rfl ?_) <;>
    (refine R_move (.int _ _) rfl rfl rfl ?_) <;>
    (refine R_lss_f rfl rfl (by omega) rfl rfl ?_) <;>
    (refine R_pick (.bool _) rfl rfl rfl rfl ?_) <;>
    (refine R_move (.bool _) rfl rfl rfl ?_) <;>
    (refine R_move (.int _ _) rfl rfl rfl ?_) <;>
    (refine R_gtr_f rfl rfl (by omega) rfl rfl ?_) <;>
    (refine R_pick (.bool _) rfl rfl rfl rfl ?_)))
  all_goals refine W_draw (fun i => Nat.beq i 5) [0, 1, 2, 3, 4, 5, 6] (by kernel_rfl) (by kernel_rfl) (by kernel_rfl) (by kernel_rfl) ?_
  all_goals (refine WL_take 0 [1, 2, 3, 4, 5, 6] rfl (by kernel_rfl) rfl (D_loadA 1 [(.int _ _), (.slice _ _ _)] rfl rfl rfl rfl rfl) ?_)
  all_goals (refine WL_take 2 [1, 3, 4, 5, 6] rfl (by kernel_rfl) rfl (D_move (.int _ _) rfl rfl) ?_)
  -- left: [1, 3, 4, 5, 6] ready: [1, 3] ['call', 'makeSlice']
  have hfin : ∀ {e' : Env} {bm : Nat} {sv : Value} {Bg LL : OL} {h' : LH}, Bc 61 2 sv Bg (g.cells.flatMap celV) → LE h h' → Sub (Bg ++ [(bm, bx (List.flatten (List.replicate k.toNat [.bool false, .int .i64 0, .slice none 0 0])) 51)]) LL →
      (∃ r, LL[1]? = some (r, bx [.int .i64 g.wide, sv, .slice none 0 0, .slice (some ⟨bm, 0, none⟩) k.toNat k.toNat, .slice none 0 0] 32) ∧ e' 4 = .pointer (some ⟨r, 0, none⟩)) → e' 5 = .bool true →
      EndS Tryz.prog lo Tryz.f42 23 (retOnly fun v h' => (∃ kv, v = .tuple [kv, .bool true].toArray ∧ KeepD h' kv (keepNew g k.toNat)) ∧ LE h h') .ret ⟨e', [], LL, h'⟩ := by
    rintro e' bm sv Bg LL h' hBg hle hsub ⟨r, hr, h4⟩ h5
    refine endRD (Bg ++ [(bm, bx (List.flatten (List.replicate k.toNat [.bool false, .int .i64 0, .slice none 0 0])) 51)]) hsub rfl (.cons (.cellA 1 [_, _, _, _, _] h4 hr (r := []) rfl rfl) (.cons (.tmp h5) .nil)) fun ha hle2 => ⟨⟨_, rfl, _, _, _, _, _, rfl, ?_⟩, hle.trans hle2⟩
    have hBm : Bc 51 3 (.slice (some ⟨bm, 0, none⟩) k.toNat k.toNat) [(bm, bx (List.flatten (List.replicate k.toNat [.bool false, .int .i64 0, .slice none 0 0])) 51)] ((List.replicate k.toNat (⟨false, 0, []⟩ : Prt)).flatMap fun _ => [.bool false, .int .i64 0, .slice none 0 0]) := by
      have e : (List.replicate k.toNat (⟨false, 0, []⟩ : Prt)).flatMap (fun _ => ([.bool false, .int .i64 0, .slice none 0 0] : List Value)) = List.flatten (List.replicate k.toNat [.bool false, .int .i64 0, .slice none 0 0]) := by
        rw [List.flatMap_def, List.map_replicate]
      rw [e]
      exact Bc.full (by simp)
    have hp0 := Bc.sd hBm (fun _ => rfl) (by omega) h'
    have hle3 := LE.ov ha.left
    rw [ov_append]
    exact ⟨grid_bc hBg _, sd_nil _ _ _, hp0.le hle3 fun x hx vs hv => by
      obtain rfl := (List.mem_replicate.1 hx).2
      exact ⟨_, hv, sd_nil _ _ _⟩, sd_nil _ _ _⟩
  refine WL_two 1 3 [3, 4, 5, 6] [1, 4, 5, 6] rfl rfl (by kernel_rfl) rfl rfl ?_ ?_
  · refine SI_callN (main := main) (A := A) (gridCopy_fn (main := main) (lo := lo) (A := A) hG (by omega)) (fun _ _ _ h => h.2) rfl rfl rfl ?_
    rintro _ Bg h1' ⟨⟨sv, rfl, hBg⟩, hle⟩
    have hBg2 := hBg
    obtain ⟨q, ln, cp, rfl, hln⟩ := hBg.len
    all_goals (refine WL_makeSlice 3 [4, 5, 6] rfl (by kernel_rfl) rfl rfl rfl (by omega) (by omega) (by omega) rfl rfl rfl rfl ?_; intro bk)
    all_goals (refine WL_take 4 [5, 6] rfl (by kernel_rfl) rfl (D_build [(.int _ _), (.slice _ _ _), (.slice _ _ _), (.slice _ _ _), (.slice _ _ _)] rfl rfl) ?_)
    all_goals (refine WL_store 5 [6] 1 (.agg _) [(.int _ _), (.slice _ _ _), (.slice _ _ _), (.slice _ _ _), (.slice _ _ _)] _ _ rfl (by kernel_rfl) rfl rfl rfl rfl rfl rfl rfl rfl rfl rfl rfl rfl ?_; dsimp only [splice, List.set])
    all_goals (refine WL_take 6 [] rfl (by kernel_rfl) rfl (D_assign (.bool _) rfl rfl) ?_)
    all_goals refine WL_nil ?_
    -- left: [] ready: [] []
    repeat' (refine W_ret ?_)
    exact hfin hBg2 hle (sub_segs [2, 0] [[_], [_, _], Bg] [Bg, [_]] rfl) ⟨_, rfl, rfl⟩ rfl
  · refine SI_makeSlice rfl rfl (by omega) (by omega) (by omega) rfl rfl rfl rfl ?_
    intro bm
    refine WL_callN (main := main) (A := A) 1 [4, 5, 6] rfl (by kernel_rfl) rfl (gridCopy_fn (main := main) (lo := lo) (A := A) hG (by omega)) (fun _ _ _ h => h.2) rfl rfl rfl ?_
    rintro _ Bg h1' ⟨⟨sv, rfl, hBg⟩, hle⟩
    have hBg2 := hBg
    obtain ⟨q, ln, cp, rfl, hln⟩ := hBg.len
    all_goals (refine WL_take 4 [5, 6] rfl (by kernel_rfl) rfl (D_build [(.int _ _), (.slice _ _ _), (.slice _ _ _), (.slice _ _ _), (.slice _ _ _)] rfl rfl) ?_)
    all_goals (refine WL_store 5 [6] 1 (.agg _) [(.int _ _), (.slice _ _ _), (.slice _ _ _), (.slice _ _ _), (.slice _ _ _)] _ _ rfl (by kernel_rfl) rfl rfl rfl rfl rfl rfl rfl rfl rfl rfl rfl rfl ?_; dsimp only [splice, List.set])
    all_goals (refine WL_take 6 [] rfl (by kernel_rfl) rfl (D_assign (.bool _) rfl rfl) ?_)
    all_goals refine WL_nil ?_
    -- left: [] ready: [] []
    repeat' (refine W_ret ?_)
    exact hfin hBg2 hle (sub_segs [2, 0] [[_], [_, _], Bg] [Bg, [_]] rfl) ⟨_, rfl, rfl⟩ rfl
/-! ### new worlds -/
omit hA in
def ptrV : List Value := [.bool true, .bool false, .int .i64 0, .int .i64 0, .slice none 0 0, .slice none 0 0, .slice none 0 0]
omit hA in
theorem ptrV_len {n : Nat} : ((List.replicate n ptr0).flatMap fun _ => ptrV).length = n * 7 := by rw [flat_len (f := fun _ : Ptr => ptrV) (sz := 7) (fun _ => rfl), List.length_replicate]
omit hA in
theorem ptr_sd {n : Nat} {v : Value} {B : OL} (hB : Bc 45 7 v B ((List.replicate n ptr0).flatMap fun _ => ptrV)) (h : LH) : Sd (ov B h) 7 v (List.replicate n ptr0) (PtrR (ov B h)) :=
  (Bc.sd (f := fun _ : Ptr => ptrV) hB (fun _ => rfl) (by omega) h).le (LE.refl _) fun x hx vs hv => by
    obtain rfl := (List.mem_replicate.1 hx).2
    exact ⟨_, _, _, _, hv, grid0 _, sd_nil _ _ _, sd_nil _ _ _⟩
set_option maxHeartbeats 2000000 in
theorem SWorldNew_t {gv : Value} {g : Grd} {h : LH} (k : Int) (hs : GridD h gv g) (hk : GOk g) (h1 : 1 ≤ k) (h3 : k ≤ 3) : Fn Tryz.prog A 12 [gv, .int .i64 k].toArray h
    (fun v h' => (∃ kv, v = .tuple [kv, .bool true].toArray ∧ WorldD h' kv (worldNew g k.toNat)) ∧ LE h h') := by
  have hG := hs
  obtain ⟨p, c, rfl, hp, hd⟩ := hs
  refine Fn_body (n := 34) (fn := Tryz.f12) Tryz.func12 rfl rfl rfl ?_
  repeat' (first
    | refine W_seq ?_
    | refine WS_then ?_
    | ((refine W_region (id := 0) ?_) <;>
    (refine R_box (.agg _) [(.int _ _), (.slice _ _ _)] rfl rfl rfl rfl ?_; intro bk) <;>
    (refine R_alloc rfl rfl ?_; intro bk) <;>
    (refine R_assign (.bool _) rfl rfl rfl ?_)))
  refine W_region (id := 1) ?_
  all_goals (refine R_loadA 1 [(.int _ _), (.slice _ _ _)] rfl rfl rfl rfl rfl rfl ?_)
  all_goals (refine R_move (.int _ _) rfl rfl rfl ?_)
  revert bk
  intro b4
  refine R_call (main := main) (A := A) (SKeepNew_t (main := main) (lo := lo) (A := A) k hG hk h1 h3) rfl rfl rfl rfl ?_
  rintro _ h1' ⟨⟨_, rfl, w', c', e', p', s', rfl, hK⟩, hle⟩
  obtain ⟨q1, c1, q2, c2, q3, c3, q4, c4, rfl, rfl, rfl, rfl, rfl⟩ := hK.shape
  all_goals (refine R_move (.tuple _) rfl rfl rfl ?_)
  all_goals (refine R_extract (.agg _) rfl rfl rfl rfl ?_)
  all_goals (refine R_extract (.bool _) rfl rfl rfl rfl ?_)
  all_goals (refine R_alloc rfl rfl ?_; intro bk)
  all_goals (refine R_store 0 (.agg _) [(.int _ _), (.slice _ _ _), (.slice _ _ _), (.slice _ _ _), (.slice _ _ _)] _ _ rfl rfl rfl rfl rfl rfl rfl rfl rfl rfl ?_; dsimp only [splice, List.set])
  all_goals (refine R_assign (.bool _) rfl rfl rfl ?_)
  repeat' (first
    | refine W_seq ?_
    | refine WS_then ?_
    | refine W_else rfl ?_
    | refine W_skip ?_
    | refine W_block ?_
    | ((refine W_region (id := 2) ?_) <;>
    (refine R_move (.bool _) rfl rfl rfl ?_) <;>
    (refine R_not _ rfl rfl rfl rfl ?_))
    | ((refine W_region (id := 4) ?_) <;>
    (refine R_loadA 0 [(.int _ _), (.slice _ _ _), (.slice _ _ _), (.slice _ _ _), (.slice _ _ _)] rfl rfl rfl rfl rfl rfl ?_) <;>
    (refine R_buildSlice [] rfl rfl rfl rfl rfl rfl ?_; intro bk) <;>
    (refine R_build [(.int _ _), (.slice _ _ _), (.slice _ _ _), (.slice _ _ _), (.slice _ _ _), (.slice _ _ _), (.slice _ _ _)] rfl rfl rfl ?_) <;>
    (refine R_alloc rfl rfl ?_; intro bk) <;>
    (refine R_store 0 (.agg _) [(.int _ _), (.slice _ _ _), (.slice _ _ _), (.slice _ _ _), (.slice _ _ _), (.slice _ _ _), (.slice _ _ _)] _ _ rfl rfl rfl rfl rfl rfl rfl rfl rfl rfl ?_; dsimp only [splice, List.set]))
    | ((refine W_region (id := 5) ?_) <;>
    (refine R_assign (.int _ _) rfl rfl rfl ?_)))
  generalize hKK : keepNew g k.toNat = K at hK ⊢
  rename_i b2 b6 bn
  revert bk
  intro b8
  obtain ⟨n, rfl⟩ := Int.eq_ofNat_of_zero_le (show 0 ≤ k by omega)
  refine W_loopA (ι := Nat × Value × OL) (fun x => n - x.1) (fun x => [(1, .int .i64 n), (4, .pointer (some ⟨b4, 0, none⟩)), (8, .pointer (some ⟨b8, 0, none⟩)), (9, .int .i64 x.1)])
    (fun x => cat [[(b8, bx [.int .i64 K.first.wide, .slice q1 K.first.cells.length c1, .slice q2 K.edits.length c2, .slice q3 K.parts.length c3, .slice q4 K.shown.length c4, x.2.1, .slice (some ⟨bn, 0, none⟩) 0 0] 36), (b4, bx [.int .i64 0, .slice none 0 0, .slice none 0 0, .slice none 0 0, .slice none 0 0, .slice none 0 0, .slice none 0 0] 36)], x.2.2]) (fun _ => h1')
    (fun x => x.1 ≤ n ∧ Bc 45 7 x.2.1 x.2.2 ((List.replicate x.1 ptr0).flatMap fun _ => ptrV)) (0, .slice none 0 0, []) ⟨by simp, Bc.nil _ _⟩ (abs_mk' ⟨rfl, rfl, rfl, ivq (by simp), trivial⟩ (sub_picks [0, 2] rfl)) ?_
  rintro ⟨i, v, B⟩ e ⟨h4, hB⟩
  dsimp only at h4 hB ⊢
  obtain ⟨q', ln', cp', rfl, hln'⟩ := hB.len
  have hB2 := hB
  rw [ptrV_len] at hln'
  dsimp only [cat, List.cons_append, List.nil_append]
  by_cases hlt : i < n
  · repeat' (first
      | refine W_seq ?_
      | refine WS_then ?_
      | refine W_if rfl ?_
      | refine W_skip ?_
      | refine W_block ?_
      | ((refine W_region (id := 6) ?_) <;>
      (refine R_move (.int _ _) rfl rfl rfl ?_) <;>
      (refine R_move (.int _ _) rfl rfl rfl ?_) <;>
      (refine R_lss_t rfl rfl (by omega) rfl rfl ?_)))
    refine W_region (id := 8) ?_
    all_goals (refine R_field rfl rfl rfl ?_)
    all_goals (refine R_load1 0 rfl rfl rfl rfl rfl rfl ?_)
    all_goals (refine R_build [(.bool _), (.bool _), (.int _ _), (.int _ _), (.slice _ _ _), (.slice _ _ _), (.slice _ _ _)] rfl rfl rfl ?_)
    all_goals (refine R_buildSlice [(.bool _), (.bool _), (.int _ _), (.int _ _), (.slice _ _ _), (.slice _ _ _), (.slice _ _ _)] rfl rfl rfl rfl rfl rfl ?_; intro bk)
    refine R_appendF B [_, _] (T := 45) ptrV rfl rfl hB (sub_segs [0, 2, 1] [[_], [_, _], B] [[_], B, [_, _]] rfl) rfl rfl (by rw [ptrV_len]; simp only [ptrV, List.length_cons, List.length_nil]; omega) (by rw [ptrV_len]; simp only [ptrV, List.length_cons, List.length_nil]; omega) rfl rfl rfl rfl ?_
    intro q2' ln2 cp2 B' hB'
    all_goals (refine R_field rfl rfl rfl ?_)
    all_goals (refine R_store 0 (.slice _ _ _) [(.slice _ _ _)] _ _ rfl rfl rfl rfl rfl rfl rfl rfl rfl rfl ?_; dsimp only [splice, List.set])
    repeat' (first
      | refine WS_end ?_
      | refine WS_nil ?_
      | refine then_normal ?_
      | refine block_normal ?_
      | ((refine W_region (id := 7) ?_) <;>
      (refine R_move (.int _ _) rfl rfl rfl ?_) <;>
      (refine R_add rfl rfl (by omega) rfl rfl ?_) <;>
      (refine R_assign (.int _ _) rfl rfl rfl ?_)))
    exact ⟨(i + 1, _, B'), ⟨by simp only; omega, by rw [List.replicate_succ', List.flatMap_append]; simpa using hB'⟩, abs_mk' ⟨rfl, rfl, rfl, ivq (by simp), trivial⟩ (Sub.refl _), by simp only; omega⟩
  · have hi : i = n := by omega
    subst hi
    repeat' (first
      | refine W_seq ?_
      | refine WS_then ?_
      | refine W_else rfl ?_
      | refine W_ret ?_
      | refine W_exit ?_
      | ((refine W_region (id := 6) ?_) <;>
      (refine R_move (.int _ _) rfl rfl rfl ?_) <;>
      (refine R_move (.int _ _) rfl rfl rfl ?_) <;>
      (refine R_lss_f rfl rfl (by omega) rfl rfl ?_))
      | ((refine W_region (id := 9) ?_) <;>
      (refine R_loadA 0 [(.int _ _), (.slice _ _ _), (.slice _ _ _), (.slice _ _ _), (.slice _ _ _), (.slice _ _ _), (.slice _ _ _)] rfl rfl rfl rfl rfl rfl ?_) <;>
      (refine R_store 1 (.agg _) [(.int _ _), (.slice _ _ _), (.slice _ _ _), (.slice _ _ _), (.slice _ _ _), (.slice _ _ _), (.slice _ _ _)] _ _ rfl rfl rfl rfl rfl rfl rfl rfl rfl rfl ?_; dsimp only [splice, List.set]) <;>
      (refine R_assign (.bool _) rfl rfl rfl ?_)))
    subst hKK
    refine endRD B (sub_segs [1] [[_, _], B] [B] rfl) rfl (.cons (.cellA 1 [.int _ _, .slice _ _ _, .slice _ _ _, .slice _ _ _, .slice _ _ _, .slice _ _ _, .slice _ _ _] rfl rfl (r := []) rfl rfl) (.cons (.tmp rfl) .nil)) fun ha hle2 => ⟨⟨_, rfl, _, _, _, _, _, _, _, rfl, hK.le hle2, ?_, sd_empty _ _ _ _⟩, hle.trans hle2⟩
    exact ptr_sd hB2 _
set_option maxHeartbeats 2000000 in
theorem WorldNew_t {gv : Value} {g : Grd} {h : LH} (k : Int) (hs : GridD h gv g) (hk : GOk g) (h1 : 1 ≤ k) (h3 : k ≤ 3) : Fn Tryz.prog A 13 [gv, .int .i64 k].toArray h
    (fun v h' => (∃ kv, v = .tuple [kv, .bool true].toArray ∧ WorldD h' kv (worldNew g k.toNat)) ∧ LE h h') := by
  have hG := hs
  obtain ⟨p, c, rfl, hp, hd⟩ := hs
  refine Fn_body (n := 31) (fn := Tryz.f13) Tryz.func13 rfl rfl rfl ?_
  repeat' (first
    | refine W_seq ?_
    | refine WS_then ?_
    | ((refine W_region (id := 0) ?_) <;>
    (refine R_box (.agg _) [(.int _ _), (.slice _ _ _)] rfl rfl rfl rfl ?_; intro bk) <;>
    (refine R_alloc rfl rfl ?_; intro bk) <;>
    (refine R_assign (.bool _) rfl rfl rfl ?_)))
  refine W_region (id := 1) ?_
  all_goals (refine R_loadA 1 [(.int _ _), (.slice _ _ _)] rfl rfl rfl rfl rfl rfl ?_)
  all_goals (refine R_move (.int _ _) rfl rfl rfl ?_)
  revert bk
  intro b4
  refine R_call (main := main) (A := A) (KeepNew_t (main := main) (lo := lo) (A := A) k hG hk h1 h3) rfl rfl rfl rfl ?_
  rintro _ h1' ⟨⟨_, rfl, w', c', e', p', s', rfl, hK⟩, hle⟩
  obtain ⟨q1, c1, q2, c2, q3, c3, q4, c4, rfl, rfl, rfl, rfl, rfl⟩ := hK.shape
  all_goals (refine R_move (.tuple _) rfl rfl rfl ?_)
  all_goals (refine R_extract (.agg _) rfl rfl rfl rfl ?_)
  all_goals (refine R_extract (.bool _) rfl rfl rfl rfl ?_)
  all_goals (refine R_alloc rfl rfl ?_; intro bk)
  all_goals (refine R_store 0 (.agg _) [(.int _ _), (.slice _ _ _), (.slice _ _ _), (.slice _ _ _), (.slice _ _ _)] _ _ rfl rfl rfl rfl rfl rfl rfl rfl rfl rfl ?_; dsimp only [splice, List.set])
  all_goals (refine R_assign (.bool _) rfl rfl rfl ?_)
  repeat' (first
    | refine W_seq ?_
    | refine WS_then ?_
    | refine W_else rfl ?_
    | refine W_skip ?_
    | refine W_block ?_
    | ((refine W_region (id := 2) ?_) <;>
    (refine R_move (.bool _) rfl rfl rfl ?_) <;>
    (refine R_not _ rfl rfl rfl rfl ?_))
    | ((refine W_region (id := 4) ?_) <;>
    (refine R_loadA 0 [(.int _ _), (.slice _ _ _), (.slice _ _ _), (.slice _ _ _), (.slice _ _ _)] rfl rfl rfl rfl rfl rfl ?_) <;>
    (refine R_build [(.int _ _), (.slice _ _ _), (.slice _ _ _), (.slice _ _ _), (.slice _ _ _), (.slice _ _ _), (.slice _ _ _)] rfl rfl rfl ?_) <;>
    (refine R_alloc rfl rfl ?_; intro bk) <;>
    (refine R_store 0 (.agg _) [(.int _ _), (.slice _ _ _), (.slice _ _ _), (.slice _ _ _), (.slice _ _ _), (.slice _ _ _), (.slice _ _ _)] _ _ rfl rfl rfl rfl rfl rfl rfl rfl rfl rfl ?_; dsimp only [splice, List.set]))
    | ((refine W_region (id := 5) ?_) <;>
    (refine R_move (.int _ _) rfl rfl rfl ?_) <;>
    (refine R_move (.int _ _) rfl rfl rfl ?_)))
  generalize hKK : keepNew g k.toNat = K at hK ⊢
  rename_i b2 b6
  revert bk
  intro b8
  obtain ⟨n, rfl⟩ := Int.eq_ofNat_of_zero_le (show 0 ≤ k by omega)
  refine W_loopA (ι := Nat × Value × OL) (fun x => n - x.1) (fun x => [(1, .int .i64 n), (4, .pointer (some ⟨b4, 0, none⟩)), (8, .pointer (some ⟨b8, 0, none⟩)), (20, .int .i64 n), (21, .int .i64 x.1)])
    (fun x => cat [[(b8, bx [.int .i64 K.first.wide, .slice q1 K.first.cells.length c1, .slice q2 K.edits.length c2, .slice q3 K.parts.length c3, .slice q4 K.shown.length c4, x.2.1, .slice none 0 0] 36), (b4, bx [.int .i64 0, .slice none 0 0, .slice none 0 0, .slice none 0 0, .slice none 0 0, .slice none 0 0, .slice none 0 0] 36)], x.2.2]) (fun _ => h1')
    (fun x => x.1 ≤ n ∧ Bc 45 7 x.2.1 x.2.2 ((List.replicate x.1 ptr0).flatMap fun _ => ptrV)) (0, .slice none 0 0, []) ⟨by simp, Bc.nil _ _⟩ (abs_mk' ⟨rfl, rfl, rfl, rfl, ivq (by simp), trivial⟩ (sub_picks [0, 1] rfl)) ?_
  rintro ⟨i, v, B⟩ e ⟨h4, hB⟩
  dsimp only at h4 hB ⊢
  obtain ⟨q', ln', cp', rfl, hln'⟩ := hB.len
  have hB2 := hB
  rw [ptrV_len] at hln'
  dsimp only [cat, List.cons_append, List.nil_append]
  by_cases hlt : i < n
  · repeat' (first
      | refine W_seq ?_
      | refine WS_then ?_
      | refine W_if rfl ?_
      | refine W_skip ?_
      | refine W_block ?_
      | ((refine W_region (id := 6) ?_) <;>
      (refine R_lss_t rfl rfl (by omega) rfl rfl ?_)))
    refine W_region (id := 7) ?_
    all_goals (refine R_field rfl rfl rfl ?_)
    all_goals (refine R_load1 0 rfl rfl rfl rfl rfl rfl ?_)
    all_goals (refine R_build [(.bool _), (.bool _), (.int _ _), (.int _ _), (.slice _ _ _), (.slice _ _ _), (.slice _ _ _)] rfl rfl rfl ?_)
    all_goals (refine R_buildSlice [(.bool _), (.bool _), (.int _ _), (.int _ _), (.slice _ _ _), (.slice _ _ _), (.slice _ _ _)] rfl rfl rfl rfl rfl rfl ?_; intro bk)
    refine R_appendF B [_, _] (T := 45) ptrV rfl rfl hB (sub_segs [0, 2, 1] [[_], [_, _], B] [[_], B, [_, _]] rfl) rfl rfl (by rw [ptrV_len]; simp only [ptrV, List.length_cons, List.length_nil]; omega) (by rw [ptrV_len]; simp only [ptrV, List.length_cons, List.length_nil]; omega) rfl rfl rfl rfl ?_
    intro q2' ln2 cp2 B' hB'
    all_goals (refine R_field rfl rfl rfl ?_)
    all_goals (refine R_store 0 (.slice _ _ _) [(.slice _ _ _)] _ _ rfl rfl rfl rfl rfl rfl rfl rfl rfl rfl ?_; dsimp only [splice, List.set])
    repeat' (first
      | refine WS_end ?_
      | refine WS_nil ?_
      | refine then_normal ?_
      | refine block_normal ?_
      | ((refine W_region (id := 8) ?_) <;>
      (refine R_add rfl rfl (by omega) rfl rfl ?_) <;>
      (refine R_move (.int _ _) rfl rfl rfl ?_)))
    exact ⟨(i + 1, _, B'), ⟨by simp only; omega, by rw [List.replicate_succ', List.flatMap_append]; simpa using hB'⟩, abs_mk' ⟨rfl, rfl, rfl, rfl, ivq (by simp), trivial⟩ (Sub.refl _), by simp only; omega⟩
  · have hi : i = n := by omega
    subst hi
    repeat' (first
      | refine W_seq ?_
      | refine WS_then ?_
      | refine W_else rfl ?_
      | refine W_ret ?_
      | refine W_exit ?_
      | ((refine W_region (id := 6) ?_) <;>
      (refine R_lss_f rfl rfl (by omega) rfl rfl ?_))
      | ((refine W_region (id := 9) ?_) <;>
      (refine R_loadA 0 [(.int _ _), (.slice _ _ _), (.slice _ _ _), (.slice _ _ _), (.slice _ _ _), (.slice _ _ _), (.slice _ _ _)] rfl rfl rfl rfl rfl rfl ?_) <;>
      (refine R_store 1 (.agg _) [(.int _ _), (.slice _ _ _), (.slice _ _ _), (.slice _ _ _), (.slice _ _ _), (.slice _ _ _), (.slice _ _ _)] _ _ rfl rfl rfl rfl rfl rfl rfl rfl rfl rfl ?_; dsimp only [splice, List.set]) <;>
      (refine R_assign (.bool _) rfl rfl rfl ?_)))
    subst hKK
    refine endRD B (sub_segs [1] [[_, _], B] [B] rfl) rfl (.cons (.cellA 1 [.int _ _, .slice _ _ _, .slice _ _ _, .slice _ _ _, .slice _ _ _, .slice _ _ _, .slice _ _ _] rfl rfl (r := []) rfl rfl) (.cons (.tmp rfl) .nil)) fun ha hle2 => ⟨⟨_, rfl, _, _, _, _, _, _, _, rfl, hK.le hle2, ?_, sd_nil _ _ _⟩, hle.trans hle2⟩
    exact ptr_sd hB2 _
end Go.Lu
