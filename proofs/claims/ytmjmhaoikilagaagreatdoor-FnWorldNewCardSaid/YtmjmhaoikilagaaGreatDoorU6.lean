/- copies; new keepers -/
import Derived.Test.YtmjmhaoikilagaaGreatDoorU5
set_option linter.unusedVariables false
set_option linter.unusedSectionVars false
namespace Go.Lu
open Go.Proofs
variable {main : Bool} {lo : Nat → Prop} {A : (Goroutine → LH → Prop) → Prop} [hA : Adm Tryz.prog main lo A]
theorem GridD.sd {h : LH} {w c : Value} {g : Grd} (x : GridD h (.agg [w, c].toArray) g) : Sd h 2 c g.cells CelR ∧ w = .int .i64 g.wide := by
  obtain ⟨p, c', e, h2, h3⟩ := x
  injection e with e
  have e := congrArg Array.toList e
  simp at e
  obtain ⟨rfl, rfl⟩ := e
  exact ⟨⟨p, c', rfl, h2, h3⟩, rfl⟩
include hA
set_option maxHeartbeats 1000000 in
theorem l1Copy_fn {gv : Value} {g : Grd} {h : LH} (hs : GridD h gv g) (hl : g.cells.length ≤ 1000) : FnO Tryz.prog lo A 77 [gv] [] h
    (fun v L h' => (∃ sv, v = .agg [.int .i64 g.wide, sv].toArray ∧ Bc 61 2 sv L (g.cells.flatMap celV)) ∧ LE h h') := by
  obtain ⟨p, c, rfl, hp, hd⟩ := hs
  have hsrc := sd_src (f := celV) (fun _ => rfl) (show Sd h 2 (.slice p g.cells.length c) g.cells CelR from ⟨p, c, rfl, hp, hd⟩)
  refine FnO_body (n := 10) (fn := Tryz.f77) Tryz.func77 rfl rfl rfl ?_
  repeat' (first
    | refine W_seq ?_
    | refine WS_then ?_
    | ((refine W_region (id := 0) ?_) <;>
    (refine R_box (.agg _) [(.int _ _), (.slice _ _ _)] rfl rfl rfl rfl ?_; intro bk) <;>
    (refine R_alloc rfl rfl ?_; intro bk)))
  all_goals refine W_draw (fun i => Nat.beq i 7) [0, 1, 2, 3, 4, 5, 6, 7] (by kernel_rfl) (by kernel_rfl) (by kernel_rfl) (by kernel_rfl) ?_
  all_goals (refine WL_take 0 [1, 2, 3, 4, 5, 6, 7] rfl (by kernel_rfl) rfl (D_field rfl rfl) ?_)
  all_goals (refine WL_take 1 [2, 3, 4, 5, 6, 7] rfl (by kernel_rfl) rfl (D_load1 1 rfl rfl rfl rfl rfl) ?_)
  all_goals (refine WL_take 3 [2, 4, 5, 6, 7] rfl (by kernel_rfl) rfl (D_field rfl rfl) ?_)
  all_goals (refine WL_take 4 [2, 5, 6, 7] rfl (by kernel_rfl) rfl (D_load1 1 rfl rfl rfl rfl rfl) ?_)
  all_goals (refine WL_buildSlice 2 [5, 6, 7] [] rfl (by kernel_rfl) rfl rfl rfl rfl rfl rfl ?_; intro bk)
  -- left: [5, 6, 7] ready: [5] ['call']
  refine WL_append0 [_] [_, _] 5 [6, 7] (g.cells.flatMap celV) rfl (by kernel_rfl) rfl rfl rfl (Bc.full (len := 0) rfl) (List.Perm.refl _) (fun ha => Src_data (P := Tryz.prog) (main := main) (A := A) hsrc ha) (all_flat_cel _) ?_ ?_ rfl rfl rfl ?_
  · rw [cells_len]; simp; omega
  · rw [cells_len]; simp; omega
  intro q ln cp B' h' hB' hle
  all_goals (refine WL_take 6 [7] rfl (by kernel_rfl) rfl (D_build [(.int _ _), (.slice _ _ _)] rfl rfl) ?_)
  all_goals (refine WL_store 7 [] 0 (.agg _) [(.int _ _), (.slice _ _ _)] _ _ rfl (by kernel_rfl) rfl rfl rfl rfl rfl rfl rfl rfl rfl rfl rfl rfl ?_; dsimp only [splice, List.set])
  all_goals refine WL_nil ?_
  -- left: [] ready: [] []
  repeat' (refine W_ret ?_)
  have hB2 : Bc 61 2 (.slice q ln cp) B' (g.cells.flatMap celV) := by simpa using hB'
  exact endRO B' [] (by rw [List.append_nil]; exact sub_segs [1] [[_, _], B'] [B'] rfl) rfl (.cons (.cellA 0 [.int _ _, .slice _ _ _] rfl rfl (r := []) rfl rfl) .nil) fun _ _ => ⟨⟨_, rfl, hB2⟩, hle⟩
set_option maxHeartbeats 1000000 in
theorem gridCopy_fn {gv : Value} {g : Grd} {h : LH} (hs : GridD h gv g) (hl : g.cells.length ≤ 1000) : FnO Tryz.prog lo A 63 [gv] [] h
    (fun v L h' => (∃ sv, v = .agg [.int .i64 g.wide, sv].toArray ∧ Bc 61 2 sv L (g.cells.flatMap celV)) ∧ LE h h') := by
  obtain ⟨p, c, rfl, hp, hd⟩ := hs
  have hS : Sd h 2 (.slice p g.cells.length c) g.cells CelR := ⟨p, c, rfl, hp, hd⟩
  refine FnO_body (n := 9) (fn := Tryz.f63) Tryz.func63 rfl rfl rfl ?_
  repeat' (first
    | refine W_seq ?_
    | refine WS_then ?_
    | ((refine W_region (id := 0) ?_) <;>
    (refine R_box (.agg _) [(.int _ _), (.slice _ _ _)] rfl rfl rfl rfl ?_; intro bk) <;>
    (refine R_alloc rfl rfl ?_; intro bk)))
  all_goals refine W_draw (fun i => Nat.beq i 6) [0, 1, 2, 3, 4, 5, 6] (by kernel_rfl) (by kernel_rfl) (by kernel_rfl) (by kernel_rfl) ?_
  all_goals (refine WL_take 0 [1, 2, 3, 4, 5, 6] rfl (by kernel_rfl) rfl (D_field rfl rfl) ?_)
  all_goals (refine WL_take 1 [2, 3, 4, 5, 6] rfl (by kernel_rfl) rfl (D_load1 1 rfl rfl rfl rfl rfl) ?_)
  all_goals (refine WL_take 2 [3, 4, 5, 6] rfl (by kernel_rfl) rfl (D_field rfl rfl) ?_)
  all_goals (refine WL_take 3 [4, 5, 6] rfl (by kernel_rfl) rfl (D_load1 1 rfl rfl rfl rfl rfl) ?_)
  -- left: [4, 5, 6] ready: [4] ['call']
  refine WL_callN 4 [5, 6] rfl (by kernel_rfl) rfl (Clone_fn (main := main) (lo := lo) (A := A) hS (by omega)) (fun _ _ _ ⟨_, e⟩ => by rw [e]; exact LE.refl _) rfl rfl rfl ?_
  rintro v B h' ⟨hB, hq⟩
  replace hq := hq.symm
  subst hq
  have hB2 := hB
  obtain ⟨q, ln, cp, rfl, hln⟩ := hB.len
  all_goals (refine WL_take 5 [6] rfl (by kernel_rfl) rfl (D_build [(.int _ _), (.slice _ _ _)] rfl rfl) ?_)
  all_goals (refine WL_store 6 [] 0 (.agg _) [(.int _ _), (.slice _ _ _)] _ _ rfl (by kernel_rfl) rfl rfl rfl rfl rfl rfl rfl rfl rfl rfl rfl rfl ?_; dsimp only [splice, List.set])
  all_goals refine WL_nil ?_
  -- left: [] ready: [] []
  repeat' (refine W_ret ?_)
  exact endRO B [] (by rw [List.append_nil]; exact sub_segs [1] [[_, _], B] [B] rfl) rfl (.cons (.cellA 0 [.int _ _, .slice _ _ _] rfl rfl (r := []) rfl rfl) .nil) fun _ _ => ⟨⟨_, rfl, hB2⟩, LE.refl _⟩
/-! ### new keepers -/
omit hA in
theorem cat3e (X Y : Nat × Obj) (B : OL) : cat [[X, Y], B, []] = cat [[X], [Y], B] := by simp [cat]
omit hA in
def partV (b : Nat) : List Value := [.bool false, .int .i64 0, .slice (some ⟨b, 0, none⟩) 0 0]
omit hA in
theorem partV_len {bs : List Nat} : (bs.flatMap partV).length = bs.length * 3 := flat_len (f := partV) (sz := 3) (fun _ => rfl) bs
set_option maxHeartbeats 2000000 in
theorem SKeepNew_t {gv : Value} {g : Grd} {h : LH} (k : Int) (hs : GridD h gv g) (hk : GOk g) (h1 : 1 ≤ k) (h3 : k ≤ 3) : Fn Tryz.prog A 41 [gv, .int .i64 k].toArray h
    (fun v h' => (∃ kv, v = .tuple [kv, .bool true].toArray ∧ KeepD h' kv (keepNew g k.toNat)) ∧ LE h h') := by
  have hG := hs
  obtain ⟨p, c, rfl, hp, hd⟩ := hs
  have h25 := hk.len25
  refine Fn_body (n := 35) (fn := Tryz.f41) Tryz.func41 rfl rfl rfl ?_
  repeat' (first
    | refine W_seq ?_
    | refine WS_then ?_
    | refine W_else rfl ?_
    | refine W_skip ?_
    | ((refine W_region (id := 0) ?_) <;>
    (refine R_box (.agg _) [(.int _ _), (.slice _ _ _)] rfl rfl rfl rfl ?_; intro bk) <;>
    (refine R_alloc rfl rfl ?_; intro bk) <;>
    (refine R_assign (.bool _) rfl rfl rfl ?_))
    | ((refine W_region (id := 1) ?_) <;>
    (refine R_loadA 1 [(.int _ _), (.slice _ _ _)] rfl rfl rfl rfl rfl rfl ?_) <;>
    (refine R_call (SGridOk_t (by assumption) (by assumption)) rfl rfl rfl rfl ?_; rintro _ _ ⟨rfl, hq⟩; replace hq := hq.symm; subst hq) <;>
    (refine R_not _ rfl rfl rfl rfl ?_) <;>
    (refine R_move (.bool _) rfl rfl rfl ?_) <;>
    (refine R_move (.int _ _) rfl rfl rfl ?_) <;>
    (refine R_call (l6In_t _ _ _ _ (by omega)) rfl rfl rfl rfl ?_; rintro _ _ ⟨rfl, hq⟩; replace hq := hq.symm; subst hq) <;>
    (refine R_not _ rfl rfl rfl rfl ?_) <;>
    (refine R_pick (.bool _) rfl rfl rfl rfl ?_)))
  refine W_region (id := 3) ?_
  all_goals (refine R_loadA 1 [(.int _ _), (.slice _ _ _)] rfl rfl rfl rfl rfl rfl ?_)
  revert bk
  intro b4
  refine R_callO (main := main) (A := A) [] _ (l1Copy_fn (main := main) (lo := lo) (A := A) hG (by omega)) (List.Perm.refl _) rfl rfl rfl rfl ?_
  rintro _ Bg h1' ⟨⟨sv, rfl, hBg⟩, hle⟩
  refine WS_perm (main := main) (lo := lo) (A := A) _ List.perm_append_comm ?_
  have hBg2 := hBg
  obtain ⟨q, ln, cp, rfl, hln⟩ := hBg.len
  all_goals (refine R_buildSlice [] rfl rfl rfl rfl rfl rfl ?_; intro bk)
  all_goals (refine R_buildSlice [] rfl rfl rfl rfl rfl rfl ?_; intro bk)
  all_goals (refine R_build [(.int _ _), (.slice _ _ _), (.slice _ _ _), (.slice _ _ _), (.slice _ _ _)] rfl rfl rfl ?_)
  all_goals (refine R_alloc rfl rfl ?_; intro bk)
  all_goals (refine R_store 0 (.agg _) [(.int _ _), (.slice _ _ _), (.slice _ _ _), (.slice _ _ _), (.slice _ _ _)] _ _ rfl rfl rfl rfl rfl rfl rfl rfl rfl rfl ?_; dsimp only [splice, List.set])
  rename_i b2 be bs
  repeat' (first
    | refine W_seq ?_
    | refine WS_then ?_
    | refine W_block ?_
    | ((refine W_region (id := 4) ?_) <;>
    (refine R_assign (.int _ _) rfl rfl rfl ?_)))
  obtain ⟨n, rfl⟩ := Int.eq_ofNat_of_zero_le (show 0 ≤ k by omega)
  refine W_loopA (ι := List Nat × Value × OL) (fun x => n - x.1.length) (fun x => [(1, .int .i64 n), (4, .pointer (some ⟨b4, 0, none⟩)), (6, .pointer (some ⟨bk, 0, none⟩)), (7, .int .i64 x.1.length)])
    (fun x => cat [[(bk, bx [.int .i64 g.wide, .slice q ln cp, .slice (some ⟨be, 0, none⟩) 0 0, x.2.1, .slice (some ⟨bs, 0, none⟩) 0 0] 32), (b4, bx [.int .i64 0, .slice none 0 0, .slice none 0 0, .slice none 0 0, .slice none 0 0] 32)], Bg, x.2.2]) (fun _ => h1')
    (fun x => x.1.length ≤ n ∧ Bc 51 3 x.2.1 x.2.2 (x.1.flatMap partV)) ([], .slice none 0 0, []) ⟨by simp, Bc.nil _ _⟩ (abs_mk' ⟨rfl, rfl, rfl, rfl, trivial⟩ ?_) ?_
  · show Sub (cat [[_, _], Bg, []]) _
    rw [cat3e]
    exact sub_segs [0, 2, 4] [[_], [_, _], [_], [_], Bg] [[_], [_], Bg] rfl
  rintro ⟨l, v, B⟩ e ⟨h4, hB⟩
  dsimp only at h4 hB ⊢
  obtain ⟨q', ln', cp', rfl, hln'⟩ := hB.len
  rw [partV_len] at hln'
  dsimp only [cat, List.cons_append, List.nil_append]
  by_cases hlt : l.length < n
  · repeat' (first
      | refine W_seq ?_
      | refine WS_then ?_
      | refine W_if rfl ?_
      | refine W_skip ?_
      | refine W_block ?_
      | ((refine W_region (id := 5) ?_) <;>
      (refine R_move (.int _ _) rfl rfl rfl ?_) <;>
      (refine R_move (.int _ _) rfl rfl rfl ?_) <;>
      (refine R_lss_t rfl rfl (by omega) rfl rfl ?_)))
    refine W_region (id := 7) ?_
    all_goals (refine R_field rfl rfl rfl ?_)
    all_goals (refine R_load1 0 rfl rfl rfl rfl rfl rfl ?_)
    all_goals (refine R_buildSlice [] rfl rfl rfl rfl rfl rfl ?_; intro bk)
    all_goals (refine R_build [(.bool _), (.int _ _), (.slice _ _ _)] rfl rfl rfl ?_)
    all_goals (refine R_buildSlice [(.bool _), (.int _ _), (.slice _ _ _)] rfl rfl rfl rfl rfl rfl ?_; intro bk)
    rename_i bl
    refine R_appendF B ([_, _] ++ Bg) (T := 51) (partV bl) rfl rfl hB (sub_segs [0, 4, 2, 3] [[_], [_], [_, _], Bg, B] [[_], B, [_, _], Bg] rfl) rfl rfl (by rw [partV_len]; simp only [partV, List.length_cons, List.length_nil]; omega) (by rw [partV_len]; simp only [partV, List.length_cons, List.length_nil]; omega) rfl rfl rfl rfl ?_
    intro q2 ln2 cp2 B' hB'
    all_goals (refine R_field rfl rfl rfl ?_)
    all_goals (refine R_store 0 (.slice _ _ _) [(.slice _ _ _)] _ _ rfl rfl rfl rfl rfl rfl rfl rfl rfl rfl ?_; dsimp only [splice, List.set])
    repeat' (first
      | refine WS_end ?_
      | refine WS_nil ?_
      | refine then_normal ?_
      | refine block_normal ?_
      | ((refine W_region (id := 6) ?_) <;>
      (refine R_move (.int _ _) rfl rfl rfl ?_) <;>
      (refine R_add rfl rfl (by omega) rfl rfl ?_) <;>
      (refine R_assign (.int _ _) rfl rfl rfl ?_)))
    exact ⟨(l ++ [bl], _, B'), ⟨by simp; omega, by simpa using hB'⟩, abs_mk' ⟨rfl, rfl, rfl, ivq (by simp), trivial⟩ (sub_segs [0, 1, 2] [[_, _], Bg, B'] [[_, _], Bg, B'] rfl), by simp; omega⟩
  · repeat' (first
      | refine W_seq ?_
      | refine WS_then ?_
      | refine W_else rfl ?_
      | refine W_ret ?_
      | refine W_exit ?_
      | ((refine W_region (id := 5) ?_) <;>
      (refine R_move (.int _ _) rfl rfl rfl ?_) <;>
      (refine R_move (.int _ _) rfl rfl rfl ?_) <;>
      (refine R_lss_f rfl rfl (by omega) rfl rfl ?_))
      | ((refine W_region (id := 8) ?_) <;>
      (refine R_loadA 0 [(.int _ _), (.slice _ _ _), (.slice _ _ _), (.slice _ _ _), (.slice _ _ _)] rfl rfl rfl rfl rfl rfl ?_) <;>
      (refine R_store 1 (.agg _) [(.int _ _), (.slice _ _ _), (.slice _ _ _), (.slice _ _ _), (.slice _ _ _)] _ _ rfl rfl rfl rfl rfl rfl rfl rfl rfl rfl ?_; dsimp only [splice, List.set]) <;>
      (refine R_assign (.bool _) rfl rfl rfl ?_)))
    refine endRD (cat [Bg, B]) (sub_segs [1, 2] [[_, _], Bg, B] [Bg, B] rfl) rfl (.cons (.cellA 1 [.int _ _, .slice _ _ _, .slice _ _ _, .slice _ _ _, .slice _ _ _] rfl rfl (r := []) rfl rfl) (.cons (.tmp rfl) .nil)) fun ha hle2 => ⟨⟨_, rfl, _, _, _, _, _, rfl, ?_⟩, hle.trans hle2⟩
    have hcat : cat [Bg, B] = Bg ++ B := by simp [cat]
    rw [hcat] at ha ⊢
    have hln0 : l.length = n := by omega
    have hp0 := Bc.sd (f := partV) hB (fun _ => rfl) (by omega) h1'
    have hle3 : LE (ov B h1') (ov (Bg ++ B) h1') := by rw [ov_append]; exact LE.ov ha.left
    refine ⟨by rw [ov_append]; exact grid_bc hBg2 _, sd_empty _ _ _ _, ?_, sd_empty _ _ _ _⟩
    have hmap := Sd.map (R' := PrtR (ov (Bg ++ B) h1')) (fun _ : Nat => (⟨false, 0, []⟩ : Prt)) (hp0.le hle3 fun _ _ _ h => h) (fun x vs hv => ⟨_, hv, sd_empty _ _ _ _⟩)
    rw [List.map_const'] at hmap
    rw [hln0] at hmap
    exact hmap
end Go.Lu
