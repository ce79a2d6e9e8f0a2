/- FnWorldNew computes true -/
import Derived.Test.YtmjmhaoikilagaaGreatDoorU11
set_option linter.unusedVariables false
set_option linter.unusedSectionVars false
namespace Go.Lu
open Go.Proofs
variable {main : Bool} {lo : Nat → Prop} {A : (Goroutine → LH → Prop) → Prop} [hA : Adm Tryz.prog main lo A]
theorem WorldD.le {H H' : LH} {v : Value} {x : Wld} (hle : LE H H') (h : WorldD H v x) : WorldD H' v x := by
  obtain ⟨w, c, e, p, s, a, b, rfl, h1, h2, h3⟩ := h
  exact ⟨w, c, e, p, s, a, b, rfl, h1.le hle, h2.le hle fun _ _ _ ⟨w, c, l, f, e1, e2⟩ => ⟨w, c, l, f, e1, e2.le hle⟩, h3.le hle fun _ _ _ ⟨w, c, l, e1, e2, e3⟩ => ⟨w, c, l, e1, e2.le hle, sdI_le hle e3⟩⟩
theorem kprB_new {g : Grd} {n : Nat} (hg : g.cells.length ≤ 50) (hn : n ≤ 3) : KprB (keepNew g n) :=
  ⟨by simp only [keepNew]; omega, by simp [keepNew], by simp [keepNew]; omega, by simp [keepNew], fun x hx => by rw [newFresh x hx]; simp, fun x hx => by simp [keepNew] at hx⟩
theorem kprB_0 : KprB keep0 := ⟨by simp [keep0, grd0], by simp [keep0], by simp [keep0], by simp [keep0], fun x hx => by simp [keep0] at hx, fun x hx => by simp [keep0] at hx⟩
include hA
set_option maxHeartbeats 2000000 in
theorem llWorld_same {va vb : Value} {kp : Kpr} {n : Nat} {h : LH} (ha : WorldD h va ⟨kp, List.replicate n ptr0, []⟩) (hb : WorldD h vb ⟨kp, List.replicate n ptr0, []⟩) (hB : KprB kp) (hn : n ≤ 1000) : Fn Tryz.prog A 14 [va, vb].toArray h (fun v h' => v = .bool true ∧ h' = h) := by
  obtain ⟨w, c, e, p, s, a, b, rfl, hKa, ⟨qa, ca, ea, _, hda⟩, ⟨qx, cx, ex, _, _⟩⟩ := ha
  obtain ⟨w', c', e', p', s', a', b', rfl, hKb, ⟨qb, cb, eb, _, hdb⟩, ⟨qy, cy, ey, _, _⟩⟩ := hb
  simp only at hKa hKb
  rw [List.length_replicate] at ea eb
  subst ea eb
  have ex2 : b = .slice qx 0 cx := ex
  have ey2 : b' = .slice qy 0 cy := ey
  subst ex2 ey2
  obtain ⟨q1, c1, q2, c2, q3, c3, q4, c4, rfl, rfl, rfl, rfl, rfl⟩ := hKa.shape
  obtain ⟨p1, d1, p2, d2, p3, d3, p4, d4, e1, rfl, rfl, rfl, rfl⟩ := hKb.shape
  subst e1
  refine Fn_body (n := 69) (fn := Tryz.f14) Tryz.func14 rfl rfl rfl ?_
  repeat' (first
    | refine W_seq ?_
    | refine WS_then ?_
    | refine W_else rfl ?_
    | refine W_skip ?_
    | refine W_block ?_
    | ((refine W_region (id := 0) ?_) <;>
    (refine R_box (.agg _) [(.int _ _), (.slice _ _ _), (.slice _ _ _), (.slice _ _ _), (.slice _ _ _), (.slice _ _ _), (.slice _ _ _)] rfl rfl rfl rfl ?_; intro bk) <;>
    (refine R_box (.agg _) [(.int _ _), (.slice _ _ _), (.slice _ _ _), (.slice _ _ _), (.slice _ _ _), (.slice _ _ _), (.slice _ _ _)] rfl rfl rfl rfl ?_; intro bk) <;>
    (refine R_assign (.bool _) rfl rfl rfl ?_))
    | ((refine W_region (id := 1) ?_) <;>
    (refine R_field rfl rfl rfl ?_) <;>
    (refine R_loadA 1 [(.int _ _), (.slice _ _ _), (.slice _ _ _), (.slice _ _ _), (.slice _ _ _)] rfl rfl rfl rfl rfl rfl ?_) <;>
    (refine R_field rfl rfl rfl ?_) <;>
    (refine R_loadA 0 [(.int _ _), (.slice _ _ _), (.slice _ _ _), (.slice _ _ _), (.slice _ _ _)] rfl rfl rfl rfl rfl rfl ?_) <;>
    (refine R_call (llKeeper_same (by assumption) (by assumption) (by assumption)) rfl rfl rfl rfl ?_; rintro _ _ ⟨rfl, hq⟩; replace hq := hq.symm; subst hq) <;>
    (refine R_not _ rfl rfl rfl rfl ?_) <;>
    (refine R_move (.bool _) rfl rfl rfl ?_) <;>
    (refine R_field rfl rfl rfl ?_) <;>
    (refine R_load1 1 rfl rfl rfl rfl rfl rfl ?_) <;>
    (refine R_len rfl rfl rfl ?_) <;>
    (refine R_field rfl rfl rfl ?_) <;>
    (refine R_load1 0 rfl rfl rfl rfl rfl rfl ?_) <;>
    (refine R_len rfl rfl rfl ?_) <;>
    (refine R_neq_f rfl rfl (by omega) rfl rfl ?_) <;>
    (refine R_pick (.bool _) rfl rfl rfl rfl ?_) <;>
    (refine R_move (.bool _) rfl rfl rfl ?_) <;>
    (refine R_field rfl rfl rfl ?_) <;>
    (refine R_load1 1 rfl rfl rfl rfl rfl rfl ?_) <;>
    (refine R_len rfl rfl rfl ?_) <;>
    (refine R_field rfl rfl rfl ?_) <;>
    (refine R_load1 0 rfl rfl rfl rfl rfl rfl ?_) <;>
    (refine R_len rfl rfl rfl ?_) <;>
    (refine R_neq_f rfl rfl (by omega) rfl rfl ?_) <;>
    (refine R_pick (.bool _) rfl rfl rfl rfl ?_))
    | ((refine W_region (id := 3) ?_) <;>
    (refine R_assign (.int _ _) rfl rfl rfl ?_)))
  rename_i b2
  revert bk
  intro b3
  refine W_loopA (ι := Nat) (fun i => n - i) (fun i => [(2, .pointer (some ⟨b2, 0, none⟩)), (3, .pointer (some ⟨b3, 0, none⟩)), (5, .int .i64 i)]) (fun _ => [(b2, bx [.int .i64 kp.first.wide, .slice q1 kp.first.cells.length c1, .slice q2 kp.edits.length c2, .slice q3 kp.parts.length c3, .slice q4 kp.shown.length c4, .slice qa n ca, .slice qx 0 cx] 36), (b3, bx [.int .i64 kp.first.wide, .slice p1 kp.first.cells.length d1, .slice p2 kp.edits.length d2, .slice p3 kp.parts.length d3, .slice p4 kp.shown.length d4, .slice qb n cb, .slice qy 0 cy] 36)]) (fun _ => h)
    (fun i => i ≤ n) 0 (by omega) (abs_mk ⟨rfl, rfl, rfl, trivial⟩ [1, 0] rfl) ?_
  intro i e hi
  by_cases hlt : i < n
  · have hx : (List.replicate n ptr0)[i]? = some ptr0 := by rw [List.getElem?_replicate, if_pos hlt]
    obtain ⟨b, o, vs, rfl, ⟨_, _, _, _, rfl, hs1⟩, hat⟩ := hda i _ hx
    obtain ⟨b', o', vs', rfl, ⟨_, _, _, _, rfl, hs2⟩, hat'⟩ := hdb i _ hx
    have hsB : ScnB ptr0.scene := ⟨by simp [ptr0, grd0], by simp [ptr0], by simp [ptr0], fun x hx => by simp [ptr0] at hx⟩
    repeat' (first
      | refine W_seq ?_
      | refine WS_then ?_
      | refine W_if rfl ?_
      | refine W_skip ?_
      | refine W_block ?_
      | ((refine W_region (id := 4) ?_) <;>
      (refine R_move (.int _ _) rfl rfl rfl ?_) <;>
      (refine R_field rfl rfl rfl ?_) <;>
      (refine R_load1 0 rfl rfl rfl rfl rfl rfl ?_) <;>
      (refine R_len rfl rfl rfl ?_) <;>
      (refine R_lss_t rfl rfl (by omega) rfl rfl ?_)))
    all_goals refine W_draw (fun _ => false) [0, 1, 2, 3, 4, 5, 6, 7, 8, 9, 10, 11] (by kernel_rfl) (by kernel_rfl) (by kernel_rfl) (by kernel_rfl) ?_
    all_goals (refine WL_take 0 [1, 2, 3, 4, 5, 6, 7, 8, 9, 10, 11] rfl (by kernel_rfl) rfl (D_field rfl rfl) ?_)
    all_goals (refine WL_take 1 [2, 3, 4, 5, 6, 7, 8, 9, 10, 11] rfl (by kernel_rfl) rfl (D_load1 0 rfl rfl rfl rfl rfl) ?_)
    all_goals (refine WL_take 2 [3, 4, 5, 6, 7, 8, 9, 10, 11] rfl (by kernel_rfl) rfl (D_move (.int _ _) rfl rfl) ?_)
    all_goals (refine WL_take 3 [4, 5, 6, 7, 8, 9, 10, 11] rfl (by kernel_rfl) rfl (D_index rfl rfl (by omega) (by omega) rfl) ?_)
    all_goals (refine WL_take 4 [5, 6, 7, 8, 9, 10, 11] rfl (by kernel_rfl) rfl (D_loadHA rfl (by assumption) rfl rfl) ?_)
    all_goals (refine WL_take 5 [6, 7, 8, 9, 10, 11] rfl (by kernel_rfl) rfl (D_field rfl rfl) ?_)
    all_goals (refine WL_take 6 [7, 8, 9, 10, 11] rfl (by kernel_rfl) rfl (D_load1 1 rfl rfl rfl rfl rfl) ?_)
    all_goals (refine WL_take 7 [8, 9, 10, 11] rfl (by kernel_rfl) rfl (D_move (.int _ _) rfl rfl) ?_)
    all_goals (refine WL_take 8 [9, 10, 11] rfl (by kernel_rfl) rfl (D_index rfl rfl (by omega) (by omega) rfl) ?_)
    all_goals (refine WL_take 9 [10, 11] rfl (by kernel_rfl) rfl (D_loadHA rfl (by assumption) rfl rfl) ?_)
    all_goals (refine WL_callP 10 [11] rfl (by kernel_rfl) rfl (llPainter_same (by assumption) (by assumption) (by assumption)) rfl rfl rfl ?_; rintro _ _ ⟨rfl, hq⟩; replace hq := hq.symm; subst hq)
    all_goals (refine WL_take 11 [] rfl (by kernel_rfl) rfl (D_not _ rfl rfl rfl) ?_)
    all_goals refine WL_nil ?_
    -- left: [] ready: [] []
    repeat' (first
      | refine WS_end ?_
      | refine W_else rfl ?_
      | refine W_skip ?_
      | refine then_normal ?_
      | refine block_normal ?_
      | ((refine W_region (id := 5) ?_) <;>
      (refine R_move (.int _ _) rfl rfl rfl ?_) <;>
      (refine R_add rfl rfl (by omega) rfl rfl ?_) <;>
      (refine R_assign (.int _ _) rfl rfl rfl ?_)))
    exact ⟨i + 1, by omega, abs_mk ⟨rfl, rfl, ivq (by omega), trivial⟩ [0, 0] rfl, by omega⟩
  · repeat' (first
      | refine W_seq ?_
      | refine WS_then ?_
      | refine W_else rfl ?_
      | refine W_block ?_
      | refine W_exit ?_
      | ((refine W_region (id := 4) ?_) <;>
      (refine R_move (.int _ _) rfl rfl rfl ?_) <;>
      (refine R_field rfl rfl rfl ?_) <;>
      (refine R_load1 0 rfl rfl rfl rfl rfl rfl ?_) <;>
      (refine R_len rfl rfl rfl ?_) <;>
      (refine R_lss_f rfl rfl (by omega) rfl rfl ?_))
      | ((refine W_region (id := 8) ?_) <;>
      (refine R_assign (.int _ _) rfl rfl rfl ?_)))
    refine W_loopA (ι := Unit) (fun i => 0) (fun i => [(2, .pointer (some ⟨b2, 0, none⟩)), (6, .int .i64 0)]) (fun _ => [(b2, bx [.int .i64 kp.first.wide, .slice q1 kp.first.cells.length c1, .slice q2 kp.edits.length c2, .slice q3 kp.parts.length c3, .slice q4 kp.shown.length c4, .slice qa n ca, .slice qx 0 cx] 36)]) (fun _ => h) (fun i => True) () trivial (abs_mk ⟨rfl, rfl, trivial⟩ [0] rfl) ?_
    intro _ e _
    repeat' (first
      | refine W_seq ?_
      | refine WS_then ?_
      | refine W_else rfl ?_
      | refine W_ret ?_
      | refine W_exit ?_
      | ((refine W_region (id := 9) ?_) <;>
      (refine R_move (.int _ _) rfl rfl rfl ?_) <;>
      (refine R_field rfl rfl rfl ?_) <;>
      (refine R_load1 0 rfl rfl rfl rfl rfl rfl ?_) <;>
      (refine R_len rfl rfl rfl ?_) <;>
      (refine R_lss_f rfl rfl (by omega) rfl rfl ?_))
      | ((refine W_region (id := 13) ?_) <;>
      (refine R_assign (.bool _) rfl rfl rfl ?_)))
    exact end1 rfl ⟨rfl, rfl⟩
set_option maxHeartbeats 2000000 in
theorem WorldOk_new {va : Value} {g : Grd} {n : Nat} {h : LH} (ha : WorldD h va (worldNew g n)) (hk : GOk g) (h1 : 1 ≤ n) (h3 : n ≤ 3) : Fn Tryz.prog A 15 [va].toArray h (fun v h' => v = .bool true ∧ h' = h) := by
  obtain ⟨w, c, e, p, s, a, b, rfl, hKa, ⟨qa, ca, ea, _, hda⟩, ⟨qx, cx, ex, _, _⟩⟩ := ha
  simp only [worldNew] at hKa ea hda
  rw [List.length_replicate] at ea
  subst ea
  have ex2 : b = .slice qx 0 cx := ex
  subst ex2
  obtain ⟨q1, c1, q2, c2, q3, c3, q4, c4, rfl, rfl, rfl, rfl, rfl⟩ := hKa.newShape
  refine Fn_body (n := 53) (fn := Tryz.f15) Tryz.func15 rfl rfl rfl ?_
  repeat' (first
    | refine W_seq ?_
    | refine WS_then ?_
    | refine W_else rfl ?_
    | refine W_skip ?_
    | refine W_block ?_
    | ((refine W_region (id := 0) ?_) <;>
    (refine R_box (.agg _) [(.int _ _), (.slice _ _ _), (.slice _ _ _), (.slice _ _ _), (.slice _ _ _), (.slice _ _ _), (.slice _ _ _)] rfl rfl rfl rfl ?_; intro bk) <;>
    (refine R_assign (.bool _) rfl rfl rfl ?_))
    | ((refine W_region (id := 1) ?_) <;>
    (refine R_field rfl rfl rfl ?_) <;>
    (refine R_loadA 0 [(.int _ _), (.slice _ _ _), (.slice _ _ _), (.slice _ _ _), (.slice _ _ _)] rfl rfl rfl rfl rfl rfl ?_) <;>
    (refine R_call (KeepOk_new (by assumption) (by assumption) (by omega) (by omega)) rfl rfl rfl rfl ?_; rintro _ _ ⟨rfl, hq⟩; replace hq := hq.symm; subst hq) <;>
    (refine R_not _ rfl rfl rfl rfl ?_) <;>
    (refine R_move (.bool _) rfl rfl rfl ?_) <;>
    (refine R_field rfl rfl rfl ?_) <;>
    (refine R_load1 0 rfl rfl rfl rfl rfl rfl ?_) <;>
    (refine R_len rfl rfl rfl ?_) <;>
    (refine R_field rfl rfl rfl ?_) <;>
    (refine R_field rfl rfl rfl ?_) <;>
    (refine R_load1 0 rfl rfl rfl rfl rfl rfl ?_) <;>
    (refine R_len rfl rfl rfl ?_) <;>
    (refine R_neq_f rfl rfl (by omega) rfl rfl ?_) <;>
    (refine R_pick (.bool _) rfl rfl rfl rfl ?_) <;>
    (refine R_move (.bool _) rfl rfl rfl ?_) <;>
    (refine R_field rfl rfl rfl ?_) <;>
    (refine R_load1 0 rfl rfl rfl rfl rfl rfl ?_) <;>
    (refine R_len rfl rfl rfl ?_) <;>
    (refine R_gtr_f rfl rfl (by omega) rfl rfl ?_) <;>
    (refine R_pick (.bool _) rfl rfl rfl rfl ?_))
    | ((refine W_region (id := 3) ?_) <;>
    (refine R_field rfl rfl rfl ?_) <;>
    (refine R_load1 0 rfl rfl rfl rfl rfl rfl ?_) <;>
    (refine R_len rfl rfl rfl ?_) <;>
    (refine R_move (.int _ _) rfl rfl rfl ?_)))
  revert bk
  intro b1
  refine W_loopA (ι := Nat) (fun i => n - i) (fun i => [(1, .pointer (some ⟨b1, 0, none⟩)), (28, .slice qa n ca), (29, .int .i64 n), (30, .int .i64 i)]) (fun _ => [(b1, bx [.int .i64 g.wide, .slice q1 g.cells.length c1, .slice q2 0 c2, .slice q3 n c3, .slice q4 0 c4, .slice qa n ca, .slice qx 0 cx] 36)]) (fun _ => h)
    (fun i => i ≤ n) 0 (by omega) (abs_mk ⟨rfl, rfl, rfl, rfl, trivial⟩ [0] rfl) ?_
  intro i e hi
  by_cases hlt : i < n
  · have hx : (List.replicate n ptr0)[i]? = some ptr0 := by rw [List.getElem?_replicate, if_pos hlt]
    obtain ⟨b, o, vs, rfl, ⟨_, _, _, _, rfl, hs1⟩, hat⟩ := hda i _ hx
    obtain ⟨p1, d1, p2, d2, p3, d3, rfl, rfl, rfl, rfl⟩ := hs1.shape
    repeat' (first
      | refine W_seq ?_
      | refine WS_then ?_
      | refine WS_end ?_
      | refine W_if rfl ?_
      | refine W_else rfl ?_
      | refine W_skip ?_
      | refine W_block ?_
      | refine then_normal ?_
      | refine block_normal ?_
      | ((refine W_region (id := 4) ?_) <;>
      (refine R_lss_t rfl rfl (by omega) rfl rfl ?_))
      | ((refine W_region (id := 5) ?_) <;>
      (refine R_index rfl rfl (by omega) (by omega) rfl rfl ?_) <;>
      (refine R_loadHA rfl (by assumption) rfl rfl rfl ?_) <;>
      (refine R_alloc rfl rfl ?_; intro bk) <;>
      (refine R_store 0 (.agg _) [(.bool _), (.bool _), (.int _ _), (.int _ _), (.slice _ _ _), (.slice _ _ _), (.slice _ _ _)] _ _ rfl rfl rfl rfl rfl rfl rfl rfl rfl rfl ?_; dsimp only [splice, List.set]))
      | ((refine W_region (id := 6) ?_) <;>
      (refine R_field rfl rfl rfl ?_) <;>
      (refine R_loadA 1 [(.int _ _), (.slice _ _ _), (.slice _ _ _), (.slice _ _ _), (.slice _ _ _)] rfl rfl rfl rfl rfl rfl ?_) <;>
      (refine R_loadA 0 [(.bool _), (.bool _), (.int _ _), (.int _ _), (.slice _ _ _), (.slice _ _ _), (.slice _ _ _)] rfl rfl rfl rfl rfl rfl ?_) <;>
      (refine R_call (painterCorrect_no (by assumption) (by assumption)) rfl rfl rfl rfl ?_; rintro _ _ ⟨rfl, hq⟩; replace hq := hq.symm; subst hq) <;>
      (refine R_not _ rfl rfl rfl rfl ?_))
      | ((refine W_region (id := 8) ?_) <;>
      (refine R_add rfl rfl (by omega) rfl rfl ?_) <;>
      (refine R_move (.int _ _) rfl rfl rfl ?_)))
    exact ⟨i + 1, by omega, abs_mk ⟨rfl, rfl, rfl, ivq (by omega), trivial⟩ [1] rfl, by omega⟩
  · repeat' (first
      | refine W_seq ?_
      | refine WS_then ?_
      | refine W_else rfl ?_
      | refine W_block ?_
      | refine W_exit ?_
      | ((refine W_region (id := 4) ?_) <;>
      (refine R_lss_f rfl rfl (by omega) rfl rfl ?_))
      | ((refine W_region (id := 9) ?_) <;>
      (refine R_field rfl rfl rfl ?_) <;>
      (refine R_load1 0 rfl rfl rfl rfl rfl rfl ?_) <;>
      (refine R_len rfl rfl rfl ?_) <;>
      (refine R_move (.int _ _) rfl rfl rfl ?_)))
    refine W_loopA (ι := Unit) (fun i => 0) (fun i => [(42, .int .i64 0), (43, .int .i64 0)]) (fun _ => []) (fun _ => h) (fun i => True) () trivial (abs_mk ⟨rfl, rfl, trivial⟩ [] rfl) ?_
    intro _ e _
    repeat' (first
      | refine W_seq ?_
      | refine WS_then ?_
      | refine W_else rfl ?_
      | refine W_ret ?_
      | refine W_exit ?_
      | ((refine W_region (id := 10) ?_) <;>
      (refine R_lss_f rfl rfl (by omega) rfl rfl ?_))
      | ((refine W_region (id := 15) ?_) <;>
      (refine R_assign (.bool _) rfl rfl rfl ?_)))
    exact end1 rfl ⟨rfl, rfl⟩
end Go.Lu
