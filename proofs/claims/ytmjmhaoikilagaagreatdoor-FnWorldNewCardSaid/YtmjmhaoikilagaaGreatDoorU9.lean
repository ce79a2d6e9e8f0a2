/- what is the same is told the same: scenes, painters, keepers, worlds -/
import Derived.Test.YtmjmhaoikilagaaGreatDoorU8
set_option linter.unusedVariables false
set_option linter.unusedSectionVars false
namespace Go.Lu
open Go.Proofs
variable {main : Bool} {lo : Nat → Prop} {A : (Goroutine → LH → Prop) → Prop} [hA : Adm Tryz.prog main lo A]
structure ScnB (s : Scn) : Prop where
  grid : s.grid.cells.length ≤ 100000
  lights : s.lights.length ≤ 100000
  feet : s.feet.length ≤ 100000
  rows : ∀ x ∈ s.feet, x.length ≤ 100000
structure KprB (k : Kpr) : Prop where
  first : k.first.cells.length ≤ 100000
  edits : k.edits.length ≤ 100000
  parts : k.parts.length ≤ 100000
  shown : k.shown.length ≤ 100000
  lights : ∀ x ∈ k.parts, x.lights.length ≤ 100000
  pics : ∀ x ∈ k.shown, x.pic.length ≤ 100000
theorem GridD.shape {H : LH} {w c : Value} {g : Grd} (x : GridD H (.agg [w, c].toArray) g) : ∃ q c1, w = .int .i64 g.wide ∧ c = .slice q g.cells.length c1 := by
  obtain ⟨⟨p, c', h1, _, _⟩, h2⟩ := x.sd
  exact ⟨_, _, h2, h1⟩
theorem ScnC.shape {H : LH} {w c l f : Value} {s : Scn} (x : ScnC H w c l f s) : ∃ q1 c1 q2 c2 q3 c3, w = .int .i64 s.grid.wide ∧ c = .slice q1 s.grid.cells.length c1 ∧ l = .slice q2 s.lights.length c2 ∧ f = .slice q3 s.feet.length c3 := by
  obtain ⟨q1, c1, h1, h2⟩ := x.grid.shape
  obtain ⟨_, ⟨q2, c2, h3, _⟩, ⟨q3, c3, h4, _⟩⟩ := x
  exact ⟨_, _, _, _, _, _, h1, h2, h3, h4⟩
theorem At.nth {H : LH} {b o : Nat} {vs : List Value} (h : At H b o vs) (j : Nat) {v : Value} (hv : vs[j]? = some v) : At H b (o + j) [v] := fun i w hw => by
  cases i with
  | zero => simp only [List.getElem?_cons_zero, Option.some.injEq] at hw; subst hw; exact h j v hv
  | succ i => simp at hw
include hA
set_option maxHeartbeats 1000000 in
theorem llScene_same {w c l f w' c' l' f' : Value} {s : Scn} {h : LH} (ha : ScnC h w c l f s) (hb : ScnC h w' c' l' f' s) (hB : ScnB s) : Fn Tryz.prog A 78 [.agg [w, c, l, f].toArray, .agg [w', c', l', f'].toArray].toArray h (fun v h' => v = .bool true ∧ h' = h) := by
  obtain ⟨q1, c1, q2, c2, q3, c3, rfl, rfl, rfl, rfl⟩ := ha.shape
  obtain ⟨p1, d1, p2, d2, p3, d3, e1, rfl, rfl, rfl⟩ := hb.shape
  subst e1
  obtain ⟨ha1, ha2, ha3⟩ := ha
  obtain ⟨hb1, hb2, hb3⟩ := hb
  obtain ⟨B1, B2, B3, B4⟩ := hB
  refine Fn_body (n := 24) (fn := Tryz.f78) Tryz.func78 rfl rfl rfl ?_
  repeat' (first
    | refine W_seq ?_
    | refine WS_then ?_
    | refine W_ret ?_
    | ((refine W_region (id := 0) ?_) <;>
    (refine R_box (.agg _) [(.int _ _), (.slice _ _ _), (.slice _ _ _), (.slice _ _ _)] rfl rfl rfl rfl ?_; intro bk) <;>
    (refine R_box (.agg _) [(.int _ _), (.slice _ _ _), (.slice _ _ _), (.slice _ _ _)] rfl rfl rfl rfl ?_; intro bk) <;>
    (refine R_assign (.bool _) rfl rfl rfl ?_))
    | ((refine W_region (id := 1) ?_) <;>
    (refine R_field rfl rfl rfl ?_) <;>
    (refine R_loadA 1 [(.int _ _), (.slice _ _ _)] rfl rfl rfl rfl rfl rfl ?_) <;>
    (refine R_field rfl rfl rfl ?_) <;>
    (refine R_loadA 0 [(.int _ _), (.slice _ _ _)] rfl rfl rfl rfl rfl rfl ?_) <;>
    (refine R_call (llGrid_same (by assumption) (by assumption) (by omega)) rfl rfl rfl rfl ?_; rintro _ _ ⟨rfl, hq⟩; replace hq := hq.symm; subst hq) <;>
    (refine R_move (.bool _) rfl rfl rfl ?_) <;>
    (refine R_field rfl rfl rfl ?_) <;>
    (refine R_load1 1 rfl rfl rfl rfl rfl rfl ?_) <;>
    (refine R_field rfl rfl rfl ?_) <;>
    (refine R_load1 0 rfl rfl rfl rfl rfl rfl ?_) <;>
    (refine R_call (llInts_same (by assumption) (by assumption) (by omega)) rfl rfl rfl rfl ?_; rintro _ _ ⟨rfl, hq⟩; replace hq := hq.symm; subst hq) <;>
    (refine R_pick (.bool _) rfl rfl rfl rfl ?_) <;>
    (refine R_move (.bool _) rfl rfl rfl ?_) <;>
    (refine R_field rfl rfl rfl ?_) <;>
    (refine R_load1 1 rfl rfl rfl rfl rfl rfl ?_) <;>
    (refine R_field rfl rfl rfl ?_) <;>
    (refine R_load1 0 rfl rfl rfl rfl rfl rfl ?_) <;>
    (refine R_call (llRows_same (by assumption) (by assumption) (by omega) (by assumption)) rfl rfl rfl rfl ?_; rintro _ _ ⟨rfl, hq⟩; replace hq := hq.symm; subst hq) <;>
    (refine R_pick (.bool _) rfl rfl rfl rfl ?_) <;>
    (refine R_assign (.bool _) rfl rfl rfl ?_)))
  exact end1 rfl ⟨rfl, rfl⟩
set_option maxHeartbeats 1000000 in
theorem llPainter_same {u1 u2 : Bool} {ver : Int} {w c l f w' c' l' f' : Value} {s : Scn} {h : LH} (ha : ScnC h w c l f s) (hb : ScnC h w' c' l' f' s) (hB : ScnB s) : Fn Tryz.prog A 43 [.agg [.bool u1, .bool u2, .int .i64 ver, w, c, l, f].toArray, .agg [.bool u1, .bool u2, .int .i64 ver, w', c', l', f'].toArray].toArray h (fun v h' => v = .bool true ∧ h' = h) := by
  obtain ⟨q1, c1, q2, c2, q3, c3, rfl, rfl, rfl, rfl⟩ := ha.shape
  obtain ⟨p1, d1, p2, d2, p3, d3, e1, rfl, rfl, rfl⟩ := hb.shape
  subst e1
  refine Fn_body (n := 31) (fn := Tryz.f43) Tryz.func43 rfl rfl rfl ?_
  cases u1 <;> cases u2
  all_goals
    repeat' (first
      | refine W_seq ?_
      | refine WS_then ?_
      | refine W_ret ?_
      | ((refine W_region (id := 0) ?_) <;>
      (refine R_box (.agg _) [(.bool _), (.bool _), (.int _ _), (.int _ _), (.slice _ _ _), (.slice _ _ _), (.slice _ _ _)] rfl rfl rfl rfl ?_; intro bk) <;>
      (refine R_box (.agg _) [(.bool _), (.bool _), (.int _ _), (.int _ _), (.slice _ _ _), (.slice _ _ _), (.slice _ _ _)] rfl rfl rfl rfl ?_; intro bk) <;>
      (refine R_assign (.bool _) rfl rfl rfl ?_))
      | ((refine W_region (id := 1) ?_) <;>
      (refine R_field rfl rfl rfl ?_) <;>
      (refine R_load1 1 rfl rfl rfl rfl rfl rfl ?_) <;>
      (refine R_field rfl rfl rfl ?_) <;>
      (refine R_load1 0 rfl rfl rfl rfl rfl rfl ?_) <;>
      (refine R_eqlB _ rfl rfl rfl rfl rfl ?_) <;>
      (refine R_move (.bool _) rfl rfl rfl ?_) <;>
      (refine R_field rfl rfl rfl ?_) <;>
      (refine R_load1 1 rfl rfl rfl rfl rfl rfl ?_) <;>
      (refine R_field rfl rfl rfl ?_) <;>
      (refine R_load1 0 rfl rfl rfl rfl rfl rfl ?_) <;>
      (refine R_eqlB _ rfl rfl rfl rfl rfl ?_) <;>
      (refine R_pick (.bool _) rfl rfl rfl rfl ?_) <;>
      (refine R_move (.bool _) rfl rfl rfl ?_) <;>
      (refine R_field rfl rfl rfl ?_) <;>
      (refine R_load1 1 rfl rfl rfl rfl rfl rfl ?_) <;>
      (refine R_field rfl rfl rfl ?_) <;>
      (refine R_load1 0 rfl rfl rfl rfl rfl rfl ?_) <;>
      (refine R_eql_t rfl rfl (by omega) rfl rfl ?_) <;>
      (refine R_pick (.bool _) rfl rfl rfl rfl ?_) <;>
      (refine R_move (.bool _) rfl rfl rfl ?_) <;>
      (refine R_field rfl rfl rfl ?_) <;>
      (refine R_loadA 1 [(.int _ _), (.slice _ _ _), (.slice _ _ _), (.slice _ _ _)] rfl rfl rfl rfl rfl rfl ?_) <;>
      (refine R_field rfl rfl rfl ?_) <;>
      (refine R_loadA 0 [(.int _ _), (.slice _ _ _), (.slice _ _ _), (.slice _ _ _)] rfl rfl rfl rfl rfl rfl ?_) <;>
      (refine R_call (llScene_same (by assumption) (by assumption) (by assumption)) rfl rfl rfl rfl ?_; rintro _ _ ⟨rfl, hq⟩; replace hq := hq.symm; subst hq) <;>
      (refine R_pick (.bool _) rfl rfl rfl rfl ?_) <;>
      (refine R_assign (.bool _) rfl rfl rfl ?_)))
    exact end1 rfl ⟨rfl, rfl⟩
set_option maxHeartbeats 4000000 in
theorem llKeeper_same {w c e p s w' c' e' p' s' : Value} {k : Kpr} {h : LH} (ha : KeepC h w c e p s k) (hb : KeepC h w' c' e' p' s' k) (hB : KprB k) : Fn Tryz.prog A 32 [.agg [w, c, e, p, s].toArray, .agg [w', c', e', p', s'].toArray].toArray h (fun v h' => v = .bool true ∧ h' = h) := by
  obtain ⟨q1, c1, q2, c2, q3, c3, q4, c4, rfl, rfl, rfl, rfl, rfl⟩ := ha.shape
  obtain ⟨p1, d1, p2, d2, p3, d3, p4, d4, e1, rfl, rfl, rfl, rfl⟩ := hb.shape
  subst e1
  obtain ⟨ha1, ha2, ha3, ha4⟩ := ha
  obtain ⟨hb1, hb2, hb3, hb4⟩ := hb
  obtain ⟨B1, B2, B3, B4, B5, B6⟩ := hB
  refine Fn_body (n := 126) (fn := Tryz.f32) Tryz.func32 rfl rfl rfl ?_
  repeat' (first
    | refine W_seq ?_
    | refine WS_then ?_
    | refine W_else rfl ?_
    | refine W_skip ?_
    | refine W_block ?_
    | ((refine W_region (id := 0) ?_) <;>
    (refine R_box (.agg _) [(.int _ _), (.slice _ _ _), (.slice _ _ _), (.slice _ _ _), (.slice _ _ _)] rfl rfl rfl rfl ?_; intro bk) <;>
    (refine R_box (.agg _) [(.int _ _), (.slice _ _ _), (.slice _ _ _), (.slice _ _ _), (.slice _ _ _)] rfl rfl rfl rfl ?_; intro bk) <;>
    (refine R_assign (.bool _) rfl rfl rfl ?_))
    | ((refine W_region (id := 1) ?_) <;>
    (refine R_field rfl rfl rfl ?_) <;>
    (refine R_loadA 1 [(.int _ _), (.slice _ _ _)] rfl rfl rfl rfl rfl rfl ?_) <;>
    (refine R_field rfl rfl rfl ?_) <;>
    (refine R_loadA 0 [(.int _ _), (.slice _ _ _)] rfl rfl rfl rfl rfl rfl ?_) <;>
    (refine R_call (llGrid_same (by assumption) (by assumption) (by omega)) rfl rfl rfl rfl ?_; rintro _ _ ⟨rfl, hq⟩; replace hq := hq.symm; subst hq) <;>
    (refine R_not _ rfl rfl rfl rfl ?_) <;>
    (refine R_move (.bool _) rfl rfl rfl ?_) <;>
    (refine R_field rfl rfl rfl ?_) <;>
    (refine R_load1 1 rfl rfl rfl rfl rfl rfl ?_) <;>
    (refine R_field rfl rfl rfl ?_) <;>
    (refine R_load1 0 rfl rfl rfl rfl rfl rfl ?_) <;>
    (refine R_call (llEdits_same (by assumption) (by assumption) (by omega)) rfl rfl rfl rfl ?_; rintro _ _ ⟨rfl, hq⟩; replace hq := hq.symm; subst hq) <;>
    (refine R_not _ rfl rfl rfl rfl ?_) <;>
    (refine R_pick (.bool _) rfl rfl rfl rfl ?_) <;>
    (refine R_move (.bool _) rfl rfl rfl ?_) <;>
    (refine R_field rfl rfl rfl ?_) <;>
    (refine R_load1 1 rfl rfl rfl rfl rfl rfl ?_) <;>
    (refine R_len rfl rfl rfl ?_) <;>
    (refine R_field rfl rfl rfl ?_) <;>
    (refine R_load1 0 rfl rfl rfl rfl rfl rfl ?_) <;>
    (refine R_len rfl rfl rfl ?_) <;>
    (refine R_neq_f rfl rfl (by omega) rfl rfl ?_) <;>
    (refine R_pick (.bool _) rfl rfl rfl rfl ?_) <;>
    (refine R_move (.bool _) rfl rfl rfl ?_) <;>
    (refine R_field rfl rfl rfl ?_) <;>
    (refine R_load1 1 rfl rfl rfl rfl rfl rfl ?_) <;>
    (refine R_len rfl rfl rfl ?_) <;>
    (refine R_field rfl rfl rfl ?_) <;>
    (refine R_load1 0 rfl rfl rfl rfl rfl rfl ?_) <;>
    (refine R_len rfl rfl rfl ?_) <;>
    (refine R_neq_f rfl rfl (by omega) rfl rfl ?_) <;>
    (refine R_pick (.bool _) rfl rfl rfl rfl ?_))
    | ((refine W_region (id := 3) ?_) <;>
    (refine R_assign (.int _ _) rfl rfl rfl ?_)))
  rename_i b2
  revert bk
  intro b3
  refine W_loopA (ι := Nat) (fun i => k.parts.length - i) (fun i => [(2, .pointer (some ⟨b2, 0, none⟩)), (3, .pointer (some ⟨b3, 0, none⟩)), (5, .int .i64 i)]) (fun _ => [(b2, bx [.int .i64 k.first.wide, .slice q1 k.first.cells.length c1, .slice q2 k.edits.length c2, .slice q3 k.parts.length c3, .slice q4 k.shown.length c4] 32), (b3, bx [.int .i64 k.first.wide, .slice p1 k.first.cells.length d1, .slice p2 k.edits.length d2, .slice p3 k.parts.length d3, .slice p4 k.shown.length d4] 32)]) (fun _ => h)
    (fun i => i ≤ k.parts.length) 0 (by omega) (abs_mk ⟨rfl, rfl, rfl, trivial⟩ [1, 0] rfl) ?_
  intro i e hi
  by_cases hlt : i < k.parts.length
  · have hx : k.parts[i]? = some k.parts[i] := List.getElem?_eq_getElem hlt
    generalize k.parts[i] = x at hx
    obtain ⟨qa, ca, ea, _, hda⟩ := ha3
    obtain ⟨qb, cb, eb, _, hdb⟩ := hb3
    injection ea with ea; subst ea
    injection eb with eb; subst eb
    obtain ⟨b, o, vs, rfl, ⟨s1, rfl, hs1⟩, hat⟩ := hda i _ hx
    obtain ⟨b', o', vs', rfl, ⟨s2, rfl, hs2⟩, hat'⟩ := hdb i _ hx
    have hxl := B5 x (List.mem_of_getElem? hx)
    obtain ⟨hs, vr, ls⟩ := x
    simp only at hs1 hs2 hat hat' hxl
    have a0 := hat.nth 0 rfl
    have a1 := hat.nth 1 rfl
    have a2 := hat.nth 2 rfl
    have a0' := hat'.nth 0 rfl
    have a1' := hat'.nth 1 rfl
    have a2' := hat'.nth 2 rfl
    obtain ⟨w1, w2, rfl, _⟩ : ∃ w1 w2, s1 = .slice w1 ls.length w2 ∧ True := by obtain ⟨w1, w2, h, _⟩ := hs1; exact ⟨_, _, h, trivial⟩
    obtain ⟨w3, w4, rfl, _⟩ : ∃ w1 w2, s2 = .slice w1 ls.length w2 ∧ True := by obtain ⟨w1, w2, h, _⟩ := hs2; exact ⟨_, _, h, trivial⟩
    cases hs
    all_goals
      repeat' (first
        | refine W_seq ?_
        | refine WS_then ?_
        | refine W_if rfl ?_
        | refine W_skip ?_
        | refine W_block ?_
        | ((refine W_region (id := 4) ?_) <;>
        (refine R_move (.int _ _) rfl rfl rfl ?_) <;>
        (refine R_field rfl rfl rfl ?_) <;>
        (refine R_load1 0 rfl rfl rfl rfl rfl rfl ?_) <;>
        (refine R_len rfl rfl rfl ?_) <;>
        (refine R_lss_t rfl rfl (by omega) rfl rfl ?_)))
      all_goals refine W_draw (fun _ => false) [0, 1, 2, 3, 4, 5, 6, 7, 8, 9, 10, 11, 12, 13, 14, 15, 16, 17, 18, 19, 20, 21, 22, 23, 24, 25, 26, 27, 28, 29, 30, 31, 32, 33, 34, 35, 36, 37, 38, 39, 40, 41, 42, 43] (by kernel_rfl) (by kernel_rfl) (by kernel_rfl) (by kernel_rfl) ?_
      all_goals (refine WL_take 0 [1, 2, 3, 4, 5, 6, 7, 8, 9, 10, 11, 12, 13, 14, 15, 16, 17, 18, 19, 20, 21, 22, 23, 24, 25, 26, 27, 28, 29, 30, 31, 32, 33, 34, 35, 36, 37, 38, 39, 40, 41, 42, 43] rfl (by kernel_rfl) rfl (D_field rfl rfl) ?_)
      all_goals (refine WL_take 1 [2, 3, 4, 5, 6, 7, 8, 9, 10, 11, 12, 13, 14, 15, 16, 17, 18, 19, 20, 21, 22, 23, 24, 25, 26, 27, 28, 29, 30, 31, 32, 33, 34, 35, 36, 37, 38, 39, 40, 41, 42, 43] rfl (by kernel_rfl) rfl (D_load1 0 rfl rfl rfl rfl rfl) ?_)
      all_goals (refine WL_take 2 [3, 4, 5, 6, 7, 8, 9, 10, 11, 12, 13, 14, 15, 16, 17, 18, 19, 20, 21, 22, 23, 24, 25, 26, 27, 28, 29, 30, 31, 32, 33, 34, 35, 36, 37, 38, 39, 40, 41, 42, 43] rfl (by kernel_rfl) rfl (D_move (.int _ _) rfl rfl) ?_)
      all_goals (refine WL_take 3 [4, 5, 6, 7, 8, 9, 10, 11, 12, 13, 14, 15, 16, 17, 18, 19, 20, 21, 22, 23, 24, 25, 26, 27, 28, 29, 30, 31, 32, 33, 34, 35, 36, 37, 38, 39, 40, 41, 42, 43] rfl (by kernel_rfl) rfl (D_index rfl rfl (by omega) (by omega) rfl) ?_)
      all_goals (refine WL_take 4 [5, 6, 7, 8, 9, 10, 11, 12, 13, 14, 15, 16, 17, 18, 19, 20, 21, 22, 23, 24, 25, 26, 27, 28, 29, 30, 31, 32, 33, 34, 35, 36, 37, 38, 39, 40, 41, 42, 43] rfl (by kernel_rfl) rfl (D_field rfl rfl) ?_)
      all_goals (refine WL_take 5 [6, 7, 8, 9, 10, 11, 12, 13, 14, 15, 16, 17, 18, 19, 20, 21, 22, 23, 24, 25, 26, 27, 28, 29, 30, 31, 32, 33, 34, 35, 36, 37, 38, 39, 40, 41, 42, 43] rfl (by kernel_rfl) rfl (D_loadH1 rfl (by assumption) rfl rfl) ?_)
      all_goals (refine WL_take 6 [7, 8, 9, 10, 11, 12, 13, 14, 15, 16, 17, 18, 19, 20, 21, 22, 23, 24, 25, 26, 27, 28, 29, 30, 31, 32, 33, 34, 35, 36, 37, 38, 39, 40, 41, 42, 43] rfl (by kernel_rfl) rfl (D_field rfl rfl) ?_)
      all_goals (refine WL_take 7 [8, 9, 10, 11, 12, 13, 14, 15, 16, 17, 18, 19, 20, 21, 22, 23, 24, 25, 26, 27, 28, 29, 30, 31, 32, 33, 34, 35, 36, 37, 38, 39, 40, 41, 42, 43] rfl (by kernel_rfl) rfl (D_load1 1 rfl rfl rfl rfl rfl) ?_)
      all_goals (refine WL_take 8 [9, 10, 11, 12, 13, 14, 15, 16, 17, 18, 19, 20, 21, 22, 23, 24, 25, 26, 27, 28, 29, 30, 31, 32, 33, 34, 35, 36, 37, 38, 39, 40, 41, 42, 43] rfl (by kernel_rfl) rfl (D_move (.int _ _) rfl rfl) ?_)
      all_goals (refine WL_take 9 [10, 11, 12, 13, 14, 15, 16, 17, 18, 19, 20, 21, 22, 23, 24, 25, 26, 27, 28, 29, 30, 31, 32, 33, 34, 35, 36, 37, 38, 39, 40, 41, 42, 43] rfl (by kernel_rfl) rfl (D_index rfl rfl (by omega) (by omega) rfl) ?_)
      all_goals (refine WL_take 10 [11, 12, 13, 14, 15, 16, 17, 18, 19, 20, 21, 22, 23, 24, 25, 26, 27, 28, 29, 30, 31, 32, 33, 34, 35, 36, 37, 38, 39, 40, 41, 42, 43] rfl (by kernel_rfl) rfl (D_field rfl rfl) ?_)
      all_goals (refine WL_take 11 [12, 13, 14, 15, 16, 17, 18, 19, 20, 21, 22, 23, 24, 25, 26, 27, 28, 29, 30, 31, 32, 33, 34, 35, 36, 37, 38, 39, 40, 41, 42, 43] rfl (by kernel_rfl) rfl (D_loadH1 rfl (by assumption) rfl rfl) ?_)
      all_goals (refine WL_take 12 [13, 14, 15, 16, 17, 18, 19, 20, 21, 22, 23, 24, 25, 26, 27, 28, 29, 30, 31, 32, 33, 34, 35, 36, 37, 38, 39, 40, 41, 42, 43] rfl (by kernel_rfl) rfl (D_neqB _ rfl rfl rfl rfl) ?_)
      all_goals (refine WL_take 13 [14, 15, 16, 17, 18, 19, 20, 21, 22, 23, 24, 25, 26, 27, 28, 29, 30, 31, 32, 33, 34, 35, 36, 37, 38, 39, 40, 41, 42, 43] rfl (by kernel_rfl) rfl (D_move (.bool _) rfl rfl) ?_)
      all_goals (refine WL_take 14 [15, 16, 17, 18, 19, 20, 21, 22, 23, 24, 25, 26, 27, 28, 29, 30, 31, 32, 33, 34, 35, 36, 37, 38, 39, 40, 41, 42, 43] rfl (by kernel_rfl) rfl (D_field rfl rfl) ?_)
      all_goals (refine WL_take 15 [16, 17, 18, 19, 20, 21, 22, 23, 24, 25, 26, 27, 28, 29, 30, 31, 32, 33, 34, 35, 36, 37, 38, 39, 40, 41, 42, 43] rfl (by kernel_rfl) rfl (D_load1 0 rfl rfl rfl rfl rfl) ?_)
      all_goals (refine WL_take 16 [17, 18, 19, 20, 21, 22, 23, 24, 25, 26, 27, 28, 29, 30, 31, 32, 33, 34, 35, 36, 37, 38, 39, 40, 41, 42, 43] rfl (by kernel_rfl) rfl (D_move (.int _ _) rfl rfl) ?_)
      all_goals (refine WL_take 17 [18, 19, 20, 21, 22, 23, 24, 25, 26, 27, 28, 29, 30, 31, 32, 33, 34, 35, 36, 37, 38, 39, 40, 41, 42, 43] rfl (by kernel_rfl) rfl (D_index rfl rfl (by omega) (by omega) rfl) ?_)
      all_goals (refine WL_take 18 [19, 20, 21, 22, 23, 24, 25, 26, 27, 28, 29, 30, 31, 32, 33, 34, 35, 36, 37, 38, 39, 40, 41, 42, 43] rfl (by kernel_rfl) rfl (D_field rfl rfl) ?_)
      all_goals (refine WL_take 19 [20, 21, 22, 23, 24, 25, 26, 27, 28, 29, 30, 31, 32, 33, 34, 35, 36, 37, 38, 39, 40, 41, 42, 43] rfl (by kernel_rfl) rfl (D_loadH1 rfl (by assumption) rfl rfl) ?_)
      all_goals (refine WL_take 20 [21, 22, 23, 24, 25, 26, 27, 28, 29, 30, 31, 32, 33, 34, 35, 36, 37, 38, 39, 40, 41, 42, 43] rfl (by kernel_rfl) rfl (D_field rfl rfl) ?_)
      all_goals (refine WL_take 21 [22, 23, 24, 25, 26, 27, 28, 29, 30, 31, 32, 33, 34, 35, 36, 37, 38, 39, 40, 41, 42, 43] rfl (by kernel_rfl) rfl (D_load1 1 rfl rfl rfl rfl rfl) ?_)
      all_goals (refine WL_take 22 [23, 24, 25, 26, 27, 28, 29, 30, 31, 32, 33, 34, 35, 36, 37, 38, 39, 40, 41, 42, 43] rfl (by kernel_rfl) rfl (D_move (.int _ _) rfl rfl) ?_)
      all_goals (refine WL_take 23 [24, 25, 26, 27, 28, 29, 30, 31, 32, 33, 34, 35, 36, 37, 38, 39, 40, 41, 42, 43] rfl (by kernel_rfl) rfl (D_index rfl rfl (by omega) (by omega) rfl) ?_)
      all_goals (refine WL_take 24 [25, 26, 27, 28, 29, 30, 31, 32, 33, 34, 35, 36, 37, 38, 39, 40, 41, 42, 43] rfl (by kernel_rfl) rfl (D_field rfl rfl) ?_)
      all_goals (refine WL_take 25 [26, 27, 28, 29, 30, 31, 32, 33, 34, 35, 36, 37, 38, 39, 40, 41, 42, 43] rfl (by kernel_rfl) rfl (D_loadH1 rfl (by assumption) rfl rfl) ?_)
      all_goals (refine WL_take 26 [27, 28, 29, 30, 31, 32, 33, 34, 35, 36, 37, 38, 39, 40, 41, 42, 43] rfl (by kernel_rfl) rfl (D_neq_f rfl rfl (by omega) rfl) ?_)
      all_goals (refine WL_take 27 [28, 29, 30, 31, 32, 33, 34, 35, 36, 37, 38, 39, 40, 41, 42, 43] rfl (by kernel_rfl) rfl (D_pick (.bool _) rfl rfl rfl) ?_)
      all_goals (refine WL_take 28 [29, 30, 31, 32, 33, 34, 35, 36, 37, 38, 39, 40, 41, 42, 43] rfl (by kernel_rfl) rfl (D_move (.bool _) rfl rfl) ?_)
      all_goals (refine WL_take 29 [30, 31, 32, 33, 34, 35, 36, 37, 38, 39, 40, 41, 42, 43] rfl (by kernel_rfl) rfl (D_field rfl rfl) ?_)
      all_goals (refine WL_take 30 [31, 32, 33, 34, 35, 36, 37, 38, 39, 40, 41, 42, 43] rfl (by kernel_rfl) rfl (D_load1 0 rfl rfl rfl rfl rfl) ?_)
      all_goals (refine WL_take 31 [32, 33, 34, 35, 36, 37, 38, 39, 40, 41, 42, 43] rfl (by kernel_rfl) rfl (D_move (.int _ _) rfl rfl) ?_)
      all_goals (refine WL_take 32 [33, 34, 35, 36, 37, 38, 39, 40, 41, 42, 43] rfl (by kernel_rfl) rfl (D_index rfl rfl (by omega) (by omega) rfl) ?_)
      all_goals (refine WL_take 33 [34, 35, 36, 37, 38, 39, 40, 41, 42, 43] rfl (by kernel_rfl) rfl (D_field rfl rfl) ?_)
      all_goals (refine WL_take 34 [35, 36, 37, 38, 39, 40, 41, 42, 43] rfl (by kernel_rfl) rfl (D_loadH1 rfl (by assumption) rfl rfl) ?_)
      all_goals (refine WL_take 35 [36, 37, 38, 39, 40, 41, 42, 43] rfl (by kernel_rfl) rfl (D_field rfl rfl) ?_)
      all_goals (refine WL_take 36 [37, 38, 39, 40, 41, 42, 43] rfl (by kernel_rfl) rfl (D_load1 1 rfl rfl rfl rfl rfl) ?_)
      all_goals (refine WL_take 37 [38, 39, 40, 41, 42, 43] rfl (by kernel_rfl) rfl (D_move (.int _ _) rfl rfl) ?_)
      all_goals (refine WL_take 38 [39, 40, 41, 42, 43] rfl (by kernel_rfl) rfl (D_index rfl rfl (by omega) (by omega) rfl) ?_)
      all_goals (refine WL_take 39 [40, 41, 42, 43] rfl (by kernel_rfl) rfl (D_field rfl rfl) ?_)
      all_goals (refine WL_take 40 [41, 42, 43] rfl (by kernel_rfl) rfl (D_loadH1 rfl (by assumption) rfl rfl) ?_)
      all_goals (refine WL_callP 41 [42, 43] rfl (by kernel_rfl) rfl (llInts_same (by assumption) (by assumption) (by omega)) rfl rfl rfl ?_; rintro _ _ ⟨rfl, hq⟩; replace hq := hq.symm; subst hq)
      all_goals (refine WL_take 42 [43] rfl (by kernel_rfl) rfl (D_not _ rfl rfl rfl) ?_)
      all_goals (refine WL_take 43 [] rfl (by kernel_rfl) rfl (D_pick (.bool _) rfl rfl rfl) ?_)
      all_goals refine WL_nil ?_
      -- left: [] ready: [] []
      repeat' (first
        | refine WS_end ?_
        | refine W_else rfl ?_
        | refine W_skip ?_
        | refine then_normal ?_
        | refine block_normal ?_
        | ((refine W_region (id := 5) ?_) <;>
        (refine R_move (.int _ _) rfl rfl rfl ?_) <;>
        (refine R_add rfl rfl (by omega) rfl rfl ?_) <;>
        (refine R_assign (.int _ _) rfl rfl rfl ?_)))
      exact ⟨i + 1, by omega, abs_mk ⟨rfl, rfl, ivq (by omega), trivial⟩ [0, 0] rfl, by omega⟩
  · repeat' (first
      | refine W_seq ?_
      | refine WS_then ?_
      | refine W_else rfl ?_
      | refine W_block ?_
      | refine W_exit ?_
      | ((refine W_region (id := 4) ?_) <;>
      (refine R_move (.int _ _) rfl rfl rfl ?_) <;>
      (refine R_field rfl rfl rfl ?_) <;>
      (refine R_load1 0 rfl rfl rfl rfl rfl rfl ?_) <;>
      (refine R_len rfl rfl rfl ?_) <;>
      (refine R_lss_f rfl rfl (by omega) rfl rfl ?_))
      | ((refine W_region (id := 8) ?_) <;>
      (refine R_assign (.int _ _) rfl rfl rfl ?_)))
    refine W_loopA (ι := Nat) (fun i => k.shown.length - i) (fun i => [(2, .pointer (some ⟨b2, 0, none⟩)), (3, .pointer (some ⟨b3, 0, none⟩)), (6, .int .i64 i)]) (fun _ => [(b2, bx [.int .i64 k.first.wide, .slice q1 k.first.cells.length c1, .slice q2 k.edits.length c2, .slice q3 k.parts.length c3, .slice q4 k.shown.length c4] 32), (b3, bx [.int .i64 k.first.wide, .slice p1 k.first.cells.length d1, .slice p2 k.edits.length d2, .slice p3 k.parts.length d3, .slice p4 k.shown.length d4] 32)]) (fun _ => h)
      (fun i => i ≤ k.shown.length) 0 (by omega) (abs_mk ⟨rfl, rfl, rfl, trivial⟩ [0, 0] rfl) ?_
    clear e hi hlt i
    intro i e hi
    by_cases hlt : i < k.shown.length
    · have hx : k.shown[i]? = some k.shown[i] := List.getElem?_eq_getElem hlt
      generalize k.shown[i] = x at hx
      obtain ⟨qa, ca, ea, _, hda⟩ := ha4
      obtain ⟨qb, cb, eb, _, hdb⟩ := hb4
      injection ea with ea; subst ea
      injection eb with eb; subst eb
      obtain ⟨b, o, vs, rfl, ⟨s1, rfl, hs1⟩, hat⟩ := hda i _ hx
      obtain ⟨b', o', vs', rfl, ⟨s2, rfl, hs2⟩, hat'⟩ := hdb i _ hx
      have hxl := B6 x (List.mem_of_getElem? hx)
      obtain ⟨vr, ls⟩ := x
      simp only at hs1 hs2 hat hat' hxl
      have a0 := hat.nth 0 rfl
      have a1 := hat.nth 1 rfl
      have a0' := hat'.nth 0 rfl
      have a1' := hat'.nth 1 rfl
      obtain ⟨w1, w2, rfl, _⟩ : ∃ w1 w2, s1 = .slice w1 ls.length w2 ∧ True := by obtain ⟨w1, w2, h, _⟩ := hs1; exact ⟨_, _, h, trivial⟩
      obtain ⟨w3, w4, rfl, _⟩ : ∃ w1 w2, s2 = .slice w1 ls.length w2 ∧ True := by obtain ⟨w1, w2, h, _⟩ := hs2; exact ⟨_, _, h, trivial⟩
      repeat' (first
        | refine W_seq ?_
        | refine WS_then ?_
        | refine W_if rfl ?_
        | refine W_skip ?_
        | refine W_block ?_
        | ((refine W_region (id := 9) ?_) <;>
        (refine R_move (.int _ _) rfl rfl rfl ?_) <;>
        (refine R_field rfl rfl rfl ?_) <;>
        (refine R_load1 0 rfl rfl rfl rfl rfl rfl ?_) <;>
        (refine R_len rfl rfl rfl ?_) <;>
        (refine R_lss_t rfl rfl (by omega) rfl rfl ?_)))
      all_goals refine W_draw (fun _ => false) [0, 1, 2, 3, 4, 5, 6, 7, 8, 9, 10, 11, 12, 13, 14, 15, 16, 17, 18, 19, 20, 21, 22, 23, 24, 25, 26, 27, 28] (by kernel_rfl) (by kernel_rfl) (by kernel_rfl) (by kernel_rfl) ?_
      all_goals (refine WL_take 0 [1, 2, 3, 4, 5, 6, 7, 8, 9, 10, 11, 12, 13, 14, 15, 16, 17, 18, 19, 20, 21, 22, 23, 24, 25, 26, 27, 28] rfl (by kernel_rfl) rfl (D_field rfl rfl) ?_)
      all_goals (refine WL_take 1 [2, 3, 4, 5, 6, 7, 8, 9, 10, 11, 12, 13, 14, 15, 16, 17, 18, 19, 20, 21, 22, 23, 24, 25, 26, 27, 28] rfl (by kernel_rfl) rfl (D_load1 0 rfl rfl rfl rfl rfl) ?_)
      all_goals (refine WL_take 2 [3, 4, 5, 6, 7, 8, 9, 10, 11, 12, 13, 14, 15, 16, 17, 18, 19, 20, 21, 22, 23, 24, 25, 26, 27, 28] rfl (by kernel_rfl) rfl (D_move (.int _ _) rfl rfl) ?_)
      all_goals (refine WL_take 3 [4, 5, 6, 7, 8, 9, 10, 11, 12, 13, 14, 15, 16, 17, 18, 19, 20, 21, 22, 23, 24, 25, 26, 27, 28] rfl (by kernel_rfl) rfl (D_index rfl rfl (by omega) (by omega) rfl) ?_)
      all_goals (refine WL_take 4 [5, 6, 7, 8, 9, 10, 11, 12, 13, 14, 15, 16, 17, 18, 19, 20, 21, 22, 23, 24, 25, 26, 27, 28] rfl (by kernel_rfl) rfl (D_field rfl rfl) ?_)
      all_goals (refine WL_take 5 [6, 7, 8, 9, 10, 11, 12, 13, 14, 15, 16, 17, 18, 19, 20, 21, 22, 23, 24, 25, 26, 27, 28] rfl (by kernel_rfl) rfl (D_loadH1 rfl (by assumption) rfl rfl) ?_)
      all_goals (refine WL_take 6 [7, 8, 9, 10, 11, 12, 13, 14, 15, 16, 17, 18, 19, 20, 21, 22, 23, 24, 25, 26, 27, 28] rfl (by kernel_rfl) rfl (D_field rfl rfl) ?_)
      all_goals (refine WL_take 7 [8, 9, 10, 11, 12, 13, 14, 15, 16, 17, 18, 19, 20, 21, 22, 23, 24, 25, 26, 27, 28] rfl (by kernel_rfl) rfl (D_load1 1 rfl rfl rfl rfl rfl) ?_)
      all_goals (refine WL_take 8 [9, 10, 11, 12, 13, 14, 15, 16, 17, 18, 19, 20, 21, 22, 23, 24, 25, 26, 27, 28] rfl (by kernel_rfl) rfl (D_move (.int _ _) rfl rfl) ?_)
      all_goals (refine WL_take 9 [10, 11, 12, 13, 14, 15, 16, 17, 18, 19, 20, 21, 22, 23, 24, 25, 26, 27, 28] rfl (by kernel_rfl) rfl (D_index rfl rfl (by omega) (by omega) rfl) ?_)
      all_goals (refine WL_take 10 [11, 12, 13, 14, 15, 16, 17, 18, 19, 20, 21, 22, 23, 24, 25, 26, 27, 28] rfl (by kernel_rfl) rfl (D_field rfl rfl) ?_)
      all_goals (refine WL_take 11 [12, 13, 14, 15, 16, 17, 18, 19, 20, 21, 22, 23, 24, 25, 26, 27, 28] rfl (by kernel_rfl) rfl (D_loadH1 rfl (by assumption) rfl rfl) ?_)
      all_goals (refine WL_take 12 [13, 14, 15, 16, 17, 18, 19, 20, 21, 22, 23, 24, 25, 26, 27, 28] rfl (by kernel_rfl) rfl (D_neq_f rfl rfl (by omega) rfl) ?_)
      all_goals (refine WL_take 13 [14, 15, 16, 17, 18, 19, 20, 21, 22, 23, 24, 25, 26, 27, 28] rfl (by kernel_rfl) rfl (D_move (.bool _) rfl rfl) ?_)
      all_goals (refine WL_take 14 [15, 16, 17, 18, 19, 20, 21, 22, 23, 24, 25, 26, 27, 28] rfl (by kernel_rfl) rfl (D_field rfl rfl) ?_)
      all_goals (refine WL_take 15 [16, 17, 18, 19, 20, 21, 22, 23, 24, 25, 26, 27, 28] rfl (by kernel_rfl) rfl (D_load1 0 rfl rfl rfl rfl rfl) ?_)
      all_goals (refine WL_take 16 [17, 18, 19, 20, 21, 22, 23, 24, 25, 26, 27, 28] rfl (by kernel_rfl) rfl (D_move (.int _ _) rfl rfl) ?_)
      all_goals (refine WL_take 17 [18, 19, 20, 21, 22, 23, 24, 25, 26, 27, 28] rfl (by kernel_rfl) rfl (D_index rfl rfl (by omega) (by omega) rfl) ?_)
      all_goals (refine WL_take 18 [19, 20, 21, 22, 23, 24, 25, 26, 27, 28] rfl (by kernel_rfl) rfl (D_field rfl rfl) ?_)
      all_goals (refine WL_take 19 [20, 21, 22, 23, 24, 25, 26, 27, 28] rfl (by kernel_rfl) rfl (D_loadH1 rfl (by assumption) rfl rfl) ?_)
      all_goals (refine WL_take 20 [21, 22, 23, 24, 25, 26, 27, 28] rfl (by kernel_rfl) rfl (D_field rfl rfl) ?_)
      all_goals (refine WL_take 21 [22, 23, 24, 25, 26, 27, 28] rfl (by kernel_rfl) rfl (D_load1 1 rfl rfl rfl rfl rfl) ?_)
      all_goals (refine WL_take 22 [23, 24, 25, 26, 27, 28] rfl (by kernel_rfl) rfl (D_move (.int _ _) rfl rfl) ?_)
      all_goals (refine WL_take 23 [24, 25, 26, 27, 28] rfl (by kernel_rfl) rfl (D_index rfl rfl (by omega) (by omega) rfl) ?_)
      all_goals (refine WL_take 24 [25, 26, 27, 28] rfl (by kernel_rfl) rfl (D_field rfl rfl) ?_)
      all_goals (refine WL_take 25 [26, 27, 28] rfl (by kernel_rfl) rfl (D_loadH1 rfl (by assumption) rfl rfl) ?_)
      all_goals (refine WL_callP 26 [27, 28] rfl (by kernel_rfl) rfl (llInts_same (by assumption) (by assumption) (by omega)) rfl rfl rfl ?_; rintro _ _ ⟨rfl, hq⟩; replace hq := hq.symm; subst hq)
      all_goals (refine WL_take 27 [28] rfl (by kernel_rfl) rfl (D_not _ rfl rfl rfl) ?_)
      all_goals (refine WL_take 28 [] rfl (by kernel_rfl) rfl (D_pick (.bool _) rfl rfl rfl) ?_)
      all_goals refine WL_nil ?_
      -- left: [] ready: [] []
      repeat' (first
        | refine WS_end ?_
        | refine W_else rfl ?_
        | refine W_skip ?_
        | refine then_normal ?_
        | refine block_normal ?_
        | ((refine W_region (id := 10) ?_) <;>
        (refine R_move (.int _ _) rfl rfl rfl ?_) <;>
        (refine R_add rfl rfl (by omega) rfl rfl ?_) <;>
        (refine R_assign (.int _ _) rfl rfl rfl ?_)))
      exact ⟨i + 1, by omega, abs_mk ⟨rfl, rfl, ivq (by omega), trivial⟩ [0, 0] rfl, by omega⟩
    · repeat' (first
        | refine W_seq ?_
        | refine WS_then ?_
        | refine W_else rfl ?_
        | refine W_ret ?_
        | refine W_exit ?_
        | ((refine W_region (id := 9) ?_) <;>
        (refine R_move (.int _ _) rfl rfl rfl ?_) <;>
        (refine R_field rfl rfl rfl ?_) <;>
        (refine R_load1 0 rfl rfl rfl rfl rfl rfl ?_) <;>
        (refine R_len rfl rfl rfl ?_) <;>
        (refine R_lss_f rfl rfl (by omega) rfl rfl ?_))
        | ((refine W_region (id := 13) ?_) <;>
        (refine R_assign (.bool _) rfl rfl rfl ?_)))
      exact end1 rfl ⟨rfl, rfl⟩
end Go.Lu
