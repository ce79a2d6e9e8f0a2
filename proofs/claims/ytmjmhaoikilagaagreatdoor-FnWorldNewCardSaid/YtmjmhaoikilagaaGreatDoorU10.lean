/- a fresh world is ok -/
import Derived.Test.YtmjmhaoikilagaaGreatDoorU9
set_option linter.unusedVariables false
set_option linter.unusedSectionVars false
namespace Go.Lu
open Go.Proofs
variable {main : Bool} {lo : Nat → Prop} {A : (Goroutine → LH → Prop) → Prop} [hA : Adm Tryz.prog main lo A]
include hA
set_option maxHeartbeats 1000000 in
theorem EqualCell_same {va vb : Value} {cs : List Cel} {h : LH} (ha : Sd h 2 va cs CelR) (hb : Sd h 2 vb cs CelR) (hl : cs.length ≤ 100000) : Fn Tryz.prog A 116 [va, vb].toArray h (fun v h' => v = .bool true ∧ h' = h) := by
  obtain ⟨pa, ca, rfl, hpa, hda⟩ := ha
  obtain ⟨pb, cb, rfl, hpb, hdb⟩ := hb
  refine Fn_body (n := 26) (fn := Tryz.f116) Tryz.func116 rfl rfl rfl ?_
  repeat' (first
    | refine W_seq ?_
    | refine WS_then ?_
    | refine W_else rfl ?_
    | refine W_skip ?_
    | refine W_block ?_
    | ((refine W_region (id := 0) ?_) <;>
    (refine R_assign (.bool _) rfl rfl rfl ?_))
    | ((refine W_region (id := 1) ?_) <;>
    (refine R_move (.slice _ _ _) rfl rfl rfl ?_) <;>
    (refine R_len rfl rfl rfl ?_) <;>
    (refine R_move (.slice _ _ _) rfl rfl rfl ?_) <;>
    (refine R_len rfl rfl rfl ?_) <;>
    (refine R_neq_f rfl rfl (by omega) rfl rfl ?_))
    | ((refine W_region (id := 3) ?_) <;>
    (refine R_move (.slice _ _ _) rfl rfl rfl ?_) <;>
    (refine R_len rfl rfl rfl ?_) <;>
    (refine R_move (.int _ _) rfl rfl rfl ?_)))
  refine W_loopA (ι := Nat) (fun i => cs.length - i) (fun i => [(0, .slice pa cs.length ca), (1, .slice pb cs.length cb), (12, .int .i64 cs.length), (13, .int .i64 i)]) (fun _ => []) (fun _ => h)
    (fun i => i ≤ cs.length) 0 (by omega) (abs_mk ⟨rfl, rfl, rfl, rfl, trivial⟩ [] rfl) ?_
  intro i e hi
  by_cases hlt : i < cs.length
  · have hx : cs[i]? = some cs[i] := List.getElem?_eq_getElem hlt
    generalize cs[i] = x at hx
    obtain ⟨k, l⟩ := x
    obtain ⟨b, o, vs, rfl, rfl, hat⟩ := hda i _ hx
    obtain ⟨b', o', vs', rfl, rfl, hat'⟩ := hdb i _ hx
    simp only [celV] at hat hat'
    repeat' (first
      | refine W_seq ?_
      | refine WS_then ?_
      | refine W_if rfl ?_
      | refine W_skip ?_
      | refine W_block ?_
      | ((refine W_region (id := 4) ?_) <;>
      (refine R_lss_t rfl rfl (by omega) rfl rfl ?_))
      | ((refine W_region (id := 5) ?_) <;>
      (refine R_move (.int _ _) rfl rfl rfl ?_) <;>
      (refine R_assign (.int _ _) rfl rfl rfl ?_)))
    all_goals refine W_draw (fun _ => false) [0, 1, 2, 3, 4, 5, 6, 7, 8] (by kernel_rfl) (by kernel_rfl) (by kernel_rfl) (by kernel_rfl) ?_
    all_goals (refine WL_take 0 [1, 2, 3, 4, 5, 6, 7, 8] rfl (by kernel_rfl) rfl (D_move (.slice _ _ _) rfl rfl) ?_)
    all_goals (refine WL_take 1 [2, 3, 4, 5, 6, 7, 8] rfl (by kernel_rfl) rfl (D_move (.int _ _) rfl rfl) ?_)
    all_goals (refine WL_take 2 [3, 4, 5, 6, 7, 8] rfl (by kernel_rfl) rfl (D_index rfl rfl (by omega) (by omega) rfl) ?_)
    all_goals (refine WL_take 3 [4, 5, 6, 7, 8] rfl (by kernel_rfl) rfl (D_loadHA rfl (by assumption) rfl rfl) ?_)
    all_goals (refine WL_take 4 [5, 6, 7, 8] rfl (by kernel_rfl) rfl (D_move (.slice _ _ _) rfl rfl) ?_)
    all_goals (refine WL_take 5 [6, 7, 8] rfl (by kernel_rfl) rfl (D_move (.int _ _) rfl rfl) ?_)
    all_goals (refine WL_take 6 [7, 8] rfl (by kernel_rfl) rfl (D_index rfl rfl (by omega) (by omega) rfl) ?_)
    all_goals (refine WL_take 7 [8] rfl (by kernel_rfl) rfl (D_loadHA rfl (by assumption) rfl rfl) ?_)
    all_goals (refine WL_take 8 [] rfl (by kernel_rfl) rfl (D_neqS false rfl rfl (by simp) rfl) ?_)
    all_goals refine WL_nil ?_
    -- left: [] ready: [] []
    repeat' (first
      | refine WS_end ?_
      | refine W_else rfl ?_
      | refine W_skip ?_
      | refine then_normal ?_
      | refine block_normal ?_
      | ((refine W_region (id := 8) ?_) <;>
      (refine R_add rfl rfl (by omega) rfl rfl ?_) <;>
      (refine R_move (.int _ _) rfl rfl rfl ?_)))
    exact ⟨i + 1, by omega, abs_mk ⟨rfl, rfl, rfl, ivq (by omega), trivial⟩ [] rfl, by omega⟩
  · repeat' (first
      | refine W_seq ?_
      | refine WS_then ?_
      | refine W_else rfl ?_
      | refine W_ret ?_
      | refine W_exit ?_
      | ((refine W_region (id := 4) ?_) <;>
      (refine R_lss_f rfl rfl (by omega) rfl rfl ?_))
      | ((refine W_region (id := 9) ?_) <;>
      (refine R_assign (.bool _) rfl rfl rfl ?_)))
    exact end1 rfl ⟨rfl, rfl⟩
theorem gridSame_same {va vb : Value} {g : Grd} {h : LH} (ha : GridD h va g) (hb : GridD h vb g) (hl : g.cells.length ≤ 100000) : Fn Tryz.prog A 80 [va, vb].toArray h (fun v h' => v = .bool true ∧ h' = h) := by
  obtain ⟨pa, ca, rfl, hpa, hda⟩ := ha
  obtain ⟨pb, cb, rfl, hpb, hdb⟩ := hb
  have hsa : Sd h 2 (.slice pa g.cells.length ca) g.cells CelR := ⟨pa, ca, rfl, hpa, hda⟩
  have hsb : Sd h 2 (.slice pb g.cells.length cb) g.cells CelR := ⟨pb, cb, rfl, hpb, hdb⟩
  refine Fn_body (n := 17) (fn := Tryz.f80) Tryz.func80 rfl rfl rfl ?_
  repeat' (first
    | refine W_seq ?_
    | refine WS_then ?_
    | refine W_ret ?_
    | ((refine W_region (id := 0) ?_) <;>
    (refine R_box (.agg _) [(.int _ _), (.slice _ _ _)] rfl rfl rfl rfl ?_; intro bk) <;>
    (refine R_box (.agg _) [(.int _ _), (.slice _ _ _)] rfl rfl rfl rfl ?_; intro bk) <;>
    (refine R_assign (.bool _) rfl rfl rfl ?_))
    | ((refine W_region (id := 1) ?_) <;>
    (refine R_field rfl rfl rfl ?_) <;>
    (refine R_load1 1 rfl rfl rfl rfl rfl rfl ?_) <;>
    (refine R_field rfl rfl rfl ?_) <;>
    (refine R_load1 0 rfl rfl rfl rfl rfl rfl ?_) <;>
    (refine R_eql_t rfl rfl (by omega) rfl rfl ?_) <;>
    (refine R_move (.bool _) rfl rfl rfl ?_) <;>
    (refine R_field rfl rfl rfl ?_) <;>
    (refine R_load1 1 rfl rfl rfl rfl rfl rfl ?_) <;>
    (refine R_field rfl rfl rfl ?_) <;>
    (refine R_load1 0 rfl rfl rfl rfl rfl rfl ?_) <;>
    (refine R_call (EqualCell_same (by assumption) (by assumption) (by omega)) rfl rfl rfl rfl ?_; rintro _ _ ⟨rfl, hq⟩; replace hq := hq.symm; subst hq) <;>
    (refine R_pick (.bool _) rfl rfl rfl rfl ?_) <;>
    (refine R_assign (.bool _) rfl rfl rfl ?_)))
  exact end1 rfl ⟨rfl, rfl⟩
theorem EqualRows_nil {va vb f : Value} {h : LH} (ha : Sd h 1 va ([] : List (List Int)) (RowR h)) (hb : Sd h 1 vb ([] : List (List Int)) (RowR h)) : Fn Tryz.prog A 142 [va, vb, f].toArray h (fun v h' => v = .bool true ∧ h' = h) := by
  obtain ⟨pa, ca, rfl, hpa, hda⟩ := ha
  obtain ⟨pb, cb, rfl, hpb, hdb⟩ := hb
  refine Fn_body (n := 32) (fn := Tryz.f142) Tryz.func142 rfl rfl rfl ?_
  repeat' (first
    | refine W_seq ?_
    | refine WS_then ?_
    | refine W_else rfl ?_
    | refine W_skip ?_
    | refine W_block ?_
    | ((refine W_region (id := 0) ?_) <;>
    (refine R_assign (.bool _) rfl rfl rfl ?_))
    | ((refine W_region (id := 1) ?_) <;>
    (refine R_move (.slice _ _ _) rfl rfl rfl ?_) <;>
    (refine R_len rfl rfl rfl ?_) <;>
    (refine R_move (.slice _ _ _) rfl rfl rfl ?_) <;>
    (refine R_len rfl rfl rfl ?_) <;>
    (refine R_neq_f rfl rfl (by omega) rfl rfl ?_))
    | ((refine W_region (id := 3) ?_) <;>
    (refine R_move (.slice _ _ _) rfl rfl rfl ?_) <;>
    (refine R_len rfl rfl rfl ?_) <;>
    (refine R_move (.int _ _) rfl rfl rfl ?_)))
  refine W_loopA (ι := Unit) (fun i => 0) (fun i => [(16, .int .i64 0), (17, .int .i64 0)]) (fun _ => []) (fun _ => h) (fun i => True) () trivial (abs_mk ⟨rfl, rfl, trivial⟩ [] rfl) ?_
  intro i e hi
  repeat' (first
    | refine W_seq ?_
    | refine WS_then ?_
    | refine W_else rfl ?_
    | refine W_ret ?_
    | refine W_exit ?_
    | ((refine W_region (id := 4) ?_) <;>
    (refine R_lss_f rfl rfl (by omega) rfl rfl ?_))
    | ((refine W_region (id := 10) ?_) <;>
    (refine R_assign (.bool _) rfl rfl rfl ?_)))
  exact end1 rfl ⟨rfl, rfl⟩
theorem EqualNil_fn {va vb : Value} {h : LH} (ha : Sd h 1 va ([] : List Int) IntR) (hb : Sd h 1 vb ([] : List Int) IntR) : Fn Tryz.prog A 87 [va, vb].toArray h (fun v h' => v = .bool true ∧ h' = h) :=
  Fn.mono (Equal_fn (main := main) (lo := lo) ha hb (by simp)) fun v h' ⟨a, b⟩ => ⟨by rw [a]; simp, b⟩
theorem sceneSame_nil {w c l f w' c' l' f' : Value} {h : LH} (ha : ScnC h w c l f ⟨grd0, [], []⟩) (hb : ScnC h w' c' l' f' ⟨grd0, [], []⟩) : Fn Tryz.prog A 115 [.agg [w, c, l, f].toArray, .agg [w', c', l', f'].toArray].toArray h (fun v h' => v = .bool true ∧ h' = h) := by
  obtain ⟨q1, c1, q2, c2, q3, c3, rfl, rfl, rfl, rfl⟩ := ha.shape
  obtain ⟨p1, d1, p2, d2, p3, d3, e1, rfl, rfl, rfl⟩ := hb.shape
  subst e1
  obtain ⟨ha1, ha2, ha3⟩ := ha
  obtain ⟨hb1, hb2, hb3⟩ := hb
  have hl : grd0.cells.length ≤ 100000 := by simp [grd0]
  have ha2' : Sd h 1 (.slice q2 0 c2) ([] : List Int) IntR := ha2
  have hb2' : Sd h 1 (.slice p2 0 d2) ([] : List Int) IntR := hb2
  have ha3' : Sd h 1 (.slice q3 0 c3) ([] : List (List Int)) (RowR h) := ha3
  have hb3' : Sd h 1 (.slice p3 0 d3) ([] : List (List Int)) (RowR h) := hb3
  simp only [List.length_nil]
  clear ha2 ha3 hb2 hb3
  refine Fn_body (n := 24) (fn := Tryz.f115) Tryz.func115 rfl rfl rfl ?_
-- CALL Equal.int := EqualNil_fn (by assumption) (by assumption) ;; rintro _ _ ⟨rfl, hq⟩; replace hq := hq.symm; subst hq
-- CALL impl.gridSame := gridSame_same (g := grd0) (by assumption) (by assumption) (by assumption) ;; rintro _ _ ⟨rfl, hq⟩; replace hq := hq.symm; subst hq
  repeat' (first
    | refine W_seq ?_
    | refine WS_then ?_
    | refine W_ret ?_
    | ((refine W_region (id := 0) ?_) <;>
    (refine R_box (.agg _) [(.int _ _), (.slice _ _ _), (.slice _ _ _), (.slice _ _ _)] rfl rfl rfl rfl ?_; intro bk) <;>
    (refine R_box (.agg _) [(.int _ _), (.slice _ _ _), (.slice _ _ _), (.slice _ _ _)] rfl rfl rfl rfl ?_; intro bk) <;>
    (refine R_assign (.bool _) rfl rfl rfl ?_))
    | ((refine W_region (id := 1) ?_) <;>
    (refine R_field rfl rfl rfl ?_) <;>
    (refine R_loadA 1 [(.int _ _), (.slice _ _ _)] rfl rfl rfl rfl rfl rfl ?_) <;>
    (refine R_field rfl rfl rfl ?_) <;>
    (refine R_loadA 0 [(.int _ _), (.slice _ _ _)] rfl rfl rfl rfl rfl rfl ?_) <;>
    (refine R_call (gridSame_same (by assumption) (by assumption) (by omega)) rfl rfl rfl rfl ?_; rintro _ _ ⟨rfl, hq⟩; replace hq := hq.symm; subst hq) <;>
    (refine R_move (.bool _) rfl rfl rfl ?_) <;>
    (refine R_field rfl rfl rfl ?_) <;>
    (refine R_load1 1 rfl rfl rfl rfl rfl rfl ?_) <;>
    (refine R_field rfl rfl rfl ?_) <;>
    (refine R_load1 0 rfl rfl rfl rfl rfl rfl ?_) <;>
    (refine R_call (EqualNil_fn (by assumption) (by assumption)) rfl rfl rfl rfl ?_; rintro _ _ ⟨rfl, hq⟩; replace hq := hq.symm; subst hq) <;>
    (refine R_pick (.bool _) rfl rfl rfl rfl ?_) <;>
    (refine R_move (.bool _) rfl rfl rfl ?_) <;>
    (refine R_field rfl rfl rfl ?_) <;>
    (refine R_load1 1 rfl rfl rfl rfl rfl rfl ?_) <;>
    (refine R_field rfl rfl rfl ?_) <;>
    (refine R_load1 0 rfl rfl rfl rfl rfl rfl ?_) <;>
    (refine R_call (EqualRows_nil (by assumption) (by assumption)) rfl rfl rfl rfl ?_; rintro _ _ ⟨rfl, hq⟩; replace hq := hq.symm; subst hq) <;>
    (refine R_pick (.bool _) rfl rfl rfl rfl ?_) <;>
    (refine R_assign (.bool _) rfl rfl rfl ?_)))
  exact end1 rfl ⟨rfl, rfl⟩
theorem AsNil_fn (t : Value) {h : LH} : Fn Tryz.prog A 84 [.nilIface, t].toArray h (fun v h' => v = .bool false ∧ h' = h) := by
  refine Fn_body (n := 42) (fn := Tryz.f84) Tryz.func84 rfl rfl rfl ?_
  repeat' (first
    | refine W_seq ?_
    | refine WS_then ?_
    | refine W_if rfl ?_
    | refine W_ret ?_
    | refine then_ret ?_
    | ((refine W_region (id := 0) ?_) <;>
    (refine R_assign (.bool _) rfl rfl rfl ?_))
    | ((refine W_region (id := 1) ?_) <;>
    (refine R_move .nilIface rfl rfl rfl ?_) <;>
    (refine R_eqlNilI _ rfl (by first | exact .inl rfl | exact .inr ⟨_, _, rfl⟩) rfl rfl rfl ?_))
    | ((refine W_region (id := 2) ?_) <;>
    (refine R_assign (.bool _) rfl rfl rfl ?_)))
  exact end1 rfl ⟨rfl, rfl⟩
theorem refusedNil_fn {h : LH} : Fn Tryz.prog A 48 [.nilIface].toArray h (fun v h' => v = .bool false ∧ h' = h) := by
  refine Fn_body (n := 7) (fn := Tryz.f48) Tryz.func48 rfl rfl rfl ?_
  repeat' (first
    | refine W_seq ?_
    | refine WS_then ?_
    | refine W_ret ?_
    | ((refine W_region (id := 0) ?_) <;>
    (refine R_assign (.bool _) rfl rfl rfl ?_))
    | ((refine W_region (id := 1) ?_) <;>
    (refine R_alloc rfl rfl ?_; intro bk))
    | ((refine W_region (id := 2) ?_) <;>
    (refine R_move .nilIface rfl rfl rfl ?_) <;>
    (refine R_mkIface (.pointer _) rfl rfl rfl ?_) <;>
    (refine R_call (AsNil_fn _) rfl rfl rfl rfl ?_; rintro _ _ ⟨rfl, hq⟩; replace hq := hq.symm; subst hq) <;>
    (refine R_assign (.bool _) rfl rfl rfl ?_)))
  exact end1 rfl ⟨rfl, rfl⟩
theorem keepVersion_ok {w c e p s : Value} {k : Kpr} {h : LH} {ver : Int} (hK : KeepC h w c e p s k) (h0 : 0 ≤ ver) (h1 : ver ≤ k.edits.length) : Fn Tryz.prog A 59 [.agg [w, c, e, p, s].toArray, .int .i64 ver].toArray h (fun v h' => v = .nilIface ∧ h' = h) := by
  obtain ⟨q1, c1, q2, c2, q3, c3, q4, c4, rfl, rfl, rfl, rfl, rfl⟩ := hK.shape
  refine Fn_body (n := 16) (fn := Tryz.f59) Tryz.func59 rfl rfl rfl ?_
  repeat' (first
    | refine W_seq ?_
    | refine WS_then ?_
    | refine W_else rfl ?_
    | refine W_skip ?_
    | refine W_ret ?_
    | ((refine W_region (id := 0) ?_) <;>
    (refine R_box (.agg _) [(.int _ _), (.slice _ _ _), (.slice _ _ _), (.slice _ _ _), (.slice _ _ _)] rfl rfl rfl rfl ?_; intro bk) <;>
    (refine R_assign .nilIface rfl rfl rfl ?_))
    | ((refine W_region (id := 1) ?_) <;>
    (refine R_move (.int _ _) rfl rfl rfl ?_) <;>
    (refine R_lss_f rfl rfl (by omega) rfl rfl ?_) <;>
    (refine R_move (.bool _) rfl rfl rfl ?_) <;>
    (refine R_move (.int _ _) rfl rfl rfl ?_) <;>
    (refine R_field rfl rfl rfl ?_) <;>
    (refine R_load1 0 rfl rfl rfl rfl rfl rfl ?_) <;>
    (refine R_len rfl rfl rfl ?_) <;>
    (refine R_gtr_f rfl rfl (by omega) rfl rfl ?_) <;>
    (refine R_pick (.bool _) rfl rfl rfl rfl ?_))
    | ((refine W_region (id := 3) ?_) <;>
    (refine R_assign .nilIface rfl rfl rfl ?_)))
  exact end1 rfl ⟨rfl, rfl⟩
theorem partCheck_no {w c e p s : Value} {k : Kpr} {h : LH} {id : Int} (hK : KeepC h w c e p s k) (hno : ∀ x ∈ k.parts, x = ⟨false, 0, []⟩) (h1 : 1 ≤ id) (h2 : id ≤ k.parts.length) (h3 : k.parts.length ≤ 100000) : Fn Tryz.prog A 86 [.agg [w, c, e, p, s].toArray, .int .i64 id].toArray h (fun v h' => v = .nilIface ∧ h' = h) := by
  obtain ⟨q1, c1, q2, c2, q3, c3, q4, c4, rfl, rfl, rfl, rfl, rfl⟩ := hK.shape
  obtain ⟨i, hi⟩ : ∃ i : Nat, id = i + 1 := ⟨(id - 1).toNat, by omega⟩
  subst hi
  have hx : k.parts[i]? = some k.parts[i] := List.getElem?_eq_getElem (by omega)
  have hx0 := hno k.parts[i] (List.getElem_mem _)
  rw [hx0] at hx
  obtain ⟨qa, ca, ea, _, hda⟩ := hK.parts
  injection ea with ea; subst ea
  obtain ⟨b, o, vs, rfl, ⟨s1, rfl, hs1⟩, hat⟩ := hda i _ hx
  obtain ⟨w1, w2, rfl, _⟩ : ∃ w1 w2, s1 = .slice w1 0 w2 ∧ True := by obtain ⟨w1, w2, h, _⟩ := hs1; exact ⟨_, _, h, trivial⟩
  refine Fn_body (n := 53) (fn := Tryz.f86) Tryz.func86 rfl rfl rfl ?_
  have e1 : o + i * 3 = o + ((i : Int) + 1 - 1).toNat * 3 := by congr 2; omega
  simp only at hat
  rw [e1] at hat
  repeat' (first
    | refine W_seq ?_
    | refine WS_then ?_
    | refine W_if rfl ?_
    | refine W_else rfl ?_
    | refine W_skip ?_
    | refine W_ret ?_
    | refine then_ret ?_
    | ((refine W_region (id := 0) ?_) <;>
    (refine R_box (.agg _) [(.int _ _), (.slice _ _ _), (.slice _ _ _), (.slice _ _ _), (.slice _ _ _)] rfl rfl rfl rfl ?_; intro bk) <;>
    (refine R_assign .nilIface rfl rfl rfl ?_))
    | ((refine W_region (id := 1) ?_) <;>
    (refine R_field rfl rfl rfl ?_) <;>
    (refine R_load1 0 rfl rfl rfl rfl rfl rfl ?_) <;>
    (refine R_move (.int _ _) rfl rfl rfl ?_) <;>
    (refine R_sub rfl rfl (by omega) rfl rfl ?_) <;>
    (refine R_index rfl rfl (by omega) (by omega) rfl rfl ?_) <;>
    (refine R_loadHA rfl (by assumption) rfl rfl rfl ?_) <;>
    (refine R_alloc rfl rfl ?_; intro bk) <;>
    (refine R_store 0 (.agg _) [(.bool _), (.int _ _), (.slice _ _ _)] _ _ rfl rfl rfl rfl rfl rfl rfl rfl rfl rfl ?_; dsimp only [splice, List.set]))
    | ((refine W_region (id := 2) ?_) <;>
    (refine R_field rfl rfl rfl ?_) <;>
    (refine R_load1 0 rfl rfl rfl rfl rfl rfl ?_) <;>
    (refine R_not _ rfl rfl rfl rfl ?_))
    | ((refine W_region (id := 3) ?_) <;>
    (refine R_field rfl rfl rfl ?_) <;>
    (refine R_load1 0 rfl rfl rfl rfl rfl rfl ?_) <;>
    (refine R_neq_f rfl rfl (by omega) rfl rfl ?_) <;>
    (refine R_move (.bool _) rfl rfl rfl ?_) <;>
    (refine R_field rfl rfl rfl ?_) <;>
    (refine R_load1 0 rfl rfl rfl rfl rfl rfl ?_) <;>
    (refine R_len rfl rfl rfl ?_) <;>
    (refine R_neq_f rfl rfl (by omega) rfl rfl ?_) <;>
    (refine R_pick (.bool _) rfl rfl rfl rfl ?_))
    | ((refine W_region (id := 5) ?_) <;>
    (refine R_assign .nilIface rfl rfl rfl ?_)))
  exact end1 rfl ⟨rfl, rfl⟩
end Go.Lu
