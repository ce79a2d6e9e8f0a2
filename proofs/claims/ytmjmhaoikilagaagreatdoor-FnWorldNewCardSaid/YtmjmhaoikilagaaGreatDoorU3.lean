/- a drawn grid -/
import Derived.Test.YtmjmhaoikilagaaGreatDoorU2
set_option linter.unusedVariables false
set_option linter.unusedSectionVars false
namespace Go.Lu
open Go.Proofs
variable {main : Bool} {lo : Nat → Prop} {A : (Goroutine → LH → Prop) → Prop} [hA : Adm Tryz.prog main lo A]
include hA
set_option maxHeartbeats 1000000 in
theorem l71Grid_fn {r len cap : Nat} {a : Option Addr} {p : Int} {h : LH} (hr : RdOk h a len) (hp : 0 ≤ p) (hp1 : p ≤ 800000000) :
    FnO Tryz.prog lo A 112 [.pointer (some ⟨r, 0, none⟩)] (RdO r a len cap p) h
      (fun v L h' => (∃ (g : Grd) (p' : Int) (sv : Value) (B : OL), v = .agg [.int .i64 g.wide, sv].toArray ∧ Bc 61 2 sv B (g.cells.flatMap celV) ∧ GOk g ∧ L = RdO r a len cap p' ++ B ∧ p ≤ p' ∧ p' ≤ p + 60 ∧ h' = h) ∧ LE h h') := by
  refine FnO_body (n := 27) (fn := Tryz.f112) Tryz.func112 rfl rfl rfl ?_
  unfold RdO
  repeat' (first
    | refine W_seq ?_
    | refine WS_then ?_
    | ((refine W_region (id := 0) ?_) <;>
    (refine R_alloc rfl rfl ?_; intro bk))
    | ((refine W_region (id := 1) ?_) <;>
    (refine R_move (.pointer _) rfl rfl rfl ?_) <;>
    (refine R_rd (main := main) (A := A) 1 (by assumption) rfl (by omega) (by omega) rfl rfl rfl (by omega) (by omega) rfl rfl ?_; intro pk hpk0 hpk1; try dsimp only [List.set]) <;>
    (refine R_add rfl rfl (by omega) rfl rfl ?_) <;>
    (refine R_build [(.int _ _), (.slice _ _ _)] rfl rfl rfl ?_) <;>
    (refine R_alloc rfl rfl ?_; intro bk) <;>
    (refine R_store 0 (.agg _) [(.int _ _), (.slice _ _ _)] _ _ rfl rfl rfl rfl rfl rfl rfl rfl rfl rfl ?_; dsimp only [splice, List.set])))
  rename_i bs
  obtain ⟨w0, rfl⟩ := Int.eq_ofNat_of_zero_le hpk0
  -- mulB
  all_goals refine W_drawV (fun b => b = r) (fun _ => false) [0, 1, 2, 3, 4, 5, 6] (by kernel_rfl) (by kernel_rfl) (by kernel_rfl) (by kernel_rfl) ?_
  all_goals (refine WL_takeV 2 0 [1, 2, 3, 4, 5, 6] rfl (by kernel_rfl) rfl rfl rfl (D_field rfl rfl) ?_)
  all_goals (refine WL_takeV 2 1 [2, 3, 4, 5, 6] rfl (by kernel_rfl) rfl rfl rfl (D_load1 0 rfl rfl rfl rfl rfl) ?_)
  all_goals (refine WL_takeV 2 2 [3, 4, 5, 6] rfl (by kernel_rfl) rfl rfl rfl (D_move (.pointer _) rfl rfl) ?_)
  all_goals (refine WL_callV (main := main) (A := A) 2 3 [4, 5, 6] rfl rfl rfl rfl (by kernel_rfl) rfl (pickG (main := main) (A := A) (by assumption) (by omega) (by omega) _ (by omega) (by omega)) rfl rfl rfl ?_; rintro _ _ _ ⟨⟨⟨pk, rfl, hpk0, hpk1⟩, rfl, hq⟩, _⟩; replace hq := hq.symm; subst hq)
  all_goals (refine WL_takeV 0 4 [5, 6] rfl (by kernel_rfl) rfl rfl rfl (D_add rfl rfl (by omega) rfl) ?_)
  all_goals (refine WL_takeV 0 5 [6] rfl (by kernel_rfl) rfl rfl rfl (D_mul rfl rfl (mulB (by omega) (by omega) (by omega) (by omega)) rfl) ?_)
  all_goals (refine WL_takeV 0 6 [] rfl (by kernel_rfl) rfl rfl rfl (D_assign (.int _ _) rfl rfl) ?_)
  all_goals refine WL_nil ?_
  obtain ⟨w1, rfl⟩ := Int.eq_ofNat_of_zero_le hpk0
  have hN : (1 + (w0 : Int)) * (1 + (w1 : Int)) = ((1 + w1) * (1 + w0) : Nat) := by rw [Int.mul_comm]; simp
  have hN25 : (1 + w1) * (1 + w0) ≤ 25 := Nat.mul_le_mul (show 1 + w1 ≤ 5 by omega) (show 1 + w0 ≤ 5 by omega)
  generalize hNN : (1 + w1) * (1 + w0) = N at hN hN25
  generalize (1 + (w0 : Int)) * (1 + (w1 : Int)) = NI at hN
  subst hN
  repeat' (refine W_block ?_)
  refine W_loopA (ι := List Cel × Int × Value × OL) (fun x => N - x.1.length) (fun x => [(0, .pointer (some ⟨r, 0, none⟩)), (2, .pointer (some ⟨bs, 0, none⟩)), (3, .pointer (some ⟨bk, 0, none⟩)), (4, .int .i64 (N - x.1.length))]) (fun x => (r, bx [.slice a len cap, .int .i64 x.2.1] 126) :: (bs, bx [.int .i64 0, .slice none 0 0] 25) :: (bk, bx [.int .i64 (1 + w0), x.2.2.1] 25) :: x.2.2.2) (fun _ => h)
    (fun x => x.1.length ≤ N ∧ p + 2 ≤ x.2.1 ∧ x.2.1 ≤ p + 2 + 2 * x.1.length ∧ (∀ c ∈ x.1, cellOk c = true) ∧ Bc 61 2 x.2.2.1 x.2.2.2 (x.1.flatMap celV)) ([], p + 1 + 1, .slice none 0 0, []) ⟨by simp, by simp only; omega, by simp only [List.length_nil]; omega, by simp, Bc.nil _ _⟩ (abs_mk' ⟨rfl, rfl, rfl, ivq (by simp), trivial⟩ (sub_picks [0, 1, 0] rfl)) ?_
  rintro ⟨cs, p', v, B⟩ e ⟨h1, h2, h3, h4, hB⟩
  dsimp only at h1 h2 h3 h4 hB ⊢
  obtain ⟨q, ln, cp, rfl, hln⟩ := hB.len
  rw [flat_len (f := celV) (sz := 2) (fun _ => rfl)] at hln
  by_cases hlt : cs.length < N
  · repeat' (first
      | refine W_seq ?_
      | refine WS_then ?_
      | refine W_if rfl ?_
      | refine W_skip ?_
      | refine W_block ?_
      | ((refine W_region (id := 3) ?_) <;>
      (refine R_move (.int _ _) rfl rfl rfl ?_) <;>
      (refine R_gtr_t rfl rfl (by omega) rfl rfl ?_)))
    all_goals refine W_drawV (fun b => b = r) (fun i => Nat.beq i 5 || Nat.beq i 7) [0, 1, 2, 3, 4, 5, 6, 7] (by kernel_rfl) (by kernel_rfl) (by kernel_rfl) (by kernel_rfl) ?_
    all_goals (refine WL_takeV 0 0 [1, 2, 3, 4, 5, 6, 7] rfl (by kernel_rfl) rfl rfl rfl (D_field rfl rfl) ?_)
    all_goals (refine WL_takeV 0 1 [2, 3, 4, 5, 6, 7] rfl (by kernel_rfl) rfl rfl rfl (D_load1 1 rfl rfl rfl rfl rfl) ?_)
    all_goals (refine WL_takeV 0 2 [3, 4, 5, 6, 7] rfl (by kernel_rfl) rfl rfl rfl (D_move (.pointer _) rfl rfl) ?_)
    all_goals (refine WL_callV (main := main) (A := A) 0 3 [4, 5, 6, 7] rfl rfl rfl rfl (by kernel_rfl) rfl (l71Cell_fn (main := main) (A := A) (by assumption) (by omega) (by omega)) rfl rfl rfl ?_; rintro _ _ _ ⟨⟨cl, pc, rfl, hck, rfl, hpc0, hpc1, hq⟩, _⟩; replace hq := hq.symm; subst hq; obtain ⟨ck, cl⟩ := cl)
    all_goals (refine WL_buildSlice 4 [5, 6, 7] [(.int _ _), (.int _ _)] rfl (by kernel_rfl) rfl rfl rfl rfl rfl rfl ?_; intro bk)
    -- left: [5, 6, 7] ready: [5] ['call'] at 1
    refine WL_appendF B [_, _, _, _] 5 [6, 7] (celV ⟨ck, cl⟩) rfl (by kernel_rfl) rfl rfl rfl rfl hB (List.perm_append_comm (l₁ := [_, _, _, _]) (l₂ := B)) (src_sub 0 rfl rfl) rfl ?_ ?_ rfl rfl rfl ?_
    · rw [flat_len (f := celV) (sz := 2) (fun _ => rfl)]; simp only [celV, List.length_cons, List.length_nil]; omega
    · rw [flat_len (f := celV) (sz := 2) (fun _ => rfl)]; simp only [celV, List.length_cons, List.length_nil]; omega
    intro q' ln' cp' B' h' hB' hle
    all_goals (refine WL_takeV 1 6 [7] rfl (by kernel_rfl) rfl rfl rfl (D_field rfl rfl) ?_)
    all_goals (refine WL_store 7 [] 3 (.slice _ _ _) [(.slice _ _ _)] _ _ rfl (by kernel_rfl) rfl rfl rfl rfl rfl rfl rfl rfl rfl rfl rfl rfl ?_; dsimp only [splice, List.set])
    all_goals refine WL_nil ?_
    repeat' (first
      | refine WS_end ?_
      | refine then_normal ?_
      | refine block_normal ?_
      | ((refine W_region (id := 4) ?_) <;>
      (refine R_move (.int _ _) rfl rfl rfl ?_) <;>
      (refine R_sub rfl rfl (by omega) rfl rfl ?_) <;>
      (refine R_assign (.int _ _) rfl rfl rfl ?_)))
    refine ⟨(cs ++ [⟨ck, cl⟩], pc, _, B'), ⟨by simp; omega, by simp only; omega, by simp only [List.length_append, List.length_cons, List.length_nil]; omega, ?_, by simpa using hB'⟩, abs_le ⟨rfl, rfl, rfl, ivq (by simp; omega), trivial⟩ ?_ hle, by simp; omega⟩
    · intro c hc
      rcases List.mem_append.1 hc with hc | hc
      · exact h4 c hc
      · simp only [List.mem_singleton] at hc; subst hc; exact hck
    · exact sub_segs [1, 2] [[_], [_, _, _], B'] [[_, _, _], B'] rfl
  · repeat' (first
      | refine W_seq ?_
      | refine WS_then ?_
      | refine W_else rfl ?_
      | refine W_ret ?_
      | refine W_exit ?_
      | ((refine W_region (id := 3) ?_) <;>
      (refine R_move (.int _ _) rfl rfl rfl ?_) <;>
      (refine R_gtr_f rfl rfl (by omega) rfl rfl ?_))
      | ((refine W_region (id := 6) ?_) <;>
      (refine R_loadA 2 [(.int _ _), (.slice _ _ _)] rfl rfl rfl rfl rfl rfl ?_) <;>
      (refine R_store 1 (.agg _) [(.int _ _), (.slice _ _ _)] _ _ rfl rfl rfl rfl rfl rfl rfl rfl rfl rfl ?_; dsimp only [splice, List.set])))
    have hcl : cs.length = (1 + w1) * (1 + w0) := by omega
    refine endRO (RdO r a len cap p' ++ B) [] ?_ rfl (.cons (.cellA 1 [.int _ _, .slice _ _ _] rfl rfl (r := []) rfl rfl) .nil) fun _ _ => ⟨⟨⟨1 + w0, cs⟩, p', _, B, rfl, hB, ?_, rfl, by omega, by omega, rfl⟩, LE.refl _⟩
    · rw [List.append_nil]
      exact sub_segs [0, 2] [[_], [_, _], B] [[_], B] rfl
    · have hg : gW ⟨1 + w0, cs⟩ = 1 + w0 := by simp only [gW]; omega
      have hh : gH ⟨1 + w0, cs⟩ = 1 + w1 := by
        unfold gH
        rw [hg]
        simp only [hcl]
        exact Nat.mul_div_cancel _ (by omega)
      refine ⟨?_, by omega, by omega, by omega, by omega, ?_, fun j x hx => h4 x (List.mem_of_getElem? hx)⟩
      · rw [hg]; simp
      · rw [hg, hh]; exact hcl
end Go.Lu
