/- a drawn grid, some spoilt -/
import Derived.Test.YtmjmhaoikilagaaGreatDoorU3
set_option linter.unusedVariables false
set_option linter.unusedSectionVars false
namespace Go.Lu
open Go.Proofs
variable {main : Bool} {lo : Nat → Prop} {A : (Goroutine → LH → Prop) → Prop} [hA : Adm Tryz.prog main lo A]
theorem grid_bc {w : Int} {sv : Value} {B : OL} {cs : List Cel} (hB : Bc 61 2 sv B (cs.flatMap celV)) (h : LH) : GridD (ov B h) (.agg [.int .i64 w, sv].toArray) ⟨w, cs⟩ := GridD.of (Bc.sd hB (fun _ => rfl) (by omega) h)
theorem cells_len {cs : List Cel} : (cs.flatMap celV).length = cs.length * 2 := flat_len (f := celV) (sz := 2) (fun _ => rfl) cs
include hA
-- mulB
set_option maxHeartbeats 2000000 in
theorem l71Some_fn {r len cap : Nat} {a : Option Addr} {p : Int} {h : LH} (hr : RdOk h a len) (hp : 0 ≤ p) (hp1 : p ≤ 700000000) :
    FnO Tryz.prog lo A 76 [.pointer (some ⟨r, 0, none⟩)] (RdO r a len cap p) h
      (fun v L h' => (∃ (g : Grd) (p' : Int), GridD h' v g ∧ g.cells.length ≤ 50 ∧ L = RdO r a len cap p' ∧ p ≤ p' ∧ p' ≤ p + 100) ∧ LE h h') := by
  refine FnO_body (n := 55) (fn := Tryz.f76) Tryz.func76 rfl rfl rfl ?_
  unfold RdO
  repeat' (first
    | refine W_seq ?_
    | refine WS_then ?_
    | ((refine W_region (id := 0) ?_) <;>
    (refine R_alloc rfl rfl ?_; intro bk)))
  refine W_region (id := 1) ?_
  all_goals (refine R_move (.pointer _) rfl rfl rfl ?_)
  refine R_callJ (main := main) (A := A) 1 (l71Grid_fn (main := main) (A := A) hr (by omega) (by omega)) rfl rfl rfl rfl rfl rfl ?_
  rintro _ _ h2 ⟨⟨g, p1, v, B, rfl, hB, hk, rfl, hp2, hp3, hq⟩, -⟩
  subst hq
  revert bk; intro bs
  have hw := hk.wide
  have w1 := hk.w1
  have w5 := hk.w5
  have h25 := hk.len25
  have hl1 : 1 ≤ g.cells.length := by rw [hk.len]; exact Nat.mul_pos hk.h1 hk.w1
  obtain ⟨w, cs⟩ := g
  simp only at hw w1 w5 h25 hl1 hB ⊢
  generalize gW ⟨w, cs⟩ = W at hw w1 w5
  subst hw
  have hB0 := hB
  rcases hB with ⟨rfl, rfl, hu⟩ | ⟨b, ln, cp, C, rfl, rfl, hC, hlc, hln, htk⟩
  · have := congrArg List.length hu
    rw [cells_len] at this; simp at this; omega
  rw [cells_len] at hln
  refine WS_perm (main := main) (lo := lo) (A := A) [(r, bx [.slice a len cap, .int .i64 p1] 126), (bs, bx [.int .i64 0, .slice none 0 0] 25), (b, bx C 61)] (perm_segs [0, 2, 1] [[_], [_], [_]] [_, [_], _] rfl rfl) ?_
  all_goals (refine R_alloc rfl rfl ?_; intro bk)
  all_goals (refine R_store 0 (.agg _) [(.int _ _), (.slice _ _ _)] _ _ rfl rfl rfl rfl rfl rfl rfl rfl rfl rfl ?_; dsimp only [splice, List.set])
  repeat' (first
    | refine W_seq ?_
    | refine WS_then ?_
    | refine WS_nil ?_
    | refine W_if rfl ?_
    | refine W_else rfl ?_
    | refine W_skip ?_
    | refine W_block ?_
    | refine W_ret ?_
    | refine then_ret ?_
    | ((refine W_region (id := 2) ?_) <;>
    (refine R_move (.pointer _) rfl rfl rfl ?_) <;>
    (refine R_rd (main := main) (A := A) 1 (by assumption) rfl (by omega) (by omega) rfl rfl rfl (by omega) (by omega) rfl rfl ?_; intro pk hpk0 hpk1; try dsimp only [List.set]) <;>
    (refine R_gtr rfl rfl rfl rfl ?_ ?_ <;> intro hc))
    | ((refine W_region (id := 3) ?_) <;>
    (refine R_loadA 0 [(.int _ _), (.slice _ _ _)] rfl rfl rfl rfl rfl rfl ?_) <;>
    (refine R_store 2 (.agg _) [(.int _ _), (.slice _ _ _)] _ _ rfl rfl rfl rfl rfl rfl rfl rfl rfl rfl ?_; dsimp only [splice, List.set]))
    | ((refine W_region (id := 4) ?_) <;>
    (refine R_move (.pointer _) rfl rfl rfl ?_) <;>
    (refine R_rd (main := main) (A := A) 1 (by assumption) rfl (by omega) (by omega) rfl rfl rfl (by omega) (by omega) rfl rfl ?_; intro pk hpk0 hpk1; try dsimp only [List.set]))
    | ((refine W_region (id := 6) ?_) <;>
    (refine R_eql rfl rfl rfl rfl ?_ ?_ <;> intro hc) <;>
    (refine R_assign (.bool _) rfl rfl rfl ?_))
    | ((refine W_region (id := 8) ?_) <;>
    (refine R_eql rfl rfl rfl rfl ?_ ?_ <;> intro hc) <;>
    (refine R_assign (.bool _) rfl rfl rfl ?_))
    | ((refine W_region (id := 10) ?_) <;>
    (refine R_eql rfl rfl rfl rfl ?_ ?_ <;> intro hc) <;>
    (refine R_assign (.bool _) rfl rfl rfl ?_))
    | ((refine W_region (id := 12) ?_) <;>
    (refine R_eql rfl rfl rfl rfl ?_ ?_ <;> intro hc) <;>
    (refine R_assign (.bool _) rfl rfl rfl ?_))
    | ((refine W_region (id := 5) ?_) <;>
    (refine R_field rfl rfl rfl ?_) <;>
    (refine R_store 0 (.slice _ _ _) [(.slice _ _ _)] _ _ rfl rfl rfl rfl rfl rfl rfl rfl rfl rfl ?_; dsimp only [splice, List.set]))
    | ((refine W_region (id := 15) ?_) <;>
    (refine R_loadA 0 [(.int _ _), (.slice _ _ _)] rfl rfl rfl rfl rfl rfl ?_) <;>
    (refine R_store 2 (.agg _) [(.int _ _), (.slice _ _ _)] _ _ rfl rfl rfl rfl rfl rfl rfl rfl rfl rfl ?_; dsimp only [splice, List.set])))
  · exact endRO (RdO r a len cap _) [_] (sub_picks [1, 2] rfl) rfl (.cons (.cellA 2 [.int _ _, .slice _ _ _] rfl rfl (r := []) rfl rfl) .nil) fun _ hle => ⟨⟨⟨_, cs⟩, _, grid_bc hB0 _, by simp only; omega, rfl, by omega, by omega⟩, hle⟩
  · refine W_region (id := 7) ?_
    all_goals (refine R_buildSlice [(.int _ _), (.int _ _), (.int _ _)] rfl rfl rfl rfl rfl rfl ?_; intro bk)
    all_goals (refine R_move (.pointer _) rfl rfl rfl ?_)
    all_goals (refine R_rd (main := main) (A := A) 2 (by assumption) rfl (by omega) (by omega) rfl rfl rfl (by omega) (by omega) rfl rfl ?_; intro pk hpk0 hpk1; try dsimp only [List.set])
    all_goals (refine R_index rfl rfl (by omega) (by omega) rfl rfl ?_)
    have h3 : pk = 0 ∨ pk = 1 ∨ pk = 2 := by omega
    rcases h3 with rfl | rfl | rfl
    all_goals
      refine R_load1 0 rfl rfl rfl rfl rfl rfl ?_
      all_goals (refine R_field rfl rfl rfl ?_)
      all_goals (refine R_store 1 (.int _ _) [(.int _ _)] _ _ rfl rfl rfl rfl rfl rfl rfl rfl rfl rfl ?_; dsimp only [splice, List.set])
      repeat' (first
        | refine W_seq ?_
        | refine WS_then ?_
        | refine WS_nil ?_
        | refine W_ret ?_
        | ((refine W_region (id := 15) ?_) <;>
        (refine R_loadA 1 [(.int _ _), (.slice _ _ _)] rfl rfl rfl rfl rfl rfl ?_) <;>
        (refine R_store 3 (.agg _) [(.int _ _), (.slice _ _ _)] _ _ rfl rfl rfl rfl rfl rfl rfl rfl rfl rfl ?_; dsimp only [splice, List.set])))
      exact endRO (RdO r a len cap _) [_] (sub_picks [2, 3] rfl) rfl (.cons (.cellA 3 [.int _ _, .slice _ _ _] rfl rfl (r := []) rfl rfl) .nil) fun _ hle => ⟨⟨⟨_, cs⟩, _, grid_bc hB0 _, by simp only; omega, rfl, by omega, by omega⟩, hle⟩
  · repeat' (first
      | refine W_seq ?_
      | refine WS_then ?_
      | refine WS_nil ?_
      | refine W_ret ?_
      | ((refine W_region (id := 9) ?_) <;>
      (refine R_field rfl rfl rfl ?_) <;>
      (refine R_load1 0 rfl rfl rfl rfl rfl rfl ?_) <;>
      (refine R_sliceF rfl rfl (by omega) (by omega) rfl rfl ?_) <;>
      (refine R_field rfl rfl rfl ?_) <;>
      (refine R_store 0 (.slice _ _ _) [(.slice _ _ _)] _ _ rfl rfl rfl rfl rfl rfl rfl rfl rfl rfl ?_; dsimp only [splice, List.set]))
      | ((refine W_region (id := 15) ?_) <;>
      (refine R_loadA 0 [(.int _ _), (.slice _ _ _)] rfl rfl rfl rfl rfl rfl ?_) <;>
      (refine R_store 2 (.agg _) [(.int _ _), (.slice _ _ _)] _ _ rfl rfl rfl rfl rfl rfl rfl rfl rfl rfl ?_; dsimp only [splice, List.set])))
    have hT : GridD (ov [(b, bx C 61)] h2) (.agg [.int .i64 W, .slice (some ⟨b, if cp = Int.toNat 1 then 0 else 0 + Int.toNat 1 * 2, none⟩) (ln - Int.toNat 1) (cp - Int.toNat 1)].toArray) ⟨W, cs.tail⟩ := by
      obtain ⟨p', c', e1, _, hS⟩ := Bc.sd (f := celV) hB0 (fun _ => rfl) (by omega) h2
      refine ⟨some ⟨b, if cp = Int.toNat 1 then 0 else 0 + Int.toNat 1 * 2, none⟩, cp - 1, ?_, ?_, ?_⟩
      · have e0 : ln - Int.toNat 1 = cs.tail.length := by rw [List.length_tail]; show ln - 1 = cs.length - 1; omega
        rw [e0]
        rfl
      · intro a ha; injection ha with ha; subst ha; rfl
      · intro i x hx
        have hx' : cs[i + 1]? = some x := by rw [← List.getElem?_tail]; exact hx
        have hlt := (List.getElem?_eq_some_iff.1 hx').1
        obtain ⟨b', o', vs', e2, e3, h4⟩ := hS (i + 1) x hx'
        injection e1 with e1; subst e1
        injection e2 with e2; injection e2 with e2 e4
        subst e2 e4
        refine ⟨_, _, vs', rfl, e3, ?_⟩
        have hcp : ¬ cp = Int.toNat 1 := by simp; omega
        rw [if_neg hcp]
        have : 0 + (Int.toNat 1) * 2 + i * 2 = 0 + (i + 1) * 2 := by simp; omega
        rw [this]
        exact h4
    exact endRO (RdO r a len cap _) [_] (sub_picks [1, 2] rfl) rfl (.cons (.cellA 2 [.int _ _, .slice _ _ _] rfl rfl (r := []) rfl rfl) .nil) fun _ hle => ⟨⟨⟨_, cs.tail⟩, _, hT, by simp; omega, rfl, by omega, by omega⟩, hle⟩
  · all_goals refine W_drawV (fun b => b = r) (fun i => Nat.beq i 10) [0, 1, 2, 3, 4, 5, 6, 7, 8, 9, 10] (by kernel_rfl) (by kernel_rfl) (by kernel_rfl) (by kernel_rfl) ?_
    all_goals (refine WL_takeV 1 0 [1, 2, 3, 4, 5, 6, 7, 8, 9, 10] rfl (by kernel_rfl) rfl rfl rfl (D_field rfl rfl) ?_)
    all_goals (refine WL_takeV 1 1 [2, 3, 4, 5, 6, 7, 8, 9, 10] rfl (by kernel_rfl) rfl rfl rfl (D_load1 0 rfl rfl rfl rfl rfl) ?_)
    all_goals (refine WL_takeV 1 2 [3, 4, 5, 6, 7, 8, 9, 10] rfl (by kernel_rfl) rfl rfl rfl (D_move (.pointer _) rfl rfl) ?_)
    all_goals (refine WL_takeV 1 3 [4, 5, 6, 7, 8, 9, 10] rfl (by kernel_rfl) rfl rfl rfl (D_field rfl rfl) ?_)
    all_goals (refine WL_takeV 1 4 [5, 6, 7, 8, 9, 10] rfl (by kernel_rfl) rfl rfl rfl (D_load1 0 rfl rfl rfl rfl rfl) ?_)
    all_goals (refine WL_takeV 1 5 [6, 7, 8, 9, 10] rfl (by kernel_rfl) rfl rfl rfl (D_len rfl rfl) ?_)
    all_goals (refine WL_takeV 1 7 [6, 8, 9, 10] rfl (by kernel_rfl) rfl rfl rfl (D_move (.pointer _) rfl rfl) ?_)
    all_goals (refine WL_callV (main := main) (A := A) 1 6 [8, 9, 10] rfl rfl rfl rfl (by kernel_rfl) rfl (pickG (main := main) (A := A) (by assumption) (by omega) (by omega) _ (by omega) (by omega)) rfl rfl rfl ?_; rintro _ _ _ ⟨⟨⟨pk, rfl, hpk0, hpk1⟩, rfl, hq⟩, _⟩; replace hq := hq.symm; subst hq)
    all_goals (refine WL_callV (main := main) (A := A) 0 8 [9, 10] rfl rfl rfl rfl (by kernel_rfl) rfl (l71Off_fn (main := main) (A := A) (by assumption) (by omega) (by omega)) rfl rfl rfl ?_; rintro _ _ _ ⟨⟨cl, pc, rfl, rfl, hpc0, hpc1, hq⟩, _⟩; replace hq := hq.symm; subst hq; obtain ⟨ck, cl⟩ := cl)
    all_goals (refine WL_takeV 0 9 [10] rfl (by kernel_rfl) rfl rfl rfl (D_index rfl rfl (by omega) (by omega) rfl) ?_)
    -- left: [10] ready: [10] ['store'] at 0
    refine WL_store 10 [] 3 _ (celV ⟨ck, cl⟩) _ _ rfl (by kernel_rfl) rfl rfl rfl rfl rfl rfl rfl rfl (Nat.ble_eq_true_of_le ?_) rfl rfl rfl ?_
    · show 0 + pk.toNat * 2 + 2 ≤ C.length
      omega
    refine WL_nil ?_
    repeat' (first
      | refine W_seq ?_
      | refine WS_then ?_
      | refine W_ret ?_
      | ((refine W_region (id := 15) ?_) <;>
      (refine R_loadA 1 [(.int _ _), (.slice _ _ _)] rfl rfl rfl rfl rfl rfl ?_) <;>
      (refine R_store 2 (.agg _) [(.int _ _), (.slice _ _ _)] _ _ rfl rfl rfl rfl rfl rfl rfl rfl rfl rfl ?_; dsimp only [splice, List.set])))
    have hB1 := Bc.put hB0 (fun _ => rfl) (i := pk.toNat) (by omega) ⟨ck, cl⟩
    rw [← Nat.zero_add (pk.toNat * 2)] at hB1
    refine endRO (RdO r a len cap _) [_] (sub_picks [0, 2] rfl) rfl (.cons (.cellA 2 [.int _ _, .slice _ _ _] rfl rfl (r := []) rfl rfl) .nil) fun _ hle => ⟨⟨⟨_, cs.set pk.toNat ⟨ck, cl⟩⟩, _, grid_bc hB1 _, by simp; omega, rfl, by omega, by omega⟩, hle⟩
  · refine W_loopA (ι := List Cel × Value × OL) (fun x => 40 - x.1.length) (fun x => [(0, .pointer (some ⟨r, 0, none⟩)), (2, .pointer (some ⟨bs, 0, none⟩)), (3, .pointer (some ⟨bk, 0, none⟩))]) (fun x => (r, bx [.slice a len cap, .int .i64 (p1 + 1 + 1)] 126) :: (bs, bx [.int .i64 0, .slice none 0 0] 25) :: (bk, bx [.int .i64 W, x.2.1] 25) :: x.2.2) (fun _ => h2)
      (fun x => x.1.length ≤ 30 ∧ Bc 61 2 x.2.1 x.2.2 (x.1.flatMap celV)) (cs, _, _) ⟨by simp only; omega, hB0⟩ (abs_mk' ⟨rfl, rfl, rfl, trivial⟩ (sub_picks [1, 1, 0, 0] rfl)) ?_
    rintro ⟨ds, v, B⟩ e ⟨h1, hB⟩
    dsimp only at h1 hB ⊢
    obtain ⟨q, ln', cp', rfl, hln'⟩ := hB.len
    rw [cells_len] at hln'
    by_cases hlt : ds.length ≤ W * 5
    · repeat' (first
        | refine W_seq ?_
        | refine WS_then ?_
        | refine W_if rfl ?_
        | refine W_skip ?_
        | refine W_block ?_
        | ((refine W_region (id := 13) ?_) <;>
        (refine R_field rfl rfl rfl ?_) <;>
        (refine R_load1 2 rfl rfl rfl rfl rfl rfl ?_) <;>
        (refine R_len rfl rfl rfl ?_) <;>
        (refine R_field rfl rfl rfl ?_) <;>
        (refine R_load1 2 rfl rfl rfl rfl rfl rfl ?_) <;>
        (refine R_mul rfl rfl (by omega) rfl rfl ?_) <;>
        (refine R_leq_t rfl rfl (by omega) rfl rfl ?_)))
      refine W_region (id := 14) ?_
      all_goals (refine R_field rfl rfl rfl ?_)
      all_goals (refine R_load1 2 rfl rfl rfl rfl rfl rfl ?_)
      all_goals (refine R_build [(.int _ _), (.int _ _)] rfl rfl rfl ?_)
      all_goals (refine R_buildSlice [(.int _ _), (.int _ _)] rfl rfl rfl rfl rfl rfl ?_; intro bk)
      refine R_appendF B [_, _, _] (T := 61) [.int .i64 0, .int .i64 0] rfl rfl hB (sub_segs [0, 2, 1] [[_], [_, _, _], B] [[_], B, [_, _, _]] rfl) rfl rfl (by rw [cells_len]; simp only [List.length_cons, List.length_nil]; omega) (by rw [cells_len]; simp only [List.length_cons, List.length_nil]; omega) rfl rfl rfl rfl ?_
      intro q2 ln2 cp2 B' hB'
      all_goals (refine R_field rfl rfl rfl ?_)
      all_goals (refine R_store 2 (.slice _ _ _) [(.slice _ _ _)] _ _ rfl rfl rfl rfl rfl rfl rfl rfl rfl rfl ?_; dsimp only [splice, List.set])
      repeat' (first
        | refine WS_nil ?_
        | refine then_normal ?_
        | refine block_normal ?_)
      exact ⟨(ds ++ [⟨0, 0⟩], _, B'), ⟨by simp; omega, by simpa [celV] using hB'⟩, abs_mk' ⟨rfl, rfl, rfl, trivial⟩ (Sub.refl _), by simp; omega⟩
    · repeat' (first
        | refine W_seq ?_
        | refine WS_then ?_
        | refine W_else rfl ?_
        | refine W_ret ?_
        | refine W_exit ?_
        | ((refine W_region (id := 13) ?_) <;>
        (refine R_field rfl rfl rfl ?_) <;>
        (refine R_load1 2 rfl rfl rfl rfl rfl rfl ?_) <;>
        (refine R_len rfl rfl rfl ?_) <;>
        (refine R_field rfl rfl rfl ?_) <;>
        (refine R_load1 2 rfl rfl rfl rfl rfl rfl ?_) <;>
        (refine R_mul rfl rfl (by omega) rfl rfl ?_) <;>
        (refine R_leq_f rfl rfl (by omega) rfl rfl ?_))
        | ((refine W_region (id := 15) ?_) <;>
        (refine R_loadA 2 [(.int _ _), (.slice _ _ _)] rfl rfl rfl rfl rfl rfl ?_) <;>
        (refine R_store 1 (.agg _) [(.int _ _), (.slice _ _ _)] _ _ rfl rfl rfl rfl rfl rfl rfl rfl rfl rfl ?_; dsimp only [splice, List.set])))
      exact endRO (RdO r a len cap _) B (sub_segs [0, 2] [[_], [_, _], B] [[_], B] rfl) rfl (.cons (.cellA 1 [.int _ _, .slice _ _ _] rfl rfl (r := []) rfl rfl) .nil) fun _ hle => ⟨⟨⟨_, ds⟩, _, grid_bc hB _, by simp only; omega, rfl, by omega, by omega⟩, hle⟩
  · exact endRO (RdO r a len cap _) [] (sub_picks [1] rfl) rfl (.cons (.cellA 2 [.int _ _, .slice _ _ _] rfl rfl (r := []) rfl rfl) .nil) fun _ hle => ⟨⟨⟨_, []⟩, _, ⟨none, 0, rfl, by simp, by simp⟩, by simp, rfl, by omega, by omega⟩, hle⟩
end Go.Lu
