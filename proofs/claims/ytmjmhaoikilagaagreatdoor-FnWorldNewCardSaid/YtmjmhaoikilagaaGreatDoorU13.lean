/- FnWorldNew computes true -/
import Derived.Test.YtmjmhaoikilagaaGreatDoorU12
set_option linter.unusedVariables false
set_option linter.unusedSectionVars false
namespace Go.Lu
open Go.Proofs
variable {main : Bool} {lo : Nat → Prop} {A : (Goroutine → LH → Prop) → Prop} [hA : Adm Tryz.prog main lo A]
theorem WorldD.shape {H : LH} {v : Value} {x : Wld} (h : WorldD H v x) : ∃ q1 c1 q2 c2 q3 c3 q4 c4 q5 c5 q6 c6, v = .agg [.int .i64 x.keeper.first.wide, .slice q1 x.keeper.first.cells.length c1, .slice q2 x.keeper.edits.length c2, .slice q3 x.keeper.parts.length c3, .slice q4 x.keeper.shown.length c4, .slice q5 x.painters.length c5, .slice q6 x.nets.length c6].toArray := by
  obtain ⟨w, c, e, p, s, a, b, rfl, hK, ⟨q5, c5, e5, _, _⟩, ⟨q6, c6, e6, _, _⟩⟩ := h
  obtain ⟨q1, c1, q2, c2, q3, c3, q4, c4, rfl, rfl, rfl, rfl, rfl⟩ := hK.shape
  subst e5 e6
  exact ⟨_, _, _, _, _, _, _, _, _, _, _, _, rfl⟩
theorem WorldD.newShape {H : LH} {v : Value} {g : Grd} {n : Nat} (h : WorldD H v (worldNew g n)) : ∃ q1 c1 q2 c2 q3 c3 q4 c4 q5 c5 q6 c6, v = .agg [.int .i64 g.wide, .slice q1 g.cells.length c1, .slice q2 0 c2, .slice q3 n c3, .slice q4 0 c4, .slice q5 n c5, .slice q6 0 c6].toArray := by
  obtain ⟨q1, c1, q2, c2, q3, c3, q4, c4, q5, c5, q6, c6, e⟩ := h.shape
  refine ⟨q1, c1, q2, c2, q3, c3, q4, c4, q5, c5, q6, c6, ?_⟩
  rw [e]
  simp [worldNew, keepNew]
include hA
set_option maxHeartbeats 4000000 in
theorem FnWorldNew_W {v : Value} {h : LH} (hc : codeOk h v) {body : Code} (hbody : Tryz.f3.body = some body) : W lo A 88 body ⟨argE [v], [], [], h⟩ (EndS Tryz.prog lo Tryz.f3 88 (retOnly fun v' h' => v' = .bool true ∧ LE h h')) := by
  injection hbody with hbody
  subst hbody
  have hc2 := hc
  obtain ⟨q, len, cap, rfl, hlc, hbig, hby⟩ := hc
  by_cases hlen : len ≤ 1048576
  · repeat' (first
      | refine W_seq ?_
      | refine WS_then ?_
      | refine W_else rfl ?_
      | refine W_skip ?_
      | ((refine W_region (id := 0) ?_) <;>
      (refine R_assign (.bool _) rfl rfl rfl ?_))
      | ((refine W_region (id := 1) ?_) <;>
      (refine R_move (.slice _ _ _) rfl rfl rfl ?_) <;>
      (refine R_len rfl rfl rfl ?_) <;>
      (refine R_gtr_f rfl rfl (by omega) rfl rfl ?_)))
    refine W_region (id := 3) ?_
    all_goals (refine R_move (.slice _ _ _) rfl rfl rfl ?_)
    refine R_call (main := main) (A := A) (DrawWorldNew_fn (main := main) (lo := lo) (A := A) hc2) rfl rfl rfl rfl ?_
    rintro _ h1 ⟨⟨gv, g, k, rfl, hg, hgl, hk0, hk1⟩, hle1⟩
    have hG := hg
    obtain ⟨p, c, rfl, hp, hd⟩ := hg
    all_goals (refine R_move (.tuple _) rfl rfl rfl ?_)
    all_goals (refine R_extract (.agg _) rfl rfl rfl rfl ?_)
    all_goals (refine R_extract (.int _ _) rfl rfl rfl rfl ?_)
    all_goals (refine R_alloc rfl rfl ?_; intro bk)
    all_goals (refine R_store 0 (.agg _) [(.int _ _), (.slice _ _ _)] _ _ rfl rfl rfl rfl rfl rfl rfl rfl rfl rfl ?_; dsimp only [splice, List.set])
    all_goals (refine R_assign (.int _ _) rfl rfl rfl ?_)
    repeat' (first
      | refine W_seq ?_
      | refine WS_then ?_)
    refine W_region (id := 4) ?_
    all_goals (refine R_loadA 0 [(.int _ _), (.slice _ _ _)] rfl rfl rfl rfl rfl rfl ?_)
    all_goals (refine R_move (.int _ _) rfl rfl rfl ?_)
    by_cases hok : gridOk g = true ∧ 1 ≤ k ∧ k ≤ 3
    · obtain ⟨hg1, hk2, hk3⟩ := hok
      have hk := gOk hg1
      obtain ⟨n, rfl⟩ := Int.eq_ofNat_of_zero_le hk0
      refine R_call (main := main) (A := A) (SWorldNew_t (main := main) (lo := lo) (A := A) n hG hk (by omega) (by omega)) rfl rfl rfl rfl ?_
      rintro _ h2 ⟨⟨wv, rfl, hW1⟩, hle2⟩
      rw [Int.toNat_natCast] at hW1
      obtain ⟨q1, c1, q2, c2, q3, c3, q4, c4, q5, c5, q6, c6, rfl⟩ := hW1.newShape
      all_goals (refine R_move (.tuple _) rfl rfl rfl ?_)
      all_goals (refine R_extract (.agg _) rfl rfl rfl rfl ?_)
      all_goals (refine R_extract (.bool _) rfl rfl rfl rfl ?_)
      all_goals (refine R_alloc rfl rfl ?_; intro bk)
      all_goals (refine R_store 0 (.agg _) [(.int _ _), (.slice _ _ _), (.slice _ _ _), (.slice _ _ _), (.slice _ _ _), (.slice _ _ _), (.slice _ _ _)] _ _ rfl rfl rfl rfl rfl rfl rfl rfl rfl rfl ?_; dsimp only [splice, List.set])
      all_goals (refine R_assign (.bool _) rfl rfl rfl ?_)
      repeat' (first
        | refine W_seq ?_
        | refine WS_then ?_)
      refine W_region (id := 5) ?_
      all_goals (refine R_loadA 1 [(.int _ _), (.slice _ _ _)] rfl rfl rfl rfl rfl rfl ?_)
      all_goals (refine R_move (.int _ _) rfl rfl rfl ?_)
      refine R_call (main := main) (A := A) (WorldNew_t (main := main) (lo := lo) (A := A) n (hG.le hle2) hk (by omega) (by omega)) rfl rfl rfl rfl ?_
      rintro _ h3 ⟨⟨wv2, rfl, hW2⟩, hle3⟩
      rw [Int.toNat_natCast] at hW2
      obtain ⟨p1, d1, p2, d2, p3, d3, p4, d4, p5, d5, p6, d6, rfl⟩ := hW2.newShape
      have hX1 : WorldD h3 _ ⟨keepNew g n, List.replicate n ptr0, []⟩ := hW1.le hle3
      have hX2 : WorldD h3 _ ⟨keepNew g n, List.replicate n ptr0, []⟩ := hW2
      have hKB := kprB_new (g := g) (n := n) hgl (by omega)
      all_goals (refine R_move (.tuple _) rfl rfl rfl ?_)
      all_goals (refine R_extract (.agg _) rfl rfl rfl rfl ?_)
      all_goals (refine R_extract (.bool _) rfl rfl rfl rfl ?_)
      all_goals (refine R_alloc rfl rfl ?_; intro bk)
      all_goals (refine R_store 0 (.agg _) [(.int _ _), (.slice _ _ _), (.slice _ _ _), (.slice _ _ _), (.slice _ _ _), (.slice _ _ _), (.slice _ _ _)] _ _ rfl rfl rfl rfl rfl rfl rfl rfl rfl rfl ?_; dsimp only [splice, List.set])
      all_goals (refine R_assign (.bool _) rfl rfl rfl ?_)
      repeat' (first
        | refine W_seq ?_
        | refine WS_then ?_
        | refine W_else rfl ?_
        | refine W_skip ?_
        | refine W_block ?_
        | ((refine W_region (id := 6) ?_) <;>
        (refine R_move (.bool _) rfl rfl rfl ?_) <;>
        (refine R_move (.bool _) rfl rfl rfl ?_) <;>
        (refine R_neqB _ rfl rfl rfl rfl rfl ?_) <;>
        (refine R_move (.bool _) rfl rfl rfl ?_) <;>
        (refine R_loadA 0 [(.int _ _), (.slice _ _ _), (.slice _ _ _), (.slice _ _ _), (.slice _ _ _), (.slice _ _ _), (.slice _ _ _)] rfl rfl rfl rfl rfl rfl ?_) <;>
        (refine R_loadA 1 [(.int _ _), (.slice _ _ _), (.slice _ _ _), (.slice _ _ _), (.slice _ _ _), (.slice _ _ _), (.slice _ _ _)] rfl rfl rfl rfl rfl rfl ?_) <;>
        (refine R_call (llWorld_same (by assumption) (by assumption) (by assumption) (by omega)) rfl rfl rfl rfl ?_; rintro _ _ ⟨rfl, hq⟩; replace hq := hq.symm; subst hq) <;>
        (refine R_not _ rfl rfl rfl rfl ?_) <;>
        (refine R_pick (.bool _) rfl rfl rfl rfl ?_) <;>
        (refine R_move (.bool _) rfl rfl rfl ?_) <;>
        (refine R_move (.bool _) rfl rfl rfl ?_) <;>
        (refine R_not _ rfl rfl rfl rfl ?_) <;>
        (refine R_pick (.bool _) rfl rfl rfl rfl ?_))
        | ((refine W_region (id := 8) ?_) <;>
        (refine R_assign (.int _ _) rfl rfl rfl ?_)))
      revert bk
      intro b7
      refine W_loopA (ι := Nat) (fun i => n - i) (fun i => [(4, .int .i64 n), (7, .pointer (some ⟨b7, 0, none⟩)), (9, .int .i64 i)]) (fun _ => [(b7, bx [.int .i64 g.wide, .slice p1 g.cells.length d1, .slice p2 0 d2, .slice p3 n d3, .slice p4 0 d4, .slice p5 n d5, .slice p6 0 d6] 36)]) (fun _ => h3)
        (fun i => i ≤ n) 0 (by omega) (abs_mk ⟨rfl, rfl, rfl, trivial⟩ [0] rfl) ?_
      intro i e hi
      by_cases hlt : i < n
      · have hx : (List.replicate n ptr0)[i]? = some ptr0 := by rw [List.getElem?_replicate, if_pos hlt]
        obtain ⟨_, _, _, _, _, _, _, e1, _, ⟨qa, ca, e2, _, hda⟩, _⟩ := hX2
        injection e1 with e1
        have e1 := congrArg Array.toList e1
        simp at e1
        obtain ⟨-, -, -, -, -, rfl, -⟩ := e1
        injection e2 with e2
        subst e2
        obtain ⟨b, o, vs, rfl, ⟨_, _, _, _, rfl, hs1⟩, hat⟩ := hda i _ hx
        have a0 := hat.nth 0 rfl
        have a1 := hat.nth 1 rfl
        simp only [ptr0] at a0 a1
        repeat' (first
          | refine W_seq ?_
          | refine WS_then ?_
          | refine WS_end ?_
          | refine W_if rfl ?_
          | refine W_else rfl ?_
          | refine W_skip ?_
          | refine W_block ?_
          | refine then_normal ?_
          | refine block_normal ?_
          | ((refine W_region (id := 9) ?_) <;>
          (refine R_move (.int _ _) rfl rfl rfl ?_) <;>
          (refine R_field rfl rfl rfl ?_) <;>
          (refine R_load1 0 rfl rfl rfl rfl rfl rfl ?_) <;>
          (refine R_len rfl rfl rfl ?_) <;>
          (refine R_lss_t rfl rfl (by omega) rfl rfl ?_))
          | ((refine W_region (id := 11) ?_) <;>
          (refine R_field rfl rfl rfl ?_) <;>
          (refine R_load1 0 rfl rfl rfl rfl rfl rfl ?_) <;>
          (refine R_move (.int _ _) rfl rfl rfl ?_) <;>
          (refine R_index rfl rfl (by omega) (by omega) rfl rfl ?_) <;>
          (refine R_field rfl rfl rfl ?_) <;>
          (refine R_loadH1 rfl (by assumption) rfl rfl rfl ?_) <;>
          (refine R_not _ rfl rfl rfl rfl ?_) <;>
          (refine R_move (.bool _) rfl rfl rfl ?_) <;>
          (refine R_field rfl rfl rfl ?_) <;>
          (refine R_load1 0 rfl rfl rfl rfl rfl rfl ?_) <;>
          (refine R_move (.int _ _) rfl rfl rfl ?_) <;>
          (refine R_index rfl rfl (by omega) (by omega) rfl rfl ?_) <;>
          (refine R_field rfl rfl rfl ?_) <;>
          (refine R_loadH1 rfl (by assumption) rfl rfl rfl ?_) <;>
          (refine R_pick (.bool _) rfl rfl rfl rfl ?_))
          | ((refine W_region (id := 10) ?_) <;>
          (refine R_move (.int _ _) rfl rfl rfl ?_) <;>
          (refine R_add rfl rfl (by omega) rfl rfl ?_) <;>
          (refine R_assign (.int _ _) rfl rfl rfl ?_)))
        exact ⟨i + 1, by omega, abs_mk ⟨rfl, rfl, ivq (by omega), trivial⟩ [0] rfl, by omega⟩
      · repeat' (first
          | refine W_seq ?_
          | refine WS_then ?_
          | refine W_else rfl ?_
          | refine W_ret ?_
          | refine W_exit ?_
          | ((refine W_region (id := 9) ?_) <;>
          (refine R_move (.int _ _) rfl rfl rfl ?_) <;>
          (refine R_field rfl rfl rfl ?_) <;>
          (refine R_load1 0 rfl rfl rfl rfl rfl rfl ?_) <;>
          (refine R_len rfl rfl rfl ?_) <;>
          (refine R_lss_f rfl rfl (by omega) rfl rfl ?_))
          | ((refine W_region (id := 13) ?_) <;>
          (refine R_loadA 0 [(.int _ _), (.slice _ _ _), (.slice _ _ _), (.slice _ _ _), (.slice _ _ _), (.slice _ _ _), (.slice _ _ _)] rfl rfl rfl rfl rfl rfl ?_) <;>
          (refine R_call (WorldOk_new (by assumption) (by assumption) (by omega) (by omega)) rfl rfl rfl rfl ?_; rintro _ _ ⟨rfl, hq⟩; replace hq := hq.symm; subst hq) <;>
          (refine R_move (.bool _) rfl rfl rfl ?_) <;>
          (refine R_field rfl rfl rfl ?_) <;>
          (refine R_load1 0 rfl rfl rfl rfl rfl rfl ?_) <;>
          (refine R_len rfl rfl rfl ?_) <;>
          (refine R_eql_t rfl rfl (by omega) rfl rfl ?_) <;>
          (refine R_pick (.bool _) rfl rfl rfl rfl ?_) <;>
          (refine R_move (.bool _) rfl rfl rfl ?_) <;>
          (refine R_field rfl rfl rfl ?_) <;>
          (refine R_load1 0 rfl rfl rfl rfl rfl rfl ?_) <;>
          (refine R_len rfl rfl rfl ?_) <;>
          (refine R_move (.int _ _) rfl rfl rfl ?_) <;>
          (refine R_eql_t rfl rfl (by omega) rfl rfl ?_) <;>
          (refine R_pick (.bool _) rfl rfl rfl rfl ?_) <;>
          (refine R_assign (.bool _) rfl rfl rfl ?_)))
        exact endRle _ (LE.refl _) rfl (.cons (.tmp rfl) .nil) ⟨rfl, hle1.trans (hle2.trans hle3)⟩
    · have hno : gridOk g = false ∨ k < 1 ∨ 3 < k := by
        cases hgk : gridOk g with
        | false => exact .inl rfl
        | true => right; rw [hgk] at hok; simp at hok; omega
      refine R_call (main := main) (A := A) (SWorldNew_f (main := main) (lo := lo) (A := A) k hG hgl hno) rfl rfl rfl rfl ?_
      rintro _ h2 ⟨⟨wv, rfl, hW1⟩, hle2⟩
      obtain ⟨q1, c1, q2, c2, q3, c3, q4, c4, q5, c5, q6, c6, rfl⟩ := hW1.shape
      all_goals (refine R_move (.tuple _) rfl rfl rfl ?_)
      all_goals (refine R_extract (.agg _) rfl rfl rfl rfl ?_)
      all_goals (refine R_extract (.bool _) rfl rfl rfl rfl ?_)
      all_goals (refine R_alloc rfl rfl ?_; intro bk)
      all_goals (refine R_store 0 (.agg _) [(.int _ _), (.slice _ _ _), (.slice _ _ _), (.slice _ _ _), (.slice _ _ _), (.slice _ _ _), (.slice _ _ _)] _ _ rfl rfl rfl rfl rfl rfl rfl rfl rfl rfl ?_; dsimp only [splice, List.set])
      all_goals (refine R_assign (.bool _) rfl rfl rfl ?_)
      repeat' (first
        | refine W_seq ?_
        | refine WS_then ?_)
      refine W_region (id := 5) ?_
      all_goals (refine R_loadA 1 [(.int _ _), (.slice _ _ _)] rfl rfl rfl rfl rfl rfl ?_)
      all_goals (refine R_move (.int _ _) rfl rfl rfl ?_)
      refine R_call (main := main) (A := A) (WorldNew_f (main := main) (lo := lo) (A := A) k (hG.le hle2) hno) rfl rfl rfl rfl ?_
      rintro _ h3 ⟨⟨wv2, rfl, hW2⟩, hle3⟩
      obtain ⟨p1, d1, p2, d2, p3, d3, p4, d4, p5, d5, p6, d6, rfl⟩ := hW2.shape
      have hX1 : WorldD h3 _ ⟨keep0, List.replicate 0 ptr0, []⟩ := hW1.le hle3
      have hX2 : WorldD h3 _ ⟨keep0, List.replicate 0 ptr0, []⟩ := hW2
      have hKB := kprB_0
      all_goals (refine R_move (.tuple _) rfl rfl rfl ?_)
      all_goals (refine R_extract (.agg _) rfl rfl rfl rfl ?_)
      all_goals (refine R_extract (.bool _) rfl rfl rfl rfl ?_)
      all_goals (refine R_alloc rfl rfl ?_; intro bk)
      all_goals (refine R_store 0 (.agg _) [(.int _ _), (.slice _ _ _), (.slice _ _ _), (.slice _ _ _), (.slice _ _ _), (.slice _ _ _), (.slice _ _ _)] _ _ rfl rfl rfl rfl rfl rfl rfl rfl rfl rfl ?_; dsimp only [splice, List.set])
      all_goals (refine R_assign (.bool _) rfl rfl rfl ?_)
      repeat' (first
        | refine W_seq ?_
        | refine WS_then ?_
        | refine W_if rfl ?_
        | refine W_ret ?_
        | refine then_ret ?_
        | ((refine W_region (id := 6) ?_) <;>
        (refine R_move (.bool _) rfl rfl rfl ?_) <;>
        (refine R_move (.bool _) rfl rfl rfl ?_) <;>
        (refine R_neqB _ rfl rfl rfl rfl rfl ?_) <;>
        (refine R_move (.bool _) rfl rfl rfl ?_) <;>
        (refine R_loadA 0 [(.int _ _), (.slice _ _ _), (.slice _ _ _), (.slice _ _ _), (.slice _ _ _), (.slice _ _ _), (.slice _ _ _)] rfl rfl rfl rfl rfl rfl ?_) <;>
        (refine R_loadA 1 [(.int _ _), (.slice _ _ _), (.slice _ _ _), (.slice _ _ _), (.slice _ _ _), (.slice _ _ _), (.slice _ _ _)] rfl rfl rfl rfl rfl rfl ?_) <;>
        (refine R_call (llWorld_same (by assumption) (by assumption) (by assumption) (by omega)) rfl rfl rfl rfl ?_; rintro _ _ ⟨rfl, hq⟩; replace hq := hq.symm; subst hq) <;>
        (refine R_not _ rfl rfl rfl rfl ?_) <;>
        (refine R_pick (.bool _) rfl rfl rfl rfl ?_) <;>
        (refine R_move (.bool _) rfl rfl rfl ?_) <;>
        (refine R_move (.bool _) rfl rfl rfl ?_) <;>
        (refine R_not _ rfl rfl rfl rfl ?_) <;>
        (refine R_pick (.bool _) rfl rfl rfl rfl ?_))
        | ((refine W_region (id := 7) ?_) <;>
        (refine R_move (.bool _) rfl rfl rfl ?_) <;>
        (refine R_move (.bool _) rfl rfl rfl ?_) <;>
        (refine R_eqlB _ rfl rfl rfl rfl rfl ?_) <;>
        (refine R_move (.bool _) rfl rfl rfl ?_) <;>
        (refine R_loadA 0 [(.int _ _), (.slice _ _ _), (.slice _ _ _), (.slice _ _ _), (.slice _ _ _), (.slice _ _ _), (.slice _ _ _)] rfl rfl rfl rfl rfl rfl ?_) <;>
        (refine R_loadA 1 [(.int _ _), (.slice _ _ _), (.slice _ _ _), (.slice _ _ _), (.slice _ _ _), (.slice _ _ _), (.slice _ _ _)] rfl rfl rfl rfl rfl rfl ?_) <;>
        (refine R_call (llWorld_same (by assumption) (by assumption) (by assumption) (by omega)) rfl rfl rfl rfl ?_; rintro _ _ ⟨rfl, hq⟩; replace hq := hq.symm; subst hq) <;>
        (refine R_pick (.bool _) rfl rfl rfl rfl ?_) <;>
        (refine R_assign (.bool _) rfl rfl rfl ?_)))
      exact endRle _ (LE.refl _) rfl (.cons (.tmp rfl) .nil) ⟨rfl, hle1.trans (hle2.trans hle3)⟩
  · repeat' (first
      | refine W_seq ?_
      | refine WS_then ?_
      | refine W_if rfl ?_
      | refine W_ret ?_
      | refine then_ret ?_
      | ((refine W_region (id := 0) ?_) <;>
      (refine R_assign (.bool _) rfl rfl rfl ?_))
      | ((refine W_region (id := 1) ?_) <;>
      (refine R_move (.slice _ _ _) rfl rfl rfl ?_) <;>
      (refine R_len rfl rfl rfl ?_) <;>
      (refine R_gtr_t rfl rfl (by omega) rfl rfl ?_))
      | ((refine W_region (id := 2) ?_) <;>
      (refine R_assign (.bool _) rfl rfl rfl ?_)))
    exact endRle _ (LE.refl _) rfl (.cons (.tmp rfl) .nil) ⟨rfl, LE.refl _⟩
end Go.Lu
