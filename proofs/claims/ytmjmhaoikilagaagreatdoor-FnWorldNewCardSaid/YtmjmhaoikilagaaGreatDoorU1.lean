/- the reader; a drawn cell -/
import Derived.Test.YtmjmhaoikilagaaGreatDoorT18
import Derived.Test.YtmjmhaoikilagaaGreatDoorT15
import Derived.Test.YtmjmhaoikilagaaGreatDoorT10
set_option linter.unusedVariables false
set_option linter.unusedSectionVars false
namespace Go.Lu
open Go.Proofs
variable {main : Bool} {lo : Nat → Prop} {A : (Goroutine → LH → Prop) → Prop} [hA : Adm Tryz.prog main lo A]

theorem mulB {a c : Int} (h0 : 0 ≤ a) (h1 : a ≤ 1000000) (h2 : 0 ≤ c) (h3 : c ≤ 1000000) : -9223372036854775808 ≤ a * c ∧ a * c ≤ 9223372036854775807 := by
  have x := Int.mul_nonneg h0 h2
  have y : a * c ≤ 1000000 * 1000000 := Int.mul_le_mul h1 h3 h2 (by omega)
  omega
/-- A slice that owns its block, as data. -/
theorem Bc.sd {α : Type} {T : TypeId} {sz : Nat} {v : Value} {B : OL} {xs : List α} {f : α → List Value} (hB : Bc T sz v B (xs.flatMap f)) (hf : ∀ x, (f x).length = sz) (h1 : 0 < sz) (h : LH) : Sd (ov B h) sz v xs (fun x vs => vs = f x) := by
  have hfl := flat_len hf xs
  rcases hB with ⟨rfl, rfl, hu⟩ | ⟨b, len, cap, cs, rfl, rfl, h2, h3, h4, h5⟩
  · have hx : xs = [] := by
      cases xs with
      | nil => rfl
      | cons y ys => rw [hu] at hfl; simp only [List.length_nil, List.length_cons, Nat.succ_mul] at hfl; omega
    subst hx
    exact ⟨none, 0, rfl, by simp, fun i x hx => by simp at hx⟩
  · have hl : len = xs.length := by
      rw [h4] at hfl
      exact Nat.eq_of_mul_eq_mul_right h1 hfl
    subst hl
    refine ⟨_, cap, rfl, fun a ha => by injection ha with ha; subst ha; rfl, fun i x hx => ⟨b, 0, f x, rfl, rfl, ?_⟩⟩
    rw [Nat.zero_add]
    have hB' : Bc T sz (.slice (some ⟨b, 0, none⟩) xs.length cap) [(b, bx cs T)] (xs.flatMap f) := .inr ⟨b, _, cap, cs, rfl, rfl, h2, h3, h4, h5⟩
    obtain ⟨b', cap', cs', r, e1, e2, hcs, hcl, hle⟩ := hB'.get hf h1 hx
    injection e1 with e1; injection e1 with e1; injection e1 with e1
    subst e1
    injection e2 with e2; injection e2 with _ e2; injection e2 with e2
    have e3 : cs' = cs := by
      have := congrArg Array.toList e2
      simpa using this.symm
    subst e3
    rw [Nat.zero_add] at hcs
    exact at_box (j := 0) (by simp [keys]) rfl hcs

theorem splice_seg (A M Z vs : List Value) (h : M.length = vs.length) : splice (A ++ (M ++ Z)) A.length vs = A ++ (vs ++ Z) := by
  have gen : ∀ (vs M A Z : List Value), M.length = vs.length → splice (A ++ (M ++ Z)) A.length vs = A ++ (vs ++ Z) := by
    intro vs
    induction vs with
    | nil => intro M A Z h; cases M with | nil => rfl | cons _ _ => cases h
    | cons v vs ih =>
      intro M A Z h
      cases M with
      | nil => cases h
      | cons m M =>
        simp only [List.length_cons, Nat.add_right_cancel_iff] at h
        have e : (A ++ (m :: M ++ Z)).set A.length v = (A ++ [v]) ++ (M ++ Z) := by simp
        have := ih M (A ++ [v]) Z h
        simp only [splice, e]
        rw [List.length_append, List.length_singleton] at this
        rw [this]
        simp
  exact gen vs M A Z h
/-- One element is stored anew. -/
theorem Bc.put {α : Type} {T : TypeId} {sz b len cap : Nat} {C : List Value} {xs : List α} {f : α → List Value} (hB : Bc T sz (.slice (some ⟨b, 0, none⟩) len cap) [(b, bx C T)] (xs.flatMap f)) (hf : ∀ x, (f x).length = sz) {i : Nat} (hi : i < xs.length) (y : α) :
    Bc T sz (.slice (some ⟨b, 0, none⟩) len cap) [(b, bx (splice C (i * sz) (f y)) T)] ((xs.set i y).flatMap f) := by
  rcases hB with ⟨h, _⟩ | ⟨b', len', cap', C', e1, e2, h2, h3, h4, h5⟩
  · cases h
  · injection e1 with e1 e3 e4; injection e1 with e1; injection e1 with e1
    subst e1 e3 e4
    injection e2 with e2; injection e2 with _ e2; injection e2 with e2
    have e5 : C = C' := by simpa using congrArg Array.toList e2
    subst e5
    have hC : C = xs.flatMap f ++ C.drop (len * sz) := by rw [← h5, List.take_append_drop]
    have hx := List.getElem?_eq_getElem hi
    have hxs : xs = xs.take i ++ xs[i] :: xs.drop (i + 1) := by rw [List.getElem_cons_drop, List.take_append_drop]
    have hset : xs.set i y = xs.take i ++ y :: xs.drop (i + 1) := by rw [List.set_eq_take_append_cons_drop, if_pos hi]
    have hA : ((xs.take i).flatMap f).length = i * sz := by rw [flat_len hf, List.length_take, Nat.min_eq_left (by omega)]
    have hsp : splice C (i * sz) (f y) = (xs.set i y).flatMap f ++ C.drop (len * sz) := by
      rw [hset]
      conv => lhs; rw [hC, hxs]
      simp only [List.flatMap_append, List.flatMap_cons, List.append_assoc]
      rw [← hA]
      exact splice_seg _ (f xs[i]) _ (f y) (by rw [hf, hf])
    have hlen : ((xs.set i y).flatMap f).length = len * sz := by rw [flat_len hf, List.length_set, ← h4, flat_len hf]
    exact .inr ⟨b, len, cap, _, rfl, rfl, by rw [length_splice]; exact h2, h3, hlen, by rw [hsp, List.take_left' hlen]⟩
/-- The reader's own block. -/
def RdO (r : Nat) (q : Option Addr) (len cap : Nat) (p : Int) : OL := [(r, bx [.slice q len cap, .int .i64 p] 126)]
structure RdOk (h : LH) (q : Option Addr) (len : Nat) : Prop where
  le2000 : len ≤ 2000
  at_ : len = 0 ∨ ∃ b o, q = some ⟨b, o, none⟩ ∧ Bytes h b o len
theorem RdOk.le {h h' : LH} {q : Option Addr} {len : Nat} (hle : LE h h') (x : RdOk h q len) : RdOk h' q len := by
  refine ⟨x.le2000, x.at_.imp id ?_⟩
  rintro ⟨b, o, rfl, hb⟩
  exact ⟨b, o, rfl, ⟨fun i hi => by obtain ⟨y, h1, h2, h3⟩ := hb.byte i hi; exact ⟨y, h1.mono hle, h2, h3⟩⟩⟩

include hA
set_option maxHeartbeats 1000000 in
theorem pick0_fn (r : Nat) (a : Option Addr) (cap : Nat) (p q : Int) (h : LH) (hp : 0 ≤ p) (hp1 : p ≤ 1000000000) :
    FnO Tryz.prog lo A 58 [.pointer (some ⟨r, 0, none⟩), .int .i64 q] (RdO r a 0 cap p) h
      (fun v L h' => ∃ x : Int, v = .int .i64 x ∧ 0 ≤ x ∧ (0 < q → x < q) ∧ L = RdO r a 0 cap (p + 1) ∧ h' = h) := by
  refine FnO_body (n := 99) (fn := Tryz.f58) Tryz.func58 rfl rfl rfl ?_
  unfold RdO
  by_cases hq : q < 1
  · repeat' (first
      | refine W_seq ?_
      | refine WS_then ?_
      | refine W_if rfl ?_
      | refine W_ret ?_
      | refine then_ret ?_
      | ((refine W_region (id := 0) ?_) <;>
      (refine R_assign (.int _ _) rfl rfl rfl ?_))
      | ((refine W_region (id := 1) ?_) <;>
      (refine R_move (.pointer _) rfl rfl rfl ?_) <;>
      (refine R_move (.pointer _) rfl rfl rfl ?_) <;>
      (refine R_nilCheck rfl rfl rfl ?_) <;>
      (refine R_field rfl rfl rfl ?_) <;>
      (refine R_load1 0 rfl rfl rfl rfl rfl rfl ?_) <;>
      (refine R_add rfl rfl (by omega) rfl rfl ?_) <;>
      (refine R_nilCheck rfl rfl rfl ?_) <;>
      (refine R_field rfl rfl rfl ?_) <;>
      (refine R_store 0 (.int _ _) [(.int _ _)] _ _ rfl rfl rfl rfl rfl rfl rfl rfl rfl rfl ?_; dsimp only [splice, List.set]))
      | ((refine W_region (id := 2) ?_) <;>
      (refine R_move (.int _ _) rfl rfl rfl ?_) <;>
      (refine R_lss_t rfl rfl (by omega) rfl rfl ?_) <;>
      (refine R_move (.bool _) rfl rfl rfl ?_) <;>
      (refine R_skip rfl rfl ?_) <;>
      (refine R_skip rfl rfl ?_) <;>
      (refine R_skip rfl rfl ?_) <;>
      (refine R_skip rfl rfl ?_) <;>
      (refine R_skip rfl rfl ?_) <;>
      (refine R_skip rfl rfl ?_) <;>
      (refine R_pick (.bool _) rfl rfl rfl rfl ?_))
      | ((refine W_region (id := 3) ?_) <;>
      (refine R_assign (.int _ _) rfl rfl rfl ?_)))
    exact end1O _ [] [] (by simp) rfl fun _ _ => ⟨0, rfl, by omega, by omega, rfl, rfl⟩
  · repeat' (first
      | refine W_seq ?_
      | refine WS_then ?_
      | refine W_if rfl ?_
      | refine W_ret ?_
      | refine then_ret ?_
      | ((refine W_region (id := 0) ?_) <;>
      (refine R_assign (.int _ _) rfl rfl rfl ?_))
      | ((refine W_region (id := 1) ?_) <;>
      (refine R_move (.pointer _) rfl rfl rfl ?_) <;>
      (refine R_move (.pointer _) rfl rfl rfl ?_) <;>
      (refine R_nilCheck rfl rfl rfl ?_) <;>
      (refine R_field rfl rfl rfl ?_) <;>
      (refine R_load1 0 rfl rfl rfl rfl rfl rfl ?_) <;>
      (refine R_add rfl rfl (by omega) rfl rfl ?_) <;>
      (refine R_nilCheck rfl rfl rfl ?_) <;>
      (refine R_field rfl rfl rfl ?_) <;>
      (refine R_store 0 (.int _ _) [(.int _ _)] _ _ rfl rfl rfl rfl rfl rfl rfl rfl rfl rfl ?_; dsimp only [splice, List.set]))
      | ((refine W_region (id := 2) ?_) <;>
      (refine R_move (.int _ _) rfl rfl rfl ?_) <;>
      (refine R_lss_f rfl rfl (by omega) rfl rfl ?_) <;>
      (refine R_move (.bool _) rfl rfl rfl ?_) <;>
      (refine R_move (.pointer _) rfl rfl rfl ?_) <;>
      (refine R_nilCheck rfl rfl rfl ?_) <;>
      (refine R_field rfl rfl rfl ?_) <;>
      (refine R_load1 0 rfl rfl rfl rfl rfl rfl ?_) <;>
      (refine R_len rfl rfl rfl ?_) <;>
      (refine R_eql_t rfl rfl (by omega) rfl rfl ?_) <;>
      (refine R_pick (.bool _) rfl rfl rfl rfl ?_))
      | ((refine W_region (id := 3) ?_) <;>
      (refine R_assign (.int _ _) rfl rfl rfl ?_)))
    exact end1O _ [] [] (by simp) rfl fun _ _ => ⟨0, rfl, by omega, by omega, rfl, rfl⟩

theorem pickG {r len cap : Nat} {a : Option Addr} {p : Int} {h : LH} (hr : RdOk h a len) (hp : 0 ≤ p) (hp1 : p ≤ 1000000000) (q : Int) (hq : q ≤ 1000) (hq0 : 0 ≤ q) :
    FnO Tryz.prog lo A 58 [.pointer (some ⟨r, 0, none⟩), .int .i64 q] (RdO r a len cap p) h
      (fun v L h' => ((∃ x : Int, v = .int .i64 x ∧ 0 ≤ x ∧ (0 < q → x < q)) ∧ L = RdO r a len cap (p + 1) ∧ h' = h) ∧ LE h h') := by
  rcases hr.at_ with rfl | ⟨b, o, rfl, hb⟩
  · intro hap
    refine Fn.mono (pick0_fn (main := main) (lo := lo) (A := A) r a cap p q h hp hp1 hap) fun v H hv => ?_
    obtain ⟨L', h', e1, e2, x, h1, h2, h3, h4, rfl⟩ := hv
    exact ⟨L', h', e1, e2, ⟨⟨x, h1, h2, h3⟩, h4, rfl⟩, LE.refl _⟩
  · intro hap
    refine Fn.mono (pick_fn (main := main) (lo := lo) (A := A) r b o len cap p q h hb hr.le2000 hp hp1 hq hq0 hap) fun v H hv => ?_
    obtain ⟨L', h', e1, e2, x, h1, h2, h3, h4, rfl⟩ := hv
    exact ⟨L', h', e1, e2, ⟨⟨x, h1, h2, h3⟩, h4, rfl⟩, LE.refl _⟩

/- the rules for a pick -/
section
variable {n : Nat} {ops : Array Oper} {rest : List Oper} {e : Env} {D : List Deferred} {L : OL} {h : LH} {Q : Out → St → Prop}
variable {d : Nat} {ty : TypeId} {ps : String} {af : Array Edge} {g : Option (Nat × Bool)}
omit hA in
theorem set_front {α : Type} {x y : α} : ∀ {j : Nat} {L : List α}, L[j]? = some x → ([y] ++ L.eraseIdx j).Perm (L.set j y)
  | 0, [], h => by cases h
  | 0, z :: zs, h => by simp
  | j + 1, [], h => by cases h
  | j + 1, z :: zs, h => (List.Perm.swap _ _ _).trans ((set_front (j := j) (L := zs) h).cons z)
theorem R_rd (j : Nat) {r len cap : Nat} {a : Option Addr} {p q : Int} {fo x y : Operand} {ats : Array TypeId} (hr : RdOk h a len) (hj : L[j]? = some (r, bx [.slice a len cap, .int .i64 p] 126)) (hp : 0 ≤ p) (hp1 : p ≤ 1000000000)
    (hfo : ev e fo = .func (.func 58) #[] #[]) (hx : ev e x = .pointer (some ⟨r, 0, none⟩)) (hy : ev e y = .int .i64 q) (hq : q ≤ 1000) (hq0 : 0 ≤ q) (hw : wantd ops e g = some true) (hd : Nat.blt d n = true)
    (k : ∀ z : Int, 0 ≤ z → (0 < q → z < q) → WS lo A n ops rest ⟨upd e d (.int .i64 z), D, L.set j (r, bx [.slice a len cap, .int .i64 (p + 1)] 126), h⟩ Q) :
    WS lo A n ops ({ dst := some d, op := .call { callee := .value fo, args := [x, y].toArray, argTypes := ats }, type := ty, pos := ps, after := af, guard := g } :: rest) ⟨e, D, L, h⟩ Q := by
  refine R_callO (main := main) (lo := lo) (A := A) (RdO r a len cap p) (L.eraseIdx j) (pickG (main := main) (lo := lo) (A := A) hr hp hp1 q hq hq0) (permJ hj) hfo (first := []) (cap := []) (by simp [evs, hx, hy]) hw hd ?_
  rintro v L' h' ⟨⟨⟨z, rfl, h0, h1⟩, rfl, rfl⟩, _⟩
  exact WS_perm (main := main) (lo := lo) (A := A) _ (set_front hj) (k z h0 h1)
omit hA in
theorem R_sliceF {P : Program} [hA : Adm P main lo A] {t el sz by' : Nat} [ht : TEl P t el sz by'] {x ix : Operand} {b o len cap : Nat} {k' : IntKind} {i : Int} (hx : ev e x = .slice (some ⟨b, o, none⟩) len cap) (hi : ev e ix = .int k' i) (h0 : 0 ≤ i) (h1 : i ≤ len) (hw : wantd ops e g = some true) (hd : Nat.blt d n = true)
    (k : WS lo A n ops rest ⟨upd e d (.slice (some ⟨b, if cap = i.toNat then o else o + i.toNat * sz, none⟩) (len - i.toNat) (cap - i.toNat)), D, L, h⟩ Q) : WS lo A n ops ({ dst := some d, op := .slice t x (some ix) none none, type := ty, pos := ps, after := af, guard := g } :: rest) ⟨e, D, L, h⟩ Q := WS_det (D_sliceF hx hi h0 h1 hw) rfl hd k
/- a call that is handed one block -/
theorem R_callJ (j : Nat) {r : Nat} {ob : Obj} {L₂ : OL} {f : FuncId} [hf : TFun Tryz.prog f] {fo : Operand} {os : List Operand} {ats : Array TypeId} {first cap args : List Value} {K : Value → OL → LH → Prop}
    (c : FnO Tryz.prog lo A f args [(r, ob)] h K) (hj : L[j]? = some (r, ob)) (hL : L.eraseIdx j = L₂) (hfo : ev e fo = .func (.func f) first.toArray cap.toArray) (ha : first ++ evs e os ++ cap = args)
    (hw : wantd ops e g = some true) (hd : Nat.blt d n = true)
    (k : ∀ v L' h', K v L' h' → WS lo A n ops rest ⟨upd e d v, D, L' ++ L₂, h'⟩ Q) : WS lo A n ops ({ dst := some d, op := .call { callee := .value fo, args := os.toArray, argTypes := ats }, type := ty, pos := ps, after := af, guard := g } :: rest) ⟨e, D, L, h⟩ Q :=
  R_callO (main := main) (lo := lo) (A := A) [(r, ob)] L₂ c (by subst hL; exact permJ hj) hfo ha hw hd k
end

def codeOk (h : LH) (v : Value) : Prop := ∃ q len cap, v = .slice q len cap ∧ len ≤ cap ∧ len ≤ 9223372036854775807 ∧ (len = 0 ∨ ∃ b o, q = some ⟨b, o, none⟩ ∧ Bytes h b o len)

set_option maxHeartbeats 1000000 in
theorem l6Open_fn {v : Value} {h : LH} (hc : codeOk h v) : FnO Tryz.prog lo A 47 [v] [] h
    (fun v L h' => (∃ r q len cap, v = .pointer (some ⟨r, 0, none⟩) ∧ L = RdO r q len cap 0 ∧ RdOk h' q len ∧ h' = h) ∧ LE h h') := by
  obtain ⟨q, len, cap, rfl, h1, hbig, h2⟩ := hc
  refine FnO_body (n := 11) (fn := Tryz.f47) Tryz.func47 rfl rfl rfl ?_
  by_cases hl : len ≤ 2000
  · repeat' (first
      | refine W_seq ?_
      | refine WS_then ?_
      | refine W_else rfl ?_
      | refine W_skip ?_
      | refine W_ret ?_
      | ((refine W_region (id := 0) ?_) <;>
      (refine R_assign (.pointer _) rfl rfl rfl ?_))
      | ((refine W_region (id := 1) ?_) <;>
      (refine R_move (.slice _ _ _) rfl rfl rfl ?_) <;>
      (refine R_len rfl rfl rfl ?_) <;>
      (refine R_gtr_f rfl rfl (by omega) rfl rfl ?_))
      | ((refine W_region (id := 3) ?_) <;>
      (refine R_move (.slice _ _ _) rfl rfl rfl ?_) <;>
      (refine R_build [(.slice _ _ _), (.int _ _)] rfl rfl rfl ?_) <;>
      (refine R_box (.agg _) [(.slice _ _ _), (.int _ _)] rfl rfl rfl rfl ?_; intro bk) <;>
      (refine R_assign (.pointer _) rfl rfl rfl ?_)))
    exact end1O [_] [] [] (by simp) rfl fun _ _ => ⟨⟨_, q, len, cap, rfl, rfl, ⟨hl, h2⟩, rfl⟩, LE.refl _⟩
  · rcases h2 with h2 | ⟨b, o, rfl, hb⟩
    · omega
    · repeat' (first
        | refine W_seq ?_
        | refine WS_then ?_
        | refine W_if rfl ?_
        | refine W_ret ?_
        | ((refine W_region (id := 0) ?_) <;>
        (refine R_assign (.pointer _) rfl rfl rfl ?_))
        | ((refine W_region (id := 1) ?_) <;>
        (refine R_move (.slice _ _ _) rfl rfl rfl ?_) <;>
        (refine R_len rfl rfl rfl ?_) <;>
        (refine R_gtr_t rfl rfl (by omega) rfl rfl ?_))
        | ((refine W_region (id := 2) ?_) <;>
        (refine R_move (.slice _ _ _) rfl rfl rfl ?_) <;>
        (refine R_sliceTo rfl rfl (by omega) (by omega) rfl rfl ?_) <;>
        (refine R_assign (.slice _ _ _) rfl rfl rfl ?_))
        | ((refine W_region (id := 3) ?_) <;>
        (refine R_move (.slice _ _ _) rfl rfl rfl ?_) <;>
        (refine R_build [(.slice _ _ _), (.int _ _)] rfl rfl rfl ?_) <;>
        (refine R_box (.agg _) [(.slice _ _ _), (.int _ _)] rfl rfl rfl rfl ?_; intro bk) <;>
        (refine R_assign (.pointer _) rfl rfl rfl ?_)))
      exact end1O [_] [] [] (by simp) rfl fun _ _ => ⟨⟨_, some ⟨b, o, none⟩, 2000, cap, rfl, rfl, ⟨by simp, .inr ⟨b, o, rfl, ⟨fun i hi => hb.byte i (by omega)⟩⟩⟩, rfl⟩, LE.refl _⟩
end Go.Lu
