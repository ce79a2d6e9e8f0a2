/- what is drawn for a world; copies; keepers and worlds as data -/
import Derived.Test.YtmjmhaoikilagaaGreatDoorU4
set_option linter.unusedVariables false
set_option linter.unusedSectionVars false
namespace Go.Lu
open Go.Proofs
variable {main : Bool} {lo : Nat → Prop} {A : (Goroutine → LH → Prop) → Prop} [hA : Adm Tryz.prog main lo A]
/-! ### data -/
structure Prt where
  has : Bool
  ver : Int
  lights : List Int
structure Shn where
  ver : Int
  pic : List Int
structure Kpr where
  first : Grd
  edits : List Edt
  parts : List Prt
  shown : List Shn
def PrtR (H : LH) (p : Prt) (vs : List Value) : Prop := ∃ sv, vs = [.bool p.has, .int .i64 p.ver, sv] ∧ Sd H 1 sv p.lights IntR
def ShnR (H : LH) (p : Shn) (vs : List Value) : Prop := ∃ sv, vs = [.int .i64 p.ver, sv] ∧ Sd H 1 sv p.pic IntR
structure KeepC (H : LH) (w c e p s : Value) (k : Kpr) : Prop where
  first : GridD H (.agg [w, c].toArray) k.first
  edits : Sd H 3 e k.edits EdR
  parts : Sd H 3 p k.parts (PrtR H)
  shown : Sd H 2 s k.shown (ShnR H)
def KeepD (H : LH) (v : Value) (k : Kpr) : Prop := ∃ w c e p s, v = .agg [w, c, e, p, s].toArray ∧ KeepC H w c e p s k
theorem sdI_le {H H' : LH} (hle : LE H H') {sv : Value} {xs : List Int} (x : Sd H 1 sv xs IntR) : Sd H' 1 sv xs IntR := x.le hle fun _ _ _ h => h
theorem KeepC.le {H H' : LH} {w c e p s : Value} {k : Kpr} (hle : LE H H') (x : KeepC H w c e p s k) : KeepC H' w c e p s k :=
  ⟨x.first.le hle, x.edits.le hle fun _ _ _ h => h, x.parts.le hle fun _ _ _ ⟨sv, h1, h2⟩ => ⟨sv, h1, sdI_le hle h2⟩, x.shown.le hle fun _ _ _ ⟨sv, h1, h2⟩ => ⟨sv, h1, sdI_le hle h2⟩⟩
theorem KeepD.le {H H' : LH} {v : Value} {k : Kpr} (hle : LE H H') (x : KeepD H v k) : KeepD H' v k := by
  obtain ⟨w, c, e, p, s, rfl, h⟩ := x
  exact ⟨w, c, e, p, s, rfl, h.le hle⟩
structure Scn where
  grid : Grd
  lights : List Int
  feet : List (List Int)
structure Ptr where
  up : Bool
  has : Bool
  ver : Int
  scene : Scn
def RowR (H : LH) (p : List Int) (vs : List Value) : Prop := ∃ sv, vs = [sv] ∧ Sd H 1 sv p IntR
structure ScnC (H : LH) (w c l f : Value) (s : Scn) : Prop where
  grid : GridD H (.agg [w, c].toArray) s.grid
  lights : Sd H 1 l s.lights IntR
  feet : Sd H 1 f s.feet (RowR H)
theorem ScnC.le {H H' : LH} {w c l f : Value} {s : Scn} (hle : LE H H') (x : ScnC H w c l f s) : ScnC H' w c l f s :=
  ⟨x.grid.le hle, sdI_le hle x.lights, x.feet.le hle fun _ _ _ ⟨sv, h1, h2⟩ => ⟨sv, h1, sdI_le hle h2⟩⟩
def PtrR (H : LH) (p : Ptr) (vs : List Value) : Prop := ∃ w c l f, vs = [.bool p.up, .bool p.has, .int .i64 p.ver, w, c, l, f] ∧ ScnC H w c l f p.scene
structure Wrd where
  kind : Int
  to : Int
  src : Int
  ver : Int
  grid : Grd
  edit : Edt
  lights : List Int
def WrdR (H : LH) (p : Wrd) (vs : List Value) : Prop := ∃ w c l, vs = [.int .i64 p.kind, .int .i64 p.to, .int .i64 p.src, .int .i64 p.ver, w, c, .int .i64 p.edit.at_, .int .i64 p.edit.cell.kind, .int .i64 p.edit.cell.light, l] ∧ GridD H (.agg [w, c].toArray) p.grid ∧ Sd H 1 l p.lights IntR
structure Wld where
  keeper : Kpr
  painters : List Ptr
  nets : List Wrd
def WorldD (H : LH) (v : Value) (x : Wld) : Prop := ∃ w c e p s a b, v = .agg [w, c, e, p, s, a, b].toArray ∧ KeepC H w c e p s x.keeper ∧ Sd H 7 a x.painters (PtrR H) ∧ Sd H 10 b x.nets (WrdR H)
def grd0 : Grd := ⟨0, []⟩
def keep0 : Kpr := ⟨grd0, [], [], []⟩
def keepNew (g : Grd) (n : Nat) : Kpr := ⟨g, [], List.replicate n ⟨false, 0, []⟩, []⟩
def ptr0 : Ptr := ⟨true, false, 0, ⟨grd0, [], []⟩⟩
def worldNew (g : Grd) (n : Nat) : Wld := ⟨keepNew g n, List.replicate n ptr0, []⟩
theorem sd_nil {α : Type} (H : LH) (sz : Nat) (R : α → List Value → Prop) : Sd H sz (.slice none 0 0) [] R := ⟨none, 0, rfl, by simp, fun i x hx => by simp at hx⟩
theorem sd_empty {α : Type} (H : LH) (sz b : Nat) (R : α → List Value → Prop) : Sd H sz (.slice (some ⟨b, 0, none⟩) 0 0) [] R := ⟨_, 0, rfl, fun a ha => by injection ha with ha; subst ha; rfl, fun i x hx => by simp at hx⟩
theorem grid0 (H : LH) : GridD H (.agg [.int .i64 0, .slice none 0 0].toArray) grd0 := ⟨none, 0, rfl, by simp, fun i x hx => by simp [grd0] at hx⟩
theorem keepC0 (H : LH) : KeepC H (.int .i64 0) (.slice none 0 0) (.slice none 0 0) (.slice none 0 0) (.slice none 0 0) keep0 := ⟨grid0 H, sd_nil _ _ _, sd_nil _ _ _, sd_nil _ _ _⟩
theorem Sd.map {α β : Type} {H : LH} {sz : Nat} {v : Value} {xs : List α} {R : α → List Value → Prop} {R' : β → List Value → Prop} (f : α → β) (hs : Sd H sz v xs R) (hr : ∀ x vs, R x vs → R' (f x) vs) : Sd H sz v (xs.map f) R' := by
  obtain ⟨p, c, h1, h2, h3⟩ := hs
  refine ⟨p, c, by rw [List.length_map]; exact h1, h2, fun i x hx => ?_⟩
  rw [List.getElem?_map] at hx
  obtain ⟨y, hy, rfl⟩ := Option.map_eq_some_iff.1 hx
  obtain ⟨b, o, vs, h4, h5, h6⟩ := h3 i y hy
  exact ⟨b, o, vs, h4, hr _ _ h5, h6⟩
include hA
theorem SGridOk_f {gv : Value} {gr : Grd} {h : LH} (hs : GridD h gv gr) (hg : gridOk gr = false) (hl : gr.cells.length ≤ 1000000) : Fn Tryz.prog A 50 [gv].toArray h (fun v h' => v = .bool false ∧ h' = h) :=
  Fn.mono (SGridOk_fn (main := main) (lo := lo) hs hl) fun v h' ⟨a, b⟩ => ⟨by rw [a, hg], b⟩
theorem GridOk_f {gv : Value} {gr : Grd} {h : LH} (hs : GridD h gv gr) (hg : gridOk gr = false) : Fn Tryz.prog A 61 [gv].toArray h (fun v h' => v = .bool false ∧ h' = h) :=
  Fn.mono (GridOk_fn (main := main) (lo := lo) hs) fun v h' ⟨a, b⟩ => ⟨by rw [a, hg], b⟩
/-! ### what is drawn -/
set_option maxHeartbeats 1000000 in
theorem DrawKeepNew_fn {v : Value} {h : LH} (hc : codeOk h v) : Fn Tryz.prog A 40 [v].toArray h
    (fun v h' => (∃ gv g k, v = .tuple [gv, .int .i64 k].toArray ∧ GridD h' gv g ∧ g.cells.length ≤ 50 ∧ 0 ≤ k ∧ k < 5) ∧ LE h h') := by
  refine Fn_body (n := 11) (fn := Tryz.f40) Tryz.func40 rfl rfl rfl ?_
  repeat' (first
    | refine W_seq ?_
    | refine WS_then ?_
    | ((refine W_region (id := 0) ?_) <;>
    (refine R_alloc rfl rfl ?_; intro bk) <;>
    (refine R_assign (.int _ _) rfl rfl rfl ?_)))
  refine W_region (id := 1) ?_
  all_goals (refine R_move _ rfl rfl rfl ?_)
  refine R_callO (main := main) (A := A) [] _ (l6Open_fn (main := main) (lo := lo) (A := A) hc) (List.Perm.refl _) rfl rfl rfl rfl ?_
  rintro _ _ h1 ⟨⟨r, q, len, cap, rfl, rfl, hr, hq⟩, -⟩
  subst hq
  unfold RdO
  all_goals (refine R_assign (.pointer _) rfl rfl rfl ?_)
  repeat' (first
    | refine W_seq ?_
    | refine WS_then ?_)
  refine W_region (id := 2) ?_
  all_goals (refine R_move (.pointer _) rfl rfl rfl ?_)
  all_goals (refine R_callJ (main := main) (A := A) 0 (l71Some_fn (main := main) (A := A) (by assumption) (by omega) (by omega)) rfl rfl rfl rfl rfl rfl ?_; rintro _ _ _ ⟨⟨gd, pc, hgd, hgl, rfl, hpc0, hpc1⟩, hle⟩)
  have hr2 := hr.le hle
  obtain ⟨p, c, rfl, hp, hd⟩ := hgd
  unfold RdO
  all_goals (refine R_move (.pointer _) rfl rfl rfl ?_)
  all_goals (refine R_rd (main := main) (A := A) 0 (by assumption) rfl (by omega) (by omega) rfl rfl rfl (by omega) (by omega) rfl rfl ?_; intro pk hpk0 hpk1; try dsimp only [List.set])
  all_goals (refine R_store 1 (.agg _) [(.int _ _), (.slice _ _ _)] _ _ rfl rfl rfl rfl rfl rfl rfl rfl rfl rfl ?_; dsimp only [splice, List.set])
  all_goals (refine R_assign (.int _ _) rfl rfl rfl ?_)
  repeat' (first
    | refine WS_then ?_
    | refine W_ret ?_)
  refine endRle _ (LE.refl _) rfl (.cons (.cellA 1 [.int _ _, .slice _ _ _] rfl rfl (r := []) rfl rfl) (.cons (.tmp rfl) .nil)) ⟨⟨_, gd, pk, rfl, ⟨p, c, rfl, hp, hd⟩, hgl, hpk0, by omega⟩, hle⟩
theorem DrawWorldNew_fn {v : Value} {h : LH} (hc : codeOk h v) : Fn Tryz.prog A 11 [v].toArray h
    (fun v h' => (∃ gv g k, v = .tuple [gv, .int .i64 k].toArray ∧ GridD h' gv g ∧ g.cells.length ≤ 50 ∧ 0 ≤ k ∧ k < 5) ∧ LE h h') := by
  refine Fn_body (n := 8) (fn := Tryz.f11) Tryz.func11 rfl rfl rfl ?_
  repeat' (first
    | refine W_seq ?_
    | refine WS_then ?_
    | ((refine W_region (id := 0) ?_) <;>
    (refine R_alloc rfl rfl ?_; intro bk) <;>
    (refine R_assign (.int _ _) rfl rfl rfl ?_)))
  refine W_region (id := 1) ?_
  all_goals (refine R_move _ rfl rfl rfl ?_)
  refine R_call (main := main) (A := A) (DrawKeepNew_fn (main := main) (lo := lo) (A := A) hc) rfl rfl rfl rfl ?_
  rintro _ h1 ⟨⟨gv, g, k, rfl, hg, hgl, hk0, hk1⟩, hle⟩
  obtain ⟨p, c, rfl, hp, hd⟩ := hg
  all_goals (refine R_extract (.agg _) rfl rfl rfl rfl ?_)
  all_goals (refine R_extract (.int _ _) rfl rfl rfl rfl ?_)
  all_goals (refine R_store 0 (.agg _) [(.int _ _), (.slice _ _ _)] _ _ rfl rfl rfl rfl rfl rfl rfl rfl rfl rfl ?_; dsimp only [splice, List.set])
  all_goals (refine R_assign (.int _ _) rfl rfl rfl ?_)
  repeat' (first
    | refine WS_then ?_
    | refine W_ret ?_)
  refine endRle _ (LE.refl _) rfl (.cons (.cellA 0 [.int _ _, .slice _ _ _] rfl rfl (r := []) rfl rfl) (.cons (.tmp rfl) .nil)) ⟨⟨_, g, k, rfl, ⟨p, c, rfl, hp, hd⟩, hgl, hk0, hk1⟩, hle⟩
end Go.Lu
