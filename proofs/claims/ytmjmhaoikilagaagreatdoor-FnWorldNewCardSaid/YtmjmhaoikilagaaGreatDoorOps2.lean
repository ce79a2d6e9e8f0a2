/-
  More rules: arrays, interface values, function values, slices cut, make.
-/
import Derived.Test.YtmjmhaoikilagaaGreatDoorAppend
set_option linter.unusedVariables false
set_option linter.unusedSimpArgs false
set_option linter.unusedSectionVars false
namespace Go.Lu

class TNotIface (P : Program) (t : TypeId) : Prop where
  eq : (match P.underlying t with | some (.interface _) => false | some _ => true | none => false) = true
def arrOf (P : Program) (t : TypeId) : Option (Nat × TypeId × Nat) :=
  match P.underlying t with
  | some (.array len e) => (P.info? e).map fun i => (len, e, i.size)
  | _ => none
class TArr (P : Program) (t : TypeId) (len el size : outParam Nat) : Prop where
  eq : arrOf P t = some (len, el, size)

section
variable {P : Program} {main : Bool} {lo : Nat → Prop} {A : (Goroutine → LH → Prop) → Prop} {n : Nat}
variable {ops : Array Oper} {rest : List Oper} {e : Env} {D : List Deferred} {L : OL} {h : LH} {Q : Out → St → Prop}
variable {d : Nat} {ty : TypeId} {ps : String} {af : Array Edge} {g : Option (Nat × Bool)}

theorem arr_parts {t len el size : Nat} (h : arrOf P t = some (len, el, size)) : P.underlying t = some (.array len el) ∧ ∃ i, P.info? el = some i ∧ i.size = size := by
  unfold arrOf at h
  split at h
  · rename_i l e' hu
    cases hi : P.info? e' with
    | none => rw [hi] at h; cases h
    | some i =>
      rw [hi] at h
      injection h with h; injection h with h1 h; injection h with h2 h3
      subst h1 h2 h3
      exact ⟨hu, i, hi, rfl⟩
  · cases h

theorem D_mkIface {t : TypeId} [ht : TNotIface P t] {x : Operand} (v : Value) (hx : ev e x = v) (hw : wantd ops e g = some true) :
    Det P lo ops { dst := some d, op := .makeInterface t x, type := ty, pos := ps, after := af, guard := g } ⟨e, D, L, h⟩ (.iface t v) :=
  Or.inr ⟨hw, fun _ H hle Q' R' hq => by
    have h2 := ht.eq
    cases hu : P.underlying t with
    | none => rw [hu] at h2; cases h2
    | some u =>
      rw [hu] at h2
      subst hx
      simp only [execOp, Instr.makeInterface, wpL_bind', wp_underlying hu]
      cases u <;> first | (cases h2; done) | exact hq⟩
theorem D_buildArr {t len el size : Nat} [ht : TArr P t len el size] {zs : List Value} [hz : TZero P t zs] {parts : List (Nat × Operand)} (cs : List Value) (hp : fillL (fun i => some (i * size, size)) zs (evp e parts) = some cs) (hw : wantd ops e g = some true) :
    Det P lo ops { dst := some d, op := .build t parts.toArray, type := ty, pos := ps, after := af, guard := g } ⟨e, D, L, h⟩ (.agg cs.toArray) :=
  Or.inr ⟨hw, fun _ H hle Q' R' hq => by
    obtain ⟨z, hzc, hzw⟩ := wp_zero (P := P) (lo := lo) hz.eq
    obtain ⟨hu, inf, hinf, hsz⟩ := arr_parts ht.eq
    have hs : ∀ {H : LH} {Q : Nat → LH → Prop} {R : Value → LH → Prop}, wpL P lo (sizeOf el) H Q R = Q size H := by
      intro H Q R; unfold sizeOf; rw [wpL_bind', wp_typeInfo hinf]; rw [← hsz]; rfl
    simp only [execOp, Instr.build, wpL_bind', hzw, wp_underlying hu, hs]
    have e1 : (Array.map (fun x => match x with | (i, x) => (i, ev e x)) parts.toArray).toList = evp e parts := by rw [← evp_map]; simp
    rw [e1, hzc, fill_list _ _ _ _ hp]
    simp only [wpL_pure]
    exact hq⟩
theorem D_indexArr {t len el size : Nat} [ht : TArr P t len el size] {x ix : Operand} {b o : Nat} {k : IntKind} {i : Int} (hx : ev e x = .pointer (some ⟨b, o, none⟩)) (hi : ev e ix = .int k i) (h0 : 0 ≤ i) (h1 : i < len) (hw : wantd ops e g = some true) :
    Det P lo ops { dst := some d, op := .indexAddr t x ix, type := ty, pos := ps, after := af, guard := g } ⟨e, D, L, h⟩ (.pointer (some ⟨b, o + i.toNat * size, none⟩)) :=
  Or.inr ⟨hw, fun _ H hle Q' R' hq => by
    obtain ⟨hu, inf, hinf, hsz⟩ := arr_parts ht.eq
    have hs : ∀ {H : LH} {Q : Nat → LH → Prop} {R : Value → LH → Prop}, wpL P lo (sizeOf el) H Q R = Q size H := by
      intro H Q R; unfold sizeOf; rw [wpL_bind', wp_typeInfo hinf]; rw [← hsz]; rfl
    simp only [execOp, hx, hi, Instr.indexAt, asIntOf, wpL_bind', wp_underlying hu, wpL_pure, Instr.sureAddr, if_pos (show 0 ≤ i ∧ i < (len : Int) from ⟨h0, h1⟩), hs, add_mk]
    exact hq⟩
/- A scalar out of an array value. -/
theorem D_indexV {t len el : Nat} [ht : TArr P t len el 1] [hel : TSize P el false 1] {x ix : Operand} {cs : List Value} {k : IntKind} {i : Int} (v : Value) (hx : ev e x = .agg cs.toArray) (hi : ev e ix = .int k i) (h0 : 0 ≤ i) (h1 : i < len) (hv : cs[i.toNat]? = some v) (hw : wantd ops e g = some true) :
    Det P lo ops { dst := some d, op := .index t x ix, type := ty, pos := ps, after := af, guard := g } ⟨e, D, L, h⟩ v :=
  Or.inr ⟨hw, fun _ H hle Q' R' hq => by
    obtain ⟨hu, inf, hinf, hsz⟩ := arr_parts ht.eq
    have hs : ∀ {H : LH} {Q : Nat → LH → Prop} {R : Value → LH → Prop}, wpL P lo (sizeOf el) H Q R = Q 1 H := by
      intro H Q R; unfold sizeOf; rw [wpL_bind', wp_typeInfo hinf]; rw [← hsz]; rfl
    simp only [execOp, hx, hi, Instr.index, asIntOf, wpL_bind', wp_underlying hu, wpL_pure, if_pos (show 0 ≤ i ∧ i < (len : Int) from ⟨h0, h1⟩), hs, Nat.mul_one, part, wp_isAgg hel.eq, Bool.false_eq_true, if_false, List.getElem?_toArray, hv]
    exact hq⟩
theorem D_makeFunc {fn : Go.Fn} {first captured : List Operand} (fs cs : List Value) (hf : evs e first = fs) (hc : evs e captured = cs) (hw : wantd ops e g = some true) :
    Det P lo ops { dst := some d, op := .makeFunc fn first.toArray captured.toArray, type := ty, pos := ps, after := af, guard := g } ⟨e, D, L, h⟩ (.func fn fs.toArray cs.toArray) :=
  Or.inr ⟨hw, fun _ H hle Q' R' hq => by
    subst hf hc
    simp only [execOp, Instr.makeFunc, wpL_bind', wpL_pure, List.map_toArray, evs_map]
    exact hq⟩
/- bools, slices against nil, interface values against nil. -/
class TBool (P : Program) (t : TypeId) : Prop where
  eq : (match P.underlying t with | some .bool => true | _ => false) = true
theorem wp_eqB {t : TypeId} [ht : TBool P t] {a b : Bool} {H : LH} {Q : Bool → LH → Prop} {R : Value → LH → Prop} (hq : Q (a == b) H) : wpL P lo (Op.equal t (.bool a) (.bool b)) H Q R := by
  show wpL P lo (Op.equalIn (9999 + 1) t (.bool a) (.bool b)) H Q R
  rw [Op.equalIn]
  have h2 := ht.eq
  cases hu : P.underlying t with
  | none => rw [hu] at h2; cases h2
  | some u =>
    rw [hu] at h2
    cases u <;> first | (cases h2; done) | skip
    simp only [wpL_bind', wp_underlying hu, wpL_pure]
    exact hq
theorem D_eqlB {t t' : TypeId} [ht : TBool P t] {x y : Operand} {a b : Bool} (v : Bool) (hx : ev e x = .bool a) (hy : ev e y = .bool b) (hv : (a == b) = v) (hw : wantd ops e g = some true) :
    Det P lo ops { dst := some d, op := .binOp .eql t x y t', type := ty, pos := ps, after := af, guard := g } ⟨e, D, L, h⟩ (.bool v) :=
  Or.inr ⟨hw, fun _ H hle Q' R' hq => by
    subst hv
    simp only [execOp, hx, hy, wpL_bind', wpL_pure, eqGuard, binOp]
    simp [wpL_bind', wpL_pure]
    exact wp_eqB hq⟩
theorem D_neqB {t t' : TypeId} [ht : TBool P t] {x y : Operand} {a b : Bool} (v : Bool) (hx : ev e x = .bool a) (hy : ev e y = .bool b) (hv : (a != b) = v) (hw : wantd ops e g = some true) :
    Det P lo ops { dst := some d, op := .binOp .neq t x y t', type := ty, pos := ps, after := af, guard := g } ⟨e, D, L, h⟩ (.bool v) :=
  Or.inr ⟨hw, fun _ H hle Q' R' hq => by
    subst hv
    simp only [execOp, hx, hy, wpL_bind', wpL_pure, eqGuard, binOp]
    simp [wpL_bind', wpL_pure]
    exact wp_eqB hq⟩

variable [hA : Adm P main lo A]
include hA
theorem R_mkIface {t : TypeId} [ht : TNotIface P t] {x : Operand} (v : Value) (hx : ev e x = v) (hw : wantd ops e g = some true) (hd : Nat.blt d n = true)
    (k : WS lo A n ops rest ⟨upd e d (.iface t v), D, L, h⟩ Q) : WS lo A n ops ({ dst := some d, op := .makeInterface t x, type := ty, pos := ps, after := af, guard := g } :: rest) ⟨e, D, L, h⟩ Q := WS_det (D_mkIface v hx hw) rfl hd k
theorem R_buildArr {t len el size : Nat} [ht : TArr P t len el size] {zs : List Value} [hz : TZero P t zs] {parts : List (Nat × Operand)} (cs : List Value) (hp : fillL (fun i => some (i * size, size)) zs (evp e parts) = some cs) (hw : wantd ops e g = some true) (hd : Nat.blt d n = true)
    (k : WS lo A n ops rest ⟨upd e d (.agg cs.toArray), D, L, h⟩ Q) : WS lo A n ops ({ dst := some d, op := .build t parts.toArray, type := ty, pos := ps, after := af, guard := g } :: rest) ⟨e, D, L, h⟩ Q := WS_det (D_buildArr cs hp hw) rfl hd k
theorem R_indexArr {t len el size : Nat} [ht : TArr P t len el size] {x ix : Operand} {b o : Nat} {k : IntKind} {i : Int} (hx : ev e x = .pointer (some ⟨b, o, none⟩)) (hi : ev e ix = .int k i) (h0 : 0 ≤ i) (h1 : i < len) (hw : wantd ops e g = some true) (hd : Nat.blt d n = true)
    (k : WS lo A n ops rest ⟨upd e d (.pointer (some ⟨b, o + i.toNat * size, none⟩)), D, L, h⟩ Q) : WS lo A n ops ({ dst := some d, op := .indexAddr t x ix, type := ty, pos := ps, after := af, guard := g } :: rest) ⟨e, D, L, h⟩ Q := WS_det (D_indexArr hx hi h0 h1 hw) rfl hd k
theorem R_indexV {t len el : Nat} [ht : TArr P t len el 1] [hel : TSize P el false 1] {x ix : Operand} {cs : List Value} {k : IntKind} {i : Int} (v : Value) (hx : ev e x = .agg cs.toArray) (hi : ev e ix = .int k i) (h0 : 0 ≤ i) (h1 : i < len) (hv : cs[i.toNat]? = some v) (hw : wantd ops e g = some true) (hd : Nat.blt d n = true)
    (k : WS lo A n ops rest ⟨upd e d v, D, L, h⟩ Q) : WS lo A n ops ({ dst := some d, op := .index t x ix, type := ty, pos := ps, after := af, guard := g } :: rest) ⟨e, D, L, h⟩ Q := WS_det (D_indexV v hx hi h0 h1 hv hw) rfl hd k
theorem R_makeFunc {fn : Go.Fn} {first captured : List Operand} (fs cs : List Value) (hf : evs e first = fs) (hc : evs e captured = cs) (hw : wantd ops e g = some true) (hd : Nat.blt d n = true)
    (k : WS lo A n ops rest ⟨upd e d (.func fn fs.toArray cs.toArray), D, L, h⟩ Q) : WS lo A n ops ({ dst := some d, op := .makeFunc fn first.toArray captured.toArray, type := ty, pos := ps, after := af, guard := g } :: rest) ⟨e, D, L, h⟩ Q := WS_det (D_makeFunc fs cs hf hc hw) rfl hd k
theorem R_eqlB {t t' : TypeId} [ht : TBool P t] {x y : Operand} {a b : Bool} (v : Bool) (hx : ev e x = .bool a) (hy : ev e y = .bool b) (hv : (a == b) = v) (hw : wantd ops e g = some true) (hd : Nat.blt d n = true)
    (k : WS lo A n ops rest ⟨upd e d (.bool v), D, L, h⟩ Q) : WS lo A n ops ({ dst := some d, op := .binOp .eql t x y t', type := ty, pos := ps, after := af, guard := g } :: rest) ⟨e, D, L, h⟩ Q := WS_det (D_eqlB v hx hy hv hw) rfl hd k
theorem R_neqB {t t' : TypeId} [ht : TBool P t] {x y : Operand} {a b : Bool} (v : Bool) (hx : ev e x = .bool a) (hy : ev e y = .bool b) (hv : (a != b) = v) (hw : wantd ops e g = some true) (hd : Nat.blt d n = true)
    (k : WS lo A n ops rest ⟨upd e d (.bool v), D, L, h⟩ Q) : WS lo A n ops ({ dst := some d, op := .binOp .neq t x y t', type := ty, pos := ps, after := af, guard := g } :: rest) ⟨e, D, L, h⟩ Q := WS_det (D_neqB v hx hy hv hw) rfl hd k
/-- append in a region in the text's order. -/
theorem R_append {t el sz by' : Nat} [ht : TEl P t el sz by'] {zs : List Value} [hz : TZero P el zs] {L₀ B : OL} {x y : Operand} {v0 v1 : Value} {used ys : List Value}
    (hx : ev e x = v0) (hy : ev e y = v1) (hB : Bc el sz v0 B used) (hL : L = B ++ L₀) (hS : Apart lo L h → Src (ov L h) sz v1 ys) (hf : ys.all flat = true) (hbd : (used.length + ys.length) * (16 * by') ≤ 2 ^ 47 * sz) (hb1 : used.length + ys.length ≤ 2 ^ 40)
    (hzl : Nat.beq zs.length sz = true) (hs1 : Nat.blt 0 sz = true) (hw : wantd ops e g = some true) (hd : Nat.blt d n = true)
    (k : ∀ v' B' h', Bc el sz v' B' (used ++ ys) → LE h h' → WS lo A n ops rest ⟨upd e d v', D, B' ++ L₀, h'⟩ Q) :
    WS lo A n ops ({ dst := some d, op := .call { callee := .builtin .append, args := [x, y].toArray, argTypes := [t, t].toArray }, type := ty, pos := ps, after := af, guard := g } :: rest) ⟨e, D, L, h⟩ Q :=
  WS_ex (X_append (A := A) hx hy hB hL hS hf hzl hs1 hbd hb1) hw hd fun v' L'' h' hk => by
    obtain ⟨B', h1, rfl, h2, _⟩ := hk
    exact k v' B' h' h1 h2
/-- Owned blocks in another order. -/
theorem WS_perm (L' : OL) (hp : L.Perm L') (k : WS lo A n ops rest ⟨e, D, L', h⟩ Q) : WS lo A n ops rest ⟨e, D, L, h⟩ Q := by
  intro i hi ok
  have := k i hi ⟨ok.apart.perm hp, ok.undef⟩
  simp only at this ⊢
  rw [ov_perm hp h ok.apart.nodup]
  exact this
theorem W_perm {c : Code} (L' : OL) (hp : L.Perm L') (k : W lo A n c ⟨e, D, L', h⟩ Q) : W lo A n c ⟨e, D, L, h⟩ Q := by
  intro ok
  have := k ⟨ok.apart.perm hp, ok.undef⟩
  simp only at this ⊢
  rw [ov_perm hp h ok.apart.nodup]
  exact this
/-- Owned blocks become data. -/
theorem W_freeze {c : Code} (L₁ L₂ : OL) (hp : L.Perm (L₁ ++ L₂)) (k : Apart lo (L₁ ++ L₂) h → LE h (ov L₂ h) → W lo A n c ⟨e, D, L₁, ov L₂ h⟩ Q) : W lo A n c ⟨e, D, L, h⟩ Q := by
  intro ok
  have ha := ok.apart.perm hp
  have := k ha (LE.ov ha.right) ⟨ha.left, ok.undef⟩
  simp only at this ⊢
  rw [ov_perm hp h ok.apart.nodup, ov_append]
  exact this
theorem WS_freeze (L₁ L₂ : OL) (hp : L.Perm (L₁ ++ L₂)) (k : Apart lo (L₁ ++ L₂) h → LE h (ov L₂ h) → WS lo A n ops rest ⟨e, D, L₁, ov L₂ h⟩ Q) : WS lo A n ops rest ⟨e, D, L, h⟩ Q := by
  intro i hi ok
  have ha := ok.apart.perm hp
  have := k ha (LE.ov ha.right) i hi ⟨ha.left, ok.undef⟩
  simp only at this ⊢
  rw [ov_perm hp h ok.apart.nodup, ov_append]
  exact this
/-- Owned blocks are dropped (what they hold is no longer asked for): the rest of the walk must not name them. -/
theorem Src_data {sz : Nat} {v : Value} {ys : List Value} (hs : Src h sz v ys) (ha : Apart lo L h) : Src (ov L h) sz v ys := by
  obtain ⟨p, m, c, h1, h2, h3, h4⟩ := hs
  refine ⟨p, m, c, h1, h2, h3.imp id fun ⟨b, o, h5, h6⟩ => ⟨b, o, h5, h6.ov ha⟩, h4⟩
theorem Src_box {sz b m c : Nat} {cs : List Value} {T : TypeId} {j : Nat} (hj : L[j]? = some (b, bx cs T)) (hl : Nat.beq cs.length (m * sz) = true) (ha : Apart lo L h) : Src (ov L h) sz (.slice (some ⟨b, 0, none⟩) m c) cs :=
  ⟨_, m, c, rfl, Nat.eq_of_beq_eq_true hl, .inr ⟨b, 0, rfl, at_box ha.nodup hj (r := []) (by simp)⟩, fun _ a ha => by injection ha with ha; subst ha; rfl⟩
end
end Go.Lu
