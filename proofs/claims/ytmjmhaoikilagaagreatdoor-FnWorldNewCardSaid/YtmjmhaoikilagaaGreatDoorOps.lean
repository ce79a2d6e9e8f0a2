/-
  One rule a form of operation.
-/
import Derived.Test.YtmjmhaoikilagaaGreatDoorRules
set_option linter.unusedVariables false
set_option linter.unusedSimpArgs false
set_option linter.unusedSectionVars false
namespace Go.Lu

abbrev w64 (x : Int) : Int := IntKind.wrap .i64 x
theorem w64_eq {x : Int} (h0 : -9223372036854775808 ≤ x) (h1 : x ≤ 9223372036854775807) : w64 x = x := by
  show (if (true && decide (x % 18446744073709551616 ≥ 9223372036854775808)) = true then x % 18446744073709551616 - 18446744073709551616 else x % 18446744073709551616) = x
  simp only [Bool.true_and, decide_eq_true_eq]
  split <;> omega


/-! ### aggregates -/
def fillL (place : Nat → Option (Nat × Nat)) : List Value → List (Nat × Value) → Option (List Value)
  | cs, [] => some cs
  | cs, (i, v) :: rest =>
    match place i with
    | none => none
    | some (off, size) => cond (Nat.beq v.cells.toList.length size && Nat.ble (off + size) cs.length) (fillL place (splice cs off v.cells.toList) rest) none
def evp (e : Env) : List (Nat × Operand) → List (Nat × Value)
  | [] => []
  | (i, x) :: r => (i, ev e x) :: evp e r
theorem evp_map (e : Env) (l : List (Nat × Operand)) : l.map (fun (i, x) => (i, ev e x)) = evp e l := by
  induction l with
  | nil => rfl
  | cons x l ih => simp only [List.map_cons, ih, evp]

theorem foldl_splice (vs : List Value) : ∀ (cs : List Value) (off j : Nat), off + j + vs.length ≤ cs.length →
    (vs.zipIdx j).foldl (fun (cs : Array Value) (x : Value × Nat) => cs.setIfInBounds (off + x.2) x.1) cs.toArray = (splice cs (off + j) vs).toArray := by
  induction vs with
  | nil => intro cs off j _; rfl
  | cons v vs ih =>
    intro cs off j h
    simp only [List.length_cons] at h
    simp only [List.zipIdx_cons, List.foldl_cons, splice]
    have e : cs.toArray.setIfInBounds (off + j) v = (cs.set (off + j) v).toArray := by simp
    rw [e, ih _ _ _ (by simp; omega)]
    rfl
theorem fill_list (place : Nat → Option (Nat × Nat)) (parts : List (Nat × Value)) : ∀ (cs r : List Value), fillL place cs parts = some r → Instr.fill place cs.toArray parts = some r.toArray := by
  induction parts with
  | nil => intro cs r h; simp only [fillL, Option.some.injEq] at h; subst h; rfl
  | cons x parts ih =>
    obtain ⟨i, v⟩ := x
    intro cs r h
    simp only [fillL] at h
    simp only [Instr.fill]
    cases hp : place i with
    | none => rw [hp] at h; cases h
    | some os =>
      obtain ⟨off, size⟩ := os
      rw [hp] at h
      simp only at h
      cases hc : (Nat.beq v.cells.toList.length size && Nat.ble (off + size) cs.length) with
      | false => rw [hc] at h; cases h
      | true =>
        rw [hc] at h
        simp only [Bool.and_eq_true, Nat.beq_eq, Nat.ble_eq] at hc
        obtain ⟨h1, h2⟩ := hc
        have hs : v.cells.size = size := by simpa using h1
        have : ¬ ((v.cells.size != size) || decide (off + v.cells.size > cs.toArray.size)) = true := by simp [hs]; omega
        simp only [ne_eq, hs, not_true_eq_false, List.size_toArray, gt_iff_lt, decide_false, Bool.false_or, decide_eq_true_eq, if_neg (show ¬ cs.length < off + size by omega)]
        have key := foldl_splice v.cells.toList cs off 0 (by rw [h1]; omega)
        simp only [Nat.add_zero] at key
        have e2 : v.cells.zipIdx.foldl (fun (cs : Array Value) (x : Value × Nat) => cs.setIfInBounds (off + x.2) x.1) cs.toArray = (splice cs off v.cells.toList).toArray := by
          rw [← key, ← Array.foldl_toList]
          congr 1
          simp
        exact (congrArg (fun a => Instr.fill place a parts) e2).trans (ih _ _ h)

/-- A struct's fields' places. -/
def placesOf (P : Program) (t : TypeId) : Option (List (Nat × Nat)) :=
  match P.underlying t with
  | some (.struct fs) => fs.toList.mapM fun f => (P.info? f.type).map fun i => (f.offset, i.size)
  | _ => none
class TStr (P : Program) (t : TypeId) (pl : outParam (List (Nat × Nat))) (zs : outParam (List Value)) : Prop where
  eq : placesOf P t = some pl
  zero : zeroOf P t = some zs

theorem At.mono {h h' : LH} {b o : Nat} {vs : List Value} (hle : LE h h') (ha : At h b o vs) : At h' b o vs := by
  intro i v hi
  have := ha i v hi
  obtain ⟨c, t, f, hb⟩ := cell_some this
  unfold LH.cell? at this ⊢
  rw [hb] at this
  rw [hle _ _ hb]
  exact this
/-- What stands of its own: the same value in every grown heap. -/
def DetV (P : Program) (lo : Nat → Prop) (e : Env) (L : OL) (h : LH) (o : Oper) (v : Value) : Prop :=
  Apart lo L h → ∀ H, LE (ov L h) H → ∀ (Q : Next → LH → Prop) (R : Value → LH → Prop), Q (.value v) H → wpL P lo (execOp (ev e) o) H Q R
def Det (P : Program) (lo : Nat → Prop) (ops : Array Oper) (o : Oper) (s : St) (v : Value) : Prop :=
  (wantd ops s.e o.guard = some false ∧ v = undef) ∨ (wantd ops s.e o.guard = some true ∧ DetV P lo s.e s.L s.h o v)

section
variable {P : Program} {main : Bool} {lo : Nat → Prop} {A : (Goroutine → LH → Prop) → Prop} {n : Nat} [hA : Adm P main lo A]
variable {ops : Array Oper} {rest : List Oper} {e : Env} {D : List Deferred} {L : OL} {h : LH} {Q : Out → St → Prop}
variable {d : Nat} {ty : TypeId} {ps : String} {af : Array Edge} {g : Option (Nat × Bool)}
include hA

theorem WS_det {o : Oper} {v : Value} (x : Det P lo ops o ⟨e, D, L, h⟩ v) (ho : o.dst = some d) (hd : Nat.blt d n = true)
    (k : WS lo A n ops rest ⟨upd e d v, D, L, h⟩ Q) : WS lo A n ops (o :: rest) ⟨e, D, L, h⟩ Q := by
  rcases x with ⟨a, rfl⟩ | ⟨a, b⟩
  · exact WS_skip a (by rw [ho]; exact hd) (by rw [ho]; exact k)
  · exact WS_step a (by rw [ho]; exact hd) fun ok => b ok.apart _ (LE.refl _) _ _ ⟨L, h, rfl, ok.apart, by rw [ho]; exact k⟩
/-- What an operation comes to that changes the heap, or whose value is open. -/
def BehX (P : Program) (lo : Nat → Prop) (A : (Goroutine → LH → Prop) → Prop) (K : Value → OL → LH → Prop) : Next → LH → Prop
  | .value v, H => ∃ L h, H = ov L h ∧ Apart lo L h ∧ K v L h
  | .skip, H => ∃ L h, H = ov L h ∧ Apart lo L h ∧ K undef L h
  | .enter f args, H => FnE P A f args H fun
      | .returned v, H' => ∃ L h, H' = ov L h ∧ Apart lo L h ∧ K v L h
      | .panicked _, _ => False
  | _, _ => False
def Ex (P : Program) (lo : Nat → Prop) (A : (Goroutine → LH → Prop) → Prop) (e : Env) (L : OL) (h : LH) (o : Oper) (K : Value → OL → LH → Prop) : Prop :=
  Apart lo L h → wpL P lo (execOp (ev e) o) (ov L h) (BehX P lo A K) (fun _ _ => False)
theorem WS_ex {o : Oper} {K : Value → OL → LH → Prop} (x : Ex P lo A e L h o K) (hw : wantd ops e o.guard = some true) (hd : dstOk n o.dst = true)
    (k : ∀ v L' h', K v L' h' → WS lo A n ops rest ⟨putE e o.dst v, D, L', h'⟩ Q) : WS lo A n ops (o :: rest) ⟨e, D, L, h⟩ Q :=
  WS_step hw hd fun ok => by
    refine wpL_mono _ _ _ _ _ _ ?_ (fun _ _ y => y.elim) (x ok.apart)
    intro nx H y
    cases nx <;> first | exact y.elim | skip
    case value v => obtain ⟨L', h', rfl, ha, hk⟩ := y; exact ⟨L', h', rfl, ha, k v L' h' hk⟩
    case skip => obtain ⟨L', h', rfl, ha, hk⟩ := y; exact ⟨L', h', rfl, ha, k undef L' h' hk⟩
    case enter f args =>
      simp only [BehX] at y
      simp only [BehS]
      refine FnE.mono y fun r H' z => ?_
      cases r with
      | returned v => obtain ⟨L', h', rfl, ha, hk⟩ := z; exact ⟨L', h', rfl, ha, k v L' h' hk⟩
      | panicked ch => exact z.elim

omit hA in
theorem D_skip {op : Op} {dd : Option Nat} (hw : wantd ops e g = some false) : Det P lo ops { dst := dd, op := op, type := ty, pos := ps, after := af, guard := g } ⟨e, D, L, h⟩ undef := .inl ⟨hw, rfl⟩

theorem R_skip {op : Op} (hw : wantd ops e g = some false) (hd : Nat.blt d n = true) (k : WS lo A n ops rest ⟨upd e d undef, D, L, h⟩ Q) :
    WS lo A n ops ({ dst := some d, op := op, type := ty, pos := ps, after := af, guard := g } :: rest) ⟨e, D, L, h⟩ Q := WS_skip hw hd k
theorem R_skip0 {op : Op} (hw : wantd ops e g = some false) (k : WS lo A n ops rest ⟨e, D, L, h⟩ Q) :
    WS lo A n ops ({ dst := none, op := op, type := ty, pos := ps, after := af, guard := g } :: rest) ⟨e, D, L, h⟩ Q := WS_skip hw rfl k

omit hA in
theorem D_move {x : Operand} (v : Value) (hx : ev e x = v) (hw : wantd ops e g = some true) : Det P lo ops { dst := some d, op := .move x, type := ty, pos := ps, after := af, guard := g } ⟨e, D, L, h⟩ v :=
  Or.inr ⟨hw, fun _ H hle Q' R' hq => by subst hx; exact hq⟩
theorem R_move {x : Operand} (v : Value) (hx : ev e x = v) (hw : wantd ops e g = some true) (hd : Nat.blt d n = true)
    (k : WS lo A n ops rest ⟨upd e d v, D, L, h⟩ Q) : WS lo A n ops ({ dst := some d, op := .move x, type := ty, pos := ps, after := af, guard := g } :: rest) ⟨e, D, L, h⟩ Q :=
  WS_det (D_move v hx hw) rfl hd k
omit hA in
theorem D_assign {x : Operand} (v : Value) (hx : ev e x = v) (hw : wantd ops e g = some true) : Det P lo ops { dst := some d, op := .assign x, type := ty, pos := ps, after := af, guard := g } ⟨e, D, L, h⟩ v :=
  Or.inr ⟨hw, fun _ H hle Q' R' hq => by subst hx; exact hq⟩
theorem R_assign {x : Operand} (v : Value) (hx : ev e x = v) (hw : wantd ops e g = some true) (hd : Nat.blt d n = true)
    (k : WS lo A n ops rest ⟨upd e d v, D, L, h⟩ Q) : WS lo A n ops ({ dst := some d, op := .assign x, type := ty, pos := ps, after := af, guard := g } :: rest) ⟨e, D, L, h⟩ Q :=
  WS_det (D_assign v hx hw) rfl hd k
omit hA in
theorem D_pick {c x y : Operand} {t : Bool} (v : Value) (hc : ev e c = .bool t) (hx : cond t (ev e x) (ev e y) = v) (hw : wantd ops e g = some true) : Det P lo ops { dst := some d, op := .pick c x y, type := ty, pos := ps, after := af, guard := g } ⟨e, D, L, h⟩ v :=
  Or.inr ⟨hw, fun _ H hle Q' R' hq => by subst hx; simp only [execOp, hc, asBool, pure_bind, wpL_pure]; cases t <;> exact hq⟩
theorem R_pick {c x y : Operand} {t : Bool} (v : Value) (hc : ev e c = .bool t) (hx : cond t (ev e x) (ev e y) = v) (hw : wantd ops e g = some true) (hd : Nat.blt d n = true)
    (k : WS lo A n ops rest ⟨upd e d v, D, L, h⟩ Q) : WS lo A n ops ({ dst := some d, op := .pick c x y, type := ty, pos := ps, after := af, guard := g } :: rest) ⟨e, D, L, h⟩ Q :=
  WS_det (D_pick v hc hx hw) rfl hd k

/-! ### numbers -/
omit hA in
theorem wp_cmp {op : BinOp} {x y : Int} {k : IntKind} {H : LH} {Q' : Next → LH → Prop} {R' : Value → LH → Prop} {xo yo : Operand} {b : Bool} {t : TypeId}
    (hb : (match op with | .eql => some (x == y) | .neq => some (x != y) | .lss => some (decide (x < y)) | .leq => some (decide (x ≤ y)) | .gtr => some (decide (x > y)) | .geq => some (decide (x ≥ y)) | _ => none) = some b)
    (hq : Q' (.value (.bool b)) H) : wpL P lo (do let v ← (do eqGuard op t xo yo (.int k x) (.int k y); binOp op t (.int k x) (.int k y)); pure (.value v)) H Q' R' := by
  cases op <;> first | (cases hb; done) | (injection hb with hb; subst hb; simpa [wpL_bind', wpL_pure, eqGuard, binOp, Op.intCmp] using hq)

omit hA in
theorem D_cmp {op : BinOp} {x y : Operand} {t t' : TypeId} (b : Bool) {k : IntKind} {a c : Int} (hx : ev e x = .int k a) (hy : ev e y = .int k c)
    (hb : (match op with | .eql => some (a == c) | .neq => some (a != c) | .lss => some (decide (a < c)) | .leq => some (decide (a ≤ c)) | .gtr => some (decide (a > c)) | .geq => some (decide (a ≥ c)) | _ => none) = some b) (hw : wantd ops e g = some true) : Det P lo ops { dst := some d, op := .binOp op t x y t', type := ty, pos := ps, after := af, guard := g } ⟨e, D, L, h⟩ (.bool b) :=
  Or.inr ⟨hw, fun _ H hle Q' R' hq => by simp only [execOp, hx, hy]; exact wp_cmp hb hq⟩
theorem R_cmp {op : BinOp} {x y : Operand} {t t' : TypeId} (b : Bool) {k : IntKind} {a c : Int} (hx : ev e x = .int k a) (hy : ev e y = .int k c)
    (hb : (match op with | .eql => some (a == c) | .neq => some (a != c) | .lss => some (decide (a < c)) | .leq => some (decide (a ≤ c)) | .gtr => some (decide (a > c)) | .geq => some (decide (a ≥ c)) | _ => none) = some b) (hw : wantd ops e g = some true) (hd : Nat.blt d n = true)
    (k : WS lo A n ops rest ⟨upd e d (.bool b), D, L, h⟩ Q) : WS lo A n ops ({ dst := some d, op := .binOp op t x y t', type := ty, pos := ps, after := af, guard := g } :: rest) ⟨e, D, L, h⟩ Q :=
  WS_det (D_cmp b hx hy hb hw) rfl hd k

omit hA in
theorem D_lss_t {x y : Operand} {t t' : TypeId} {k : IntKind} {a c : Int} (hx : ev e x = .int k a) (hy : ev e y = .int k c) (hb : a < c) (hw : wantd ops e g = some true) : Det P lo ops { dst := some d, op := .binOp .lss t x y t', type := ty, pos := ps, after := af, guard := g } ⟨e, D, L, h⟩ (.bool true) :=
  D_cmp true hx hy (by simp [hb]) hw
theorem R_lss_t {x y : Operand} {t t' : TypeId} {k : IntKind} {a c : Int} (hx : ev e x = .int k a) (hy : ev e y = .int k c) (hb : a < c) (hw : wantd ops e g = some true) (hd : Nat.blt d n = true)
    (k : WS lo A n ops rest ⟨upd e d (.bool true), D, L, h⟩ Q) : WS lo A n ops ({ dst := some d, op := .binOp .lss t x y t', type := ty, pos := ps, after := af, guard := g } :: rest) ⟨e, D, L, h⟩ Q :=
  WS_det (D_lss_t hx hy hb hw) rfl hd k
omit hA in
theorem D_lss_f {x y : Operand} {t t' : TypeId} {k : IntKind} {a c : Int} (hx : ev e x = .int k a) (hy : ev e y = .int k c) (hb : c ≤ a) (hw : wantd ops e g = some true) : Det P lo ops { dst := some d, op := .binOp .lss t x y t', type := ty, pos := ps, after := af, guard := g } ⟨e, D, L, h⟩ (.bool false) :=
  D_cmp false hx hy (by simp; omega) hw
theorem R_lss_f {x y : Operand} {t t' : TypeId} {k : IntKind} {a c : Int} (hx : ev e x = .int k a) (hy : ev e y = .int k c) (hb : c ≤ a) (hw : wantd ops e g = some true) (hd : Nat.blt d n = true)
    (k : WS lo A n ops rest ⟨upd e d (.bool false), D, L, h⟩ Q) : WS lo A n ops ({ dst := some d, op := .binOp .lss t x y t', type := ty, pos := ps, after := af, guard := g } :: rest) ⟨e, D, L, h⟩ Q :=
  WS_det (D_lss_f hx hy hb hw) rfl hd k
omit hA in
theorem D_leq_t {x y : Operand} {t t' : TypeId} {k : IntKind} {a c : Int} (hx : ev e x = .int k a) (hy : ev e y = .int k c) (hb : a ≤ c) (hw : wantd ops e g = some true) : Det P lo ops { dst := some d, op := .binOp .leq t x y t', type := ty, pos := ps, after := af, guard := g } ⟨e, D, L, h⟩ (.bool true) :=
  D_cmp true hx hy (by simp [hb]) hw
theorem R_leq_t {x y : Operand} {t t' : TypeId} {k : IntKind} {a c : Int} (hx : ev e x = .int k a) (hy : ev e y = .int k c) (hb : a ≤ c) (hw : wantd ops e g = some true) (hd : Nat.blt d n = true)
    (k : WS lo A n ops rest ⟨upd e d (.bool true), D, L, h⟩ Q) : WS lo A n ops ({ dst := some d, op := .binOp .leq t x y t', type := ty, pos := ps, after := af, guard := g } :: rest) ⟨e, D, L, h⟩ Q :=
  WS_det (D_leq_t hx hy hb hw) rfl hd k
omit hA in
theorem D_leq_f {x y : Operand} {t t' : TypeId} {k : IntKind} {a c : Int} (hx : ev e x = .int k a) (hy : ev e y = .int k c) (hb : c < a) (hw : wantd ops e g = some true) : Det P lo ops { dst := some d, op := .binOp .leq t x y t', type := ty, pos := ps, after := af, guard := g } ⟨e, D, L, h⟩ (.bool false) :=
  D_cmp false hx hy (by simp; omega) hw
theorem R_leq_f {x y : Operand} {t t' : TypeId} {k : IntKind} {a c : Int} (hx : ev e x = .int k a) (hy : ev e y = .int k c) (hb : c < a) (hw : wantd ops e g = some true) (hd : Nat.blt d n = true)
    (k : WS lo A n ops rest ⟨upd e d (.bool false), D, L, h⟩ Q) : WS lo A n ops ({ dst := some d, op := .binOp .leq t x y t', type := ty, pos := ps, after := af, guard := g } :: rest) ⟨e, D, L, h⟩ Q :=
  WS_det (D_leq_f hx hy hb hw) rfl hd k
omit hA in
theorem D_gtr_t {x y : Operand} {t t' : TypeId} {k : IntKind} {a c : Int} (hx : ev e x = .int k a) (hy : ev e y = .int k c) (hb : c < a) (hw : wantd ops e g = some true) : Det P lo ops { dst := some d, op := .binOp .gtr t x y t', type := ty, pos := ps, after := af, guard := g } ⟨e, D, L, h⟩ (.bool true) :=
  D_cmp true hx hy (by simp; omega) hw
theorem R_gtr_t {x y : Operand} {t t' : TypeId} {k : IntKind} {a c : Int} (hx : ev e x = .int k a) (hy : ev e y = .int k c) (hb : c < a) (hw : wantd ops e g = some true) (hd : Nat.blt d n = true)
    (k : WS lo A n ops rest ⟨upd e d (.bool true), D, L, h⟩ Q) : WS lo A n ops ({ dst := some d, op := .binOp .gtr t x y t', type := ty, pos := ps, after := af, guard := g } :: rest) ⟨e, D, L, h⟩ Q :=
  WS_det (D_gtr_t hx hy hb hw) rfl hd k
omit hA in
theorem D_gtr_f {x y : Operand} {t t' : TypeId} {k : IntKind} {a c : Int} (hx : ev e x = .int k a) (hy : ev e y = .int k c) (hb : a ≤ c) (hw : wantd ops e g = some true) : Det P lo ops { dst := some d, op := .binOp .gtr t x y t', type := ty, pos := ps, after := af, guard := g } ⟨e, D, L, h⟩ (.bool false) :=
  D_cmp false hx hy (by simp; omega) hw
theorem R_gtr_f {x y : Operand} {t t' : TypeId} {k : IntKind} {a c : Int} (hx : ev e x = .int k a) (hy : ev e y = .int k c) (hb : a ≤ c) (hw : wantd ops e g = some true) (hd : Nat.blt d n = true)
    (k : WS lo A n ops rest ⟨upd e d (.bool false), D, L, h⟩ Q) : WS lo A n ops ({ dst := some d, op := .binOp .gtr t x y t', type := ty, pos := ps, after := af, guard := g } :: rest) ⟨e, D, L, h⟩ Q :=
  WS_det (D_gtr_f hx hy hb hw) rfl hd k
omit hA in
theorem D_geq_t {x y : Operand} {t t' : TypeId} {k : IntKind} {a c : Int} (hx : ev e x = .int k a) (hy : ev e y = .int k c) (hb : c ≤ a) (hw : wantd ops e g = some true) : Det P lo ops { dst := some d, op := .binOp .geq t x y t', type := ty, pos := ps, after := af, guard := g } ⟨e, D, L, h⟩ (.bool true) :=
  D_cmp true hx hy (by simp; omega) hw
theorem R_geq_t {x y : Operand} {t t' : TypeId} {k : IntKind} {a c : Int} (hx : ev e x = .int k a) (hy : ev e y = .int k c) (hb : c ≤ a) (hw : wantd ops e g = some true) (hd : Nat.blt d n = true)
    (k : WS lo A n ops rest ⟨upd e d (.bool true), D, L, h⟩ Q) : WS lo A n ops ({ dst := some d, op := .binOp .geq t x y t', type := ty, pos := ps, after := af, guard := g } :: rest) ⟨e, D, L, h⟩ Q :=
  WS_det (D_geq_t hx hy hb hw) rfl hd k
omit hA in
theorem D_geq_f {x y : Operand} {t t' : TypeId} {k : IntKind} {a c : Int} (hx : ev e x = .int k a) (hy : ev e y = .int k c) (hb : a < c) (hw : wantd ops e g = some true) : Det P lo ops { dst := some d, op := .binOp .geq t x y t', type := ty, pos := ps, after := af, guard := g } ⟨e, D, L, h⟩ (.bool false) :=
  D_cmp false hx hy (by simp; omega) hw
theorem R_geq_f {x y : Operand} {t t' : TypeId} {k : IntKind} {a c : Int} (hx : ev e x = .int k a) (hy : ev e y = .int k c) (hb : a < c) (hw : wantd ops e g = some true) (hd : Nat.blt d n = true)
    (k : WS lo A n ops rest ⟨upd e d (.bool false), D, L, h⟩ Q) : WS lo A n ops ({ dst := some d, op := .binOp .geq t x y t', type := ty, pos := ps, after := af, guard := g } :: rest) ⟨e, D, L, h⟩ Q :=
  WS_det (D_geq_f hx hy hb hw) rfl hd k
omit hA in
theorem D_eql_t {x y : Operand} {t t' : TypeId} {k : IntKind} {a c : Int} (hx : ev e x = .int k a) (hy : ev e y = .int k c) (hb : a = c) (hw : wantd ops e g = some true) : Det P lo ops { dst := some d, op := .binOp .eql t x y t', type := ty, pos := ps, after := af, guard := g } ⟨e, D, L, h⟩ (.bool true) :=
  D_cmp true hx hy (by simp [hb]) hw
theorem R_eql_t {x y : Operand} {t t' : TypeId} {k : IntKind} {a c : Int} (hx : ev e x = .int k a) (hy : ev e y = .int k c) (hb : a = c) (hw : wantd ops e g = some true) (hd : Nat.blt d n = true)
    (k : WS lo A n ops rest ⟨upd e d (.bool true), D, L, h⟩ Q) : WS lo A n ops ({ dst := some d, op := .binOp .eql t x y t', type := ty, pos := ps, after := af, guard := g } :: rest) ⟨e, D, L, h⟩ Q :=
  WS_det (D_eql_t hx hy hb hw) rfl hd k
omit hA in
theorem D_eql_f {x y : Operand} {t t' : TypeId} {k : IntKind} {a c : Int} (hx : ev e x = .int k a) (hy : ev e y = .int k c) (hb : a ≠ c) (hw : wantd ops e g = some true) : Det P lo ops { dst := some d, op := .binOp .eql t x y t', type := ty, pos := ps, after := af, guard := g } ⟨e, D, L, h⟩ (.bool false) :=
  D_cmp false hx hy (by simp [hb]) hw
theorem R_eql_f {x y : Operand} {t t' : TypeId} {k : IntKind} {a c : Int} (hx : ev e x = .int k a) (hy : ev e y = .int k c) (hb : a ≠ c) (hw : wantd ops e g = some true) (hd : Nat.blt d n = true)
    (k : WS lo A n ops rest ⟨upd e d (.bool false), D, L, h⟩ Q) : WS lo A n ops ({ dst := some d, op := .binOp .eql t x y t', type := ty, pos := ps, after := af, guard := g } :: rest) ⟨e, D, L, h⟩ Q :=
  WS_det (D_eql_f hx hy hb hw) rfl hd k
omit hA in
theorem D_neq_t {x y : Operand} {t t' : TypeId} {k : IntKind} {a c : Int} (hx : ev e x = .int k a) (hy : ev e y = .int k c) (hb : a ≠ c) (hw : wantd ops e g = some true) : Det P lo ops { dst := some d, op := .binOp .neq t x y t', type := ty, pos := ps, after := af, guard := g } ⟨e, D, L, h⟩ (.bool true) :=
  D_cmp true hx hy (by simp [hb]) hw
theorem R_neq_t {x y : Operand} {t t' : TypeId} {k : IntKind} {a c : Int} (hx : ev e x = .int k a) (hy : ev e y = .int k c) (hb : a ≠ c) (hw : wantd ops e g = some true) (hd : Nat.blt d n = true)
    (k : WS lo A n ops rest ⟨upd e d (.bool true), D, L, h⟩ Q) : WS lo A n ops ({ dst := some d, op := .binOp .neq t x y t', type := ty, pos := ps, after := af, guard := g } :: rest) ⟨e, D, L, h⟩ Q :=
  WS_det (D_neq_t hx hy hb hw) rfl hd k
omit hA in
theorem D_neq_f {x y : Operand} {t t' : TypeId} {k : IntKind} {a c : Int} (hx : ev e x = .int k a) (hy : ev e y = .int k c) (hb : a = c) (hw : wantd ops e g = some true) : Det P lo ops { dst := some d, op := .binOp .neq t x y t', type := ty, pos := ps, after := af, guard := g } ⟨e, D, L, h⟩ (.bool false) :=
  D_cmp false hx hy (by simp [hb]) hw
theorem R_neq_f {x y : Operand} {t t' : TypeId} {k : IntKind} {a c : Int} (hx : ev e x = .int k a) (hy : ev e y = .int k c) (hb : a = c) (hw : wantd ops e g = some true) (hd : Nat.blt d n = true)
    (k : WS lo A n ops rest ⟨upd e d (.bool false), D, L, h⟩ Q) : WS lo A n ops ({ dst := some d, op := .binOp .neq t x y t', type := ty, pos := ps, after := af, guard := g } :: rest) ⟨e, D, L, h⟩ Q :=
  WS_det (D_neq_f hx hy hb hw) rfl hd k

theorem R_lss {x y : Operand} {t t' : TypeId} {k : IntKind} {a c : Int} (hx : ev e x = .int k a) (hy : ev e y = .int k c) (hw : wantd ops e g = some true) (hd : Nat.blt d n = true)
    (k1 : a < c → WS lo A n ops rest ⟨upd e d (.bool true), D, L, h⟩ Q) (k2 : c ≤ a → WS lo A n ops rest ⟨upd e d (.bool false), D, L, h⟩ Q) : WS lo A n ops ({ dst := some d, op := .binOp .lss t x y t', type := ty, pos := ps, after := af, guard := g } :: rest) ⟨e, D, L, h⟩ Q := by
  by_cases hb : a < c
  · exact R_lss_t hx hy hb hw hd (k1 hb)
  · exact R_lss_f hx hy (by omega) hw hd (k2 (by omega))
theorem R_leq {x y : Operand} {t t' : TypeId} {k : IntKind} {a c : Int} (hx : ev e x = .int k a) (hy : ev e y = .int k c) (hw : wantd ops e g = some true) (hd : Nat.blt d n = true)
    (k1 : a ≤ c → WS lo A n ops rest ⟨upd e d (.bool true), D, L, h⟩ Q) (k2 : c < a → WS lo A n ops rest ⟨upd e d (.bool false), D, L, h⟩ Q) : WS lo A n ops ({ dst := some d, op := .binOp .leq t x y t', type := ty, pos := ps, after := af, guard := g } :: rest) ⟨e, D, L, h⟩ Q := by
  by_cases hb : a ≤ c
  · exact R_leq_t hx hy hb hw hd (k1 hb)
  · exact R_leq_f hx hy (by omega) hw hd (k2 (by omega))
theorem R_gtr {x y : Operand} {t t' : TypeId} {k : IntKind} {a c : Int} (hx : ev e x = .int k a) (hy : ev e y = .int k c) (hw : wantd ops e g = some true) (hd : Nat.blt d n = true)
    (k1 : c < a → WS lo A n ops rest ⟨upd e d (.bool true), D, L, h⟩ Q) (k2 : a ≤ c → WS lo A n ops rest ⟨upd e d (.bool false), D, L, h⟩ Q) : WS lo A n ops ({ dst := some d, op := .binOp .gtr t x y t', type := ty, pos := ps, after := af, guard := g } :: rest) ⟨e, D, L, h⟩ Q := by
  by_cases hb : c < a
  · exact R_gtr_t hx hy hb hw hd (k1 hb)
  · exact R_gtr_f hx hy (by omega) hw hd (k2 (by omega))
theorem R_geq {x y : Operand} {t t' : TypeId} {k : IntKind} {a c : Int} (hx : ev e x = .int k a) (hy : ev e y = .int k c) (hw : wantd ops e g = some true) (hd : Nat.blt d n = true)
    (k1 : c ≤ a → WS lo A n ops rest ⟨upd e d (.bool true), D, L, h⟩ Q) (k2 : a < c → WS lo A n ops rest ⟨upd e d (.bool false), D, L, h⟩ Q) : WS lo A n ops ({ dst := some d, op := .binOp .geq t x y t', type := ty, pos := ps, after := af, guard := g } :: rest) ⟨e, D, L, h⟩ Q := by
  by_cases hb : c ≤ a
  · exact R_geq_t hx hy hb hw hd (k1 hb)
  · exact R_geq_f hx hy (by omega) hw hd (k2 (by omega))
theorem R_eql {x y : Operand} {t t' : TypeId} {k : IntKind} {a c : Int} (hx : ev e x = .int k a) (hy : ev e y = .int k c) (hw : wantd ops e g = some true) (hd : Nat.blt d n = true)
    (k1 : a = c → WS lo A n ops rest ⟨upd e d (.bool true), D, L, h⟩ Q) (k2 : a ≠ c → WS lo A n ops rest ⟨upd e d (.bool false), D, L, h⟩ Q) : WS lo A n ops ({ dst := some d, op := .binOp .eql t x y t', type := ty, pos := ps, after := af, guard := g } :: rest) ⟨e, D, L, h⟩ Q := by
  by_cases hb : a = c
  · exact R_eql_t hx hy hb hw hd (k1 hb)
  · exact R_eql_f hx hy (by omega) hw hd (k2 (by omega))
theorem R_neq {x y : Operand} {t t' : TypeId} {k : IntKind} {a c : Int} (hx : ev e x = .int k a) (hy : ev e y = .int k c) (hw : wantd ops e g = some true) (hd : Nat.blt d n = true)
    (k1 : a ≠ c → WS lo A n ops rest ⟨upd e d (.bool true), D, L, h⟩ Q) (k2 : a = c → WS lo A n ops rest ⟨upd e d (.bool false), D, L, h⟩ Q) : WS lo A n ops ({ dst := some d, op := .binOp .neq t x y t', type := ty, pos := ps, after := af, guard := g } :: rest) ⟨e, D, L, h⟩ Q := by
  by_cases hb : a ≠ c
  · exact R_neq_t hx hy hb hw hd (k1 hb)
  · exact R_neq_f hx hy (by omega) hw hd (k2 (by omega))
omit hA in
theorem D_add {x y : Operand} {t t' : TypeId} {a c : Int} (hx : ev e x = .int .i64 a) (hy : ev e y = .int .i64 c) (hb : -9223372036854775808 ≤ a + c ∧ a + c ≤ 9223372036854775807) (hw : wantd ops e g = some true) : Det P lo ops { dst := some d, op := .binOp .add t x y t', type := ty, pos := ps, after := af, guard := g } ⟨e, D, L, h⟩ (.int .i64 (a + c)) :=
  Or.inr ⟨hw, fun _ H hle Q' R' hq => by simpa [execOp, hx, hy, wpL_bind', wpL_pure, eqGuard, binOp, Op.intArith, show IntKind.wrap .i64 (a + c) = a + c from w64_eq hb.1 hb.2] using hq⟩
theorem R_add {x y : Operand} {t t' : TypeId} {a c : Int} (hx : ev e x = .int .i64 a) (hy : ev e y = .int .i64 c) (hb : -9223372036854775808 ≤ a + c ∧ a + c ≤ 9223372036854775807) (hw : wantd ops e g = some true) (hd : Nat.blt d n = true)
    (k : WS lo A n ops rest ⟨upd e d (.int .i64 (a + c)), D, L, h⟩ Q) : WS lo A n ops ({ dst := some d, op := .binOp .add t x y t', type := ty, pos := ps, after := af, guard := g } :: rest) ⟨e, D, L, h⟩ Q :=
  WS_det (D_add hx hy hb hw) rfl hd k
omit hA in
theorem D_sub {x y : Operand} {t t' : TypeId} {a c : Int} (hx : ev e x = .int .i64 a) (hy : ev e y = .int .i64 c) (hb : -9223372036854775808 ≤ a - c ∧ a - c ≤ 9223372036854775807) (hw : wantd ops e g = some true) : Det P lo ops { dst := some d, op := .binOp .sub t x y t', type := ty, pos := ps, after := af, guard := g } ⟨e, D, L, h⟩ (.int .i64 (a - c)) :=
  Or.inr ⟨hw, fun _ H hle Q' R' hq => by simpa [execOp, hx, hy, wpL_bind', wpL_pure, eqGuard, binOp, Op.intArith, show IntKind.wrap .i64 (a - c) = a - c from w64_eq hb.1 hb.2] using hq⟩
theorem R_sub {x y : Operand} {t t' : TypeId} {a c : Int} (hx : ev e x = .int .i64 a) (hy : ev e y = .int .i64 c) (hb : -9223372036854775808 ≤ a - c ∧ a - c ≤ 9223372036854775807) (hw : wantd ops e g = some true) (hd : Nat.blt d n = true)
    (k : WS lo A n ops rest ⟨upd e d (.int .i64 (a - c)), D, L, h⟩ Q) : WS lo A n ops ({ dst := some d, op := .binOp .sub t x y t', type := ty, pos := ps, after := af, guard := g } :: rest) ⟨e, D, L, h⟩ Q :=
  WS_det (D_sub hx hy hb hw) rfl hd k
omit hA in
theorem D_mul {x y : Operand} {t t' : TypeId} {a c : Int} (hx : ev e x = .int .i64 a) (hy : ev e y = .int .i64 c) (hb : -9223372036854775808 ≤ a * c ∧ a * c ≤ 9223372036854775807) (hw : wantd ops e g = some true) : Det P lo ops { dst := some d, op := .binOp .mul t x y t', type := ty, pos := ps, after := af, guard := g } ⟨e, D, L, h⟩ (.int .i64 (a * c)) :=
  Or.inr ⟨hw, fun _ H hle Q' R' hq => by simpa [execOp, hx, hy, wpL_bind', wpL_pure, eqGuard, binOp, Op.intArith, show IntKind.wrap .i64 (a * c) = a * c from w64_eq hb.1 hb.2] using hq⟩
theorem R_mul {x y : Operand} {t t' : TypeId} {a c : Int} (hx : ev e x = .int .i64 a) (hy : ev e y = .int .i64 c) (hb : -9223372036854775808 ≤ a * c ∧ a * c ≤ 9223372036854775807) (hw : wantd ops e g = some true) (hd : Nat.blt d n = true)
    (k : WS lo A n ops rest ⟨upd e d (.int .i64 (a * c)), D, L, h⟩ Q) : WS lo A n ops ({ dst := some d, op := .binOp .mul t x y t', type := ty, pos := ps, after := af, guard := g } :: rest) ⟨e, D, L, h⟩ Q :=
  WS_det (D_mul hx hy hb hw) rfl hd k
omit hA in
theorem D_quo {x y : Operand} {t t' : TypeId} {a c : Int} (hx : ev e x = .int .i64 a) (hy : ev e y = .int .i64 c) (h0 : 0 ≤ a) (h1 : a ≤ 9223372036854775807) (hc : 0 < c) (hw : wantd ops e g = some true) : Det P lo ops { dst := some d, op := .binOp .quo t x y t', type := ty, pos := ps, after := af, guard := g } ⟨e, D, L, h⟩ (.int .i64 (a / c)) :=
  Or.inr ⟨hw, fun _ H hle Q' R' hq => by
    have hc' : c ≠ 0 := by omega
    have e1 : a.tdiv c = a / c := Int.tdiv_eq_ediv_of_nonneg h0
    have e2 : 0 ≤ a / c := Int.ediv_nonneg h0 (by omega)
    have e3 : a / c ≤ a := Int.ediv_le_self c h0
    simpa [execOp, hx, hy, wpL_bind', wpL_pure, eqGuard, binOp, Op.intDiv, hc', e1, show IntKind.wrap .i64 (a / c) = a / c from w64_eq (by omega) (by omega)] using hq⟩
theorem R_quo {x y : Operand} {t t' : TypeId} {a c : Int} (hx : ev e x = .int .i64 a) (hy : ev e y = .int .i64 c) (h0 : 0 ≤ a) (h1 : a ≤ 9223372036854775807) (hc : 0 < c) (hw : wantd ops e g = some true) (hd : Nat.blt d n = true)
    (k : WS lo A n ops rest ⟨upd e d (.int .i64 (a / c)), D, L, h⟩ Q) : WS lo A n ops ({ dst := some d, op := .binOp .quo t x y t', type := ty, pos := ps, after := af, guard := g } :: rest) ⟨e, D, L, h⟩ Q :=
  WS_det (D_quo hx hy h0 h1 hc hw) rfl hd k
omit hA in
theorem D_rem {x y : Operand} {t t' : TypeId} {a c : Int} (hx : ev e x = .int .i64 a) (hy : ev e y = .int .i64 c) (h0 : 0 ≤ a) (hc : 0 < c) (hw : wantd ops e g = some true) : Det P lo ops { dst := some d, op := .binOp .rem t x y t', type := ty, pos := ps, after := af, guard := g } ⟨e, D, L, h⟩ (.int .i64 (a % c)) :=
  Or.inr ⟨hw, fun _ H hle Q' R' hq => by
    have hc' : c ≠ 0 := by omega
    have e1 : a.tmod c = a % c := Int.tmod_eq_emod_of_nonneg h0
    simpa [execOp, hx, hy, wpL_bind', wpL_pure, eqGuard, binOp, Op.intDiv, hc', e1] using hq⟩
theorem R_rem {x y : Operand} {t t' : TypeId} {a c : Int} (hx : ev e x = .int .i64 a) (hy : ev e y = .int .i64 c) (h0 : 0 ≤ a) (hc : 0 < c) (hw : wantd ops e g = some true) (hd : Nat.blt d n = true)
    (k : WS lo A n ops rest ⟨upd e d (.int .i64 (a % c)), D, L, h⟩ Q) : WS lo A n ops ({ dst := some d, op := .binOp .rem t x y t', type := ty, pos := ps, after := af, guard := g } :: rest) ⟨e, D, L, h⟩ Q :=
  WS_det (D_rem hx hy h0 hc hw) rfl hd k
omit hA in
theorem D_not {x : Operand} {t : TypeId} {b : Bool} (v : Bool) (hx : ev e x = .bool b) (hv : (!b) = v) (hw : wantd ops e g = some true) : Det P lo ops { dst := some d, op := .unOp .not t x, type := ty, pos := ps, after := af, guard := g } ⟨e, D, L, h⟩ (.bool v) :=
  Or.inr ⟨hw, fun _ H hle Q' R' hq => by subst hv; simpa [execOp, hx, wpL_bind', wpL_pure, Op.unary] using hq⟩
theorem R_not {x : Operand} {t : TypeId} {b : Bool} (v : Bool) (hx : ev e x = .bool b) (hv : (!b) = v) (hw : wantd ops e g = some true) (hd : Nat.blt d n = true)
    (k : WS lo A n ops rest ⟨upd e d (.bool v), D, L, h⟩ Q) : WS lo A n ops ({ dst := some d, op := .unOp .not t x, type := ty, pos := ps, after := af, guard := g } :: rest) ⟨e, D, L, h⟩ Q :=
  WS_det (D_not v hx hv hw) rfl hd k


class TInt (P : Program) (t : TypeId) (k : outParam IntKind) : Prop where
  eq : (match P.underlying t with | some (.int k) => some k | _ => none) = some k
class TUnd (P : Program) (t : TypeId) : Prop where
  eq : (P.underlying t).isSome = true
omit hA in
theorem D_conv {t t' : TypeId} {kk : IntKind} [ht : TInt P t' kk] [hu : TUnd P t] {x : Operand} {k : IntKind} {a : Int} (hx : ev e x = .int k a) (hr : IntKind.wrap kk a = a) (hw : wantd ops e g = some true) :
    Det P lo ops { dst := some d, op := .convert t t' x, type := ty, pos := ps, after := af, guard := g } ⟨e, D, L, h⟩ (.int kk a) :=
  Or.inr ⟨hw, fun _ H hle Q' R' hq => by
    obtain ⟨u, hu⟩ := Option.isSome_iff_exists.1 hu.eq
    have h2 := ht.eq
    split at h2 <;> first | (cases h2; done) | skip
    rename_i k2 h3
    injection h2 with h2
    subst h2
    simp only [execOp, hx, convert, wpL_bind', wp_underlying hu, wp_underlying h3, Conv.intToInt, wpL_pure, hr]
    exact hq⟩
theorem R_conv {t t' : TypeId} {kk : IntKind} [ht : TInt P t' kk] [hu : TUnd P t] {x : Operand} {k : IntKind} {a : Int} (hx : ev e x = .int k a) (hr : IntKind.wrap kk a = a) (hw : wantd ops e g = some true) (hd : Nat.blt d n = true)
    (k : WS lo A n ops rest ⟨upd e d (.int kk a), D, L, h⟩ Q) : WS lo A n ops ({ dst := some d, op := .convert t t' x, type := ty, pos := ps, after := af, guard := g } :: rest) ⟨e, D, L, h⟩ Q := WS_det (D_conv hx hr hw) rfl hd k
def xor64 (a c : Int) : Int := IntKind.wrap .i64 ((BitVec.ofInt 64 a ^^^ BitVec.ofInt 64 c).toNat)
omit hA in
theorem D_xor {x y : Operand} {t t' : TypeId} {a c : Int} (hx : ev e x = .int .i64 a) (hy : ev e y = .int .i64 c) (hw : wantd ops e g = some true) :
    Det P lo ops { dst := some d, op := .binOp .xor t x y t', type := ty, pos := ps, after := af, guard := g } ⟨e, D, L, h⟩ (.int .i64 (xor64 a c)) :=
  Or.inr ⟨hw, fun _ H hle Q' R' hq => by simp [execOp, hx, hy, wpL_bind', wpL_pure, eqGuard, binOp, Op.intBits, -BitVec.toNat_xor, -BitVec.toNat_ofInt]; exact hq⟩
theorem R_xor {x y : Operand} {t t' : TypeId} {a c : Int} (hx : ev e x = .int .i64 a) (hy : ev e y = .int .i64 c) (hw : wantd ops e g = some true) (hd : Nat.blt d n = true)
    (k : WS lo A n ops rest ⟨upd e d (.int .i64 (xor64 a c)), D, L, h⟩ Q) : WS lo A n ops ({ dst := some d, op := .binOp .xor t x y t', type := ty, pos := ps, after := af, guard := g } :: rest) ⟨e, D, L, h⟩ Q := WS_det (D_xor hx hy hw) rfl hd k
omit hA in
theorem xor64_bd {a c : Int} (h0 : 0 ≤ a) (h1 : a < 2 ^ 62) (h2 : 0 ≤ c) (h3 : c < 2 ^ 62) : 0 ≤ xor64 a c ∧ xor64 a c < 2 ^ 62 := by
  obtain ⟨x, rfl⟩ := Int.eq_ofNat_of_zero_le h0
  obtain ⟨y, rfl⟩ := Int.eq_ofNat_of_zero_le h2
  have hx : x < 2 ^ 62 := by omega
  have hy : y < 2 ^ 62 := by omega
  have hz : x ^^^ y < 2 ^ 62 := Nat.xor_lt_two_pow hx hy
  have e : (BitVec.ofInt 64 (x : Int) ^^^ BitVec.ofInt 64 (y : Int)).toNat = x ^^^ y := by
    simp only [BitVec.toNat_xor, BitVec.toNat_ofInt]
    congr 1 <;> omega
  unfold xor64
  rw [e]
  have := w64_eq (x := ((x ^^^ y : Nat) : Int)) (by omega) (by omega)
  unfold w64 at this
  rw [this]
  omega

/-! ### addresses -/
omit hA in
theorem D_field {s f off : Nat} [ht : TFld P s f off] {x : Operand} {b o : Nat} (hx : ev e x = .pointer (some ⟨b, o, none⟩)) (hw : wantd ops e g = some true) : Det P lo ops { dst := some d, op := .fieldAddr s x f, type := ty, pos := ps, after := af, guard := g } ⟨e, D, L, h⟩ (.pointer (some ⟨b, o + off, none⟩)) :=
  Or.inr ⟨hw, fun _ H hle Q' R' hq => by
    have he := ht.eq
    unfold fldOf at he
    split at he <;> first | (cases he; done) | skip
    rename_i fs hu
    split at he <;> first | (cases he; done) | skip
    rename_i fd hf
    split at he <;> first | (cases he; done) | skip
    rename_i i hi
    split at he <;> first | (cases he; done) | skip
    rename_i hz
    injection he with he
    have hsz : ∀ {H : LH} {Q : Nat → LH → Prop} {R : Value → LH → Prop}, wpL P lo (sizeOf fd.type) H Q R = Q i.size H := by
      intro H Q R; unfold sizeOf; rw [wpL_bind', wp_typeInfo hi]; rfl
    simp only [execOp, hx, Instr.fieldAt, wpL_bind', wp_underlying hu, hf, Instr.sureAddr, wpL_pure, fieldPlace, hsz, if_neg hz, add_mk, he]
    exact hq⟩
theorem R_field {s f off : Nat} [ht : TFld P s f off] {x : Operand} {b o : Nat} (hx : ev e x = .pointer (some ⟨b, o, none⟩)) (hw : wantd ops e g = some true) (hd : Nat.blt d n = true)
    (k : WS lo A n ops rest ⟨upd e d (.pointer (some ⟨b, o + off, none⟩)), D, L, h⟩ Q) : WS lo A n ops ({ dst := some d, op := .fieldAddr s x f, type := ty, pos := ps, after := af, guard := g } :: rest) ⟨e, D, L, h⟩ Q :=
  WS_det (D_field hx hw) rfl hd k

omit hA in
theorem D_index {t el sz by' : Nat} [ht : TEl P t el sz by'] {x ix : Operand} {b o len cap : Nat} {k : IntKind} {i : Int} (hx : ev e x = .slice (some ⟨b, o, none⟩) len cap) (hi : ev e ix = .int k i) (h0 : 0 ≤ i) (h1 : i < len) (hw : wantd ops e g = some true) : Det P lo ops { dst := some d, op := .indexAddr t x ix, type := ty, pos := ps, after := af, guard := g } ⟨e, D, L, h⟩ (.pointer (some ⟨b, o + i.toNat * sz, none⟩)) :=
  Or.inr ⟨hw, fun _ H hle Q' R' hq => by
    obtain ⟨hu, inf, hinf, hsz, _⟩ := el_parts ht.eq
    have hs : ∀ {H : LH} {Q : Nat → LH → Prop} {R : Value → LH → Prop}, wpL P lo (sizeOf el) H Q R = Q sz H := by
      intro H Q R; unfold sizeOf; rw [wpL_bind', wp_typeInfo hinf]; rw [← hsz]; rfl
    simp only [execOp, hx, hi, Instr.indexAt, asIntOf, wpL_bind', wp_underlying hu, wpL_pure, if_pos (show 0 ≤ i ∧ i < (len : Int) from ⟨h0, h1⟩), hs, add_mk]
    exact hq⟩
theorem R_index {t el sz by' : Nat} [ht : TEl P t el sz by'] {x ix : Operand} {b o len cap : Nat} {k : IntKind} {i : Int} (hx : ev e x = .slice (some ⟨b, o, none⟩) len cap) (hi : ev e ix = .int k i) (h0 : 0 ≤ i) (h1 : i < len) (hw : wantd ops e g = some true) (hd : Nat.blt d n = true)
    (k : WS lo A n ops rest ⟨upd e d (.pointer (some ⟨b, o + i.toNat * sz, none⟩)), D, L, h⟩ Q) : WS lo A n ops ({ dst := some d, op := .indexAddr t x ix, type := ty, pos := ps, after := af, guard := g } :: rest) ⟨e, D, L, h⟩ Q :=
  WS_det (D_index hx hi h0 h1 hw) rfl hd k

omit hA in
theorem D_nilCheck {x : Operand} {a : Addr} (hx : ev e x = .pointer (some a)) (hw : wantd ops e g = some true) : Det P lo ops { dst := some d, op := .nilCheck x, type := ty, pos := ps, after := af, guard := g } ⟨e, D, L, h⟩ (.pointer (some a)) :=
  Or.inr ⟨hw, fun _ H hle Q' R' hq => by simp only [execOp, hx]; exact hq⟩
theorem R_nilCheck {x : Operand} {a : Addr} (hx : ev e x = .pointer (some a)) (hw : wantd ops e g = some true) (hd : Nat.blt d n = true)
    (k : WS lo A n ops rest ⟨upd e d (.pointer (some a)), D, L, h⟩ Q) : WS lo A n ops ({ dst := some d, op := .nilCheck x, type := ty, pos := ps, after := af, guard := g } :: rest) ⟨e, D, L, h⟩ Q :=
  WS_det (D_nilCheck hx hw) rfl hd k

omit hA in
theorem D_extract {x : Operand} {j : Nat} {vs : List Value} (v : Value) (hx : ev e x = .tuple vs.toArray) (hj : vs[j]? = some v) (hw : wantd ops e g = some true) : Det P lo ops { dst := some d, op := .extract x j, type := ty, pos := ps, after := af, guard := g } ⟨e, D, L, h⟩ v :=
  Or.inr ⟨hw, fun _ H hle Q' R' hq => by simp only [execOp, hx, Instr.extract, List.getElem?_toArray, hj, wpL_bind', wpL_pure]; exact hq⟩
theorem R_extract {x : Operand} {j : Nat} {vs : List Value} (v : Value) (hx : ev e x = .tuple vs.toArray) (hj : vs[j]? = some v) (hw : wantd ops e g = some true) (hd : Nat.blt d n = true)
    (k : WS lo A n ops rest ⟨upd e d v, D, L, h⟩ Q) : WS lo A n ops ({ dst := some d, op := .extract x j, type := ty, pos := ps, after := af, guard := g } :: rest) ⟨e, D, L, h⟩ Q :=
  WS_det (D_extract v hx hj hw) rfl hd k

/-! ### memory -/
/- A load out of an owned block, cells 'vs' at the place. -/
omit hA in
theorem D_loadB (j : Nat) {t : TypeId} {agg : Bool} {sz : Nat} [ht : TSize P t agg sz] {x : Operand} {b o : Nat} {cs r : List Value} {T : TypeId} (vs : List Value) (v : Value)
    (hx : ev e x = .pointer (some ⟨b, o, none⟩)) (hj : L[j]? = some (b, bx cs T)) (hc : cs.drop o = vs ++ r) (hl : Nat.beq vs.length sz = true) (h1 : (agg || Nat.beq sz 1) = true) (hv : ofCells agg vs = v) (hw : wantd ops e g = some true) : Det P lo ops { dst := some d, op := .load t x, type := ty, pos := ps, after := af, guard := g } ⟨e, D, L, h⟩ v :=
  Or.inr ⟨hw, fun ha H hle Q' R' hq => by
    subst hv
    simp only [execOp, hx, Instr.loadAt, Instr.sureAddr, wpL_bind', wpL_pure]
    exact wp_loadVar ht.eq (Nat.eq_of_beq_eq_true hl) (fun e => by subst e; simpa using h1) ((at_box ha.nodup hj hc).mono hle) hq⟩
theorem R_loadB (j : Nat) {t : TypeId} {agg : Bool} {sz : Nat} [ht : TSize P t agg sz] {x : Operand} {b o : Nat} {cs r : List Value} {T : TypeId} (vs : List Value) (v : Value)
    (hx : ev e x = .pointer (some ⟨b, o, none⟩)) (hj : L[j]? = some (b, bx cs T)) (hc : cs.drop o = vs ++ r) (hl : Nat.beq vs.length sz = true) (h1 : (agg || Nat.beq sz 1) = true) (hv : ofCells agg vs = v) (hw : wantd ops e g = some true) (hd : Nat.blt d n = true)
    (k : WS lo A n ops rest ⟨upd e d v, D, L, h⟩ Q) : WS lo A n ops ({ dst := some d, op := .load t x, type := ty, pos := ps, after := af, guard := g } :: rest) ⟨e, D, L, h⟩ Q :=
  WS_det (D_loadB j vs v hx hj hc hl h1 hv hw) rfl hd k

omit hA in
theorem D_load1 (j : Nat) {t : TypeId} {sz : Nat} [ht : TSize P t false sz] {x : Operand} {b o : Nat} {cs r : List Value} {T : TypeId} {v : Value}
    (hx : ev e x = .pointer (some ⟨b, o, none⟩)) (hj : L[j]? = some (b, bx cs T)) (hc : cs.drop o = v :: r) (h1 : Nat.beq sz 1 = true) (hw : wantd ops e g = some true) : Det P lo ops { dst := some d, op := .load t x, type := ty, pos := ps, after := af, guard := g } ⟨e, D, L, h⟩ v :=
  D_loadB j [v] v hx hj hc (by rw [Nat.beq_eq] at h1; subst h1; rfl) (by simpa using h1) rfl hw
theorem R_load1 (j : Nat) {t : TypeId} {sz : Nat} [ht : TSize P t false sz] {x : Operand} {b o : Nat} {cs r : List Value} {T : TypeId} {v : Value}
    (hx : ev e x = .pointer (some ⟨b, o, none⟩)) (hj : L[j]? = some (b, bx cs T)) (hc : cs.drop o = v :: r) (h1 : Nat.beq sz 1 = true) (hw : wantd ops e g = some true) (hd : Nat.blt d n = true)
    (k : WS lo A n ops rest ⟨upd e d v, D, L, h⟩ Q) : WS lo A n ops ({ dst := some d, op := .load t x, type := ty, pos := ps, after := af, guard := g } :: rest) ⟨e, D, L, h⟩ Q :=
  WS_det (D_load1 j hx hj hc h1 hw) rfl hd k
omit hA in
theorem D_loadA (j : Nat) {t : TypeId} {sz : Nat} [ht : TSize P t true sz] {x : Operand} {b o : Nat} {cs r : List Value} {T : TypeId} (vs : List Value)
    (hx : ev e x = .pointer (some ⟨b, o, none⟩)) (hj : L[j]? = some (b, bx cs T)) (hc : cs.drop o = vs ++ r) (hl : Nat.beq vs.length sz = true) (hw : wantd ops e g = some true) : Det P lo ops { dst := some d, op := .load t x, type := ty, pos := ps, after := af, guard := g } ⟨e, D, L, h⟩ (.agg vs.toArray) :=
  D_loadB j vs (.agg vs.toArray) hx hj hc hl rfl rfl hw
theorem R_loadA (j : Nat) {t : TypeId} {sz : Nat} [ht : TSize P t true sz] {x : Operand} {b o : Nat} {cs r : List Value} {T : TypeId} (vs : List Value)
    (hx : ev e x = .pointer (some ⟨b, o, none⟩)) (hj : L[j]? = some (b, bx cs T)) (hc : cs.drop o = vs ++ r) (hl : Nat.beq vs.length sz = true) (hw : wantd ops e g = some true) (hd : Nat.blt d n = true)
    (k : WS lo A n ops rest ⟨upd e d (.agg vs.toArray), D, L, h⟩ Q) : WS lo A n ops ({ dst := some d, op := .load t x, type := ty, pos := ps, after := af, guard := g } :: rest) ⟨e, D, L, h⟩ Q :=
  WS_det (D_loadA j vs hx hj hc hl hw) rfl hd k

omit hA in
/-- The list of values lies in the immutable heap. -/
theorem At.ov {b o : Nat} {vs : List Value} (hv : At h b o vs) (ha : Apart lo L h) : At (ov L h) b o vs := by
  intro i v hi
  have hc := hv i v hi
  unfold LH.cell? at hc ⊢
  simp only at hc ⊢
  rw [ov_out]
  · exact hc
  · intro hk
    rw [ha.out b hk] at hc
    cases hc
omit hA in
theorem D_loadH {t : TypeId} {agg : Bool} {sz : Nat} [ht : TSize P t agg sz] {x : Operand} {b o : Nat} (vs : List Value) (v : Value)
    (hx : ev e x = .pointer (some ⟨b, o, none⟩)) (hc : At h b o vs) (hl : Nat.beq vs.length sz = true) (h1 : (agg || Nat.beq sz 1) = true) (hv : ofCells agg vs = v) (hw : wantd ops e g = some true) : Det P lo ops { dst := some d, op := .load t x, type := ty, pos := ps, after := af, guard := g } ⟨e, D, L, h⟩ v :=
  Or.inr ⟨hw, fun ha H hle Q' R' hq => by
    subst hv
    simp only [execOp, hx, Instr.loadAt, Instr.sureAddr, wpL_bind', wpL_pure]
    exact wp_loadVar ht.eq (Nat.eq_of_beq_eq_true hl) (fun e => by subst e; simpa using h1) ((hc.ov ha).mono hle) hq⟩
theorem R_loadH {t : TypeId} {agg : Bool} {sz : Nat} [ht : TSize P t agg sz] {x : Operand} {b o : Nat} (vs : List Value) (v : Value)
    (hx : ev e x = .pointer (some ⟨b, o, none⟩)) (hc : At h b o vs) (hl : Nat.beq vs.length sz = true) (h1 : (agg || Nat.beq sz 1) = true) (hv : ofCells agg vs = v) (hw : wantd ops e g = some true) (hd : Nat.blt d n = true)
    (k : WS lo A n ops rest ⟨upd e d v, D, L, h⟩ Q) : WS lo A n ops ({ dst := some d, op := .load t x, type := ty, pos := ps, after := af, guard := g } :: rest) ⟨e, D, L, h⟩ Q :=
  WS_det (D_loadH vs v hx hc hl h1 hv hw) rfl hd k

/- A store into an owned block. -/
omit hA in
theorem X_store (j : Nat) {t : TypeId} {agg : Bool} {sz : Nat} [ht : TSize P t agg sz] {x y : Operand} {b o : Nat} {cs : List Value} {T : TypeId} (v : Value) (vs : List Value)
    (hx : ev e x = .pointer (some ⟨b, o, none⟩)) (hy : ev e y = v) (hvs : v.cells = vs.toArray) (hj : L[j]? = some (b, bx cs T)) (hl : Nat.beq vs.length sz = true) (hf : vs.all flat = true) (hle : Nat.ble (o + vs.length) cs.length = true) :
    Ex P lo A e L h { dst := none, op := .store t x y, type := ty, pos := ps, after := af, guard := g } (fun v L' h' => v = undef ∧ L' = L.set j (b, bx (splice cs o vs) T) ∧ h' = h) := fun ha => by
    subst hy
    simp only [execOp, hx, Instr.storeAt, Instr.sureAddr, wpL_bind', wpL_pure]
    refine wp_storeVar ht.eq hvs (Nat.eq_of_beq_eq_true hl) hf ha hj (Nat.le_of_ble_eq_true hle) ?_
    exact ⟨_, h, rfl, ha.set hj, rfl, rfl, rfl⟩
theorem R_store (j : Nat) {t : TypeId} {agg : Bool} {sz : Nat} [ht : TSize P t agg sz] {x y : Operand} {b o : Nat} {cs : List Value} {T : TypeId} (v : Value) (vs cs' : List Value) (L' : OL)
    (hx : ev e x = .pointer (some ⟨b, o, none⟩)) (hy : ev e y = v) (hvs : v.cells = vs.toArray) (hj : L[j]? = some (b, bx cs T)) (hl : Nat.beq vs.length sz = true) (hf : vs.all flat = true) (hle : Nat.ble (o + vs.length) cs.length = true)
    (hs : splice cs o vs = cs') (hL : L.set j (b, bx cs' T) = L') (hw : wantd ops e g = some true)
    (k : WS lo A n ops rest ⟨e, D, L', h⟩ Q) : WS lo A n ops ({ dst := none, op := .store t x y, type := ty, pos := ps, after := af, guard := g } :: rest) ⟨e, D, L, h⟩ Q :=
  WS_ex (X_store (A := A) j v vs hx hy hvs hj hl hf hle) hw rfl fun v L'' h' hk => by
    obtain ⟨rfl, rfl, rfl⟩ := hk
    subst hs hL
    exact k

omit hA in
theorem D_loadH1 {t : TypeId} {sz : Nat} [ht : TSize P t false sz] {x : Operand} {b o : Nat} {v : Value}
    (hx : ev e x = .pointer (some ⟨b, o, none⟩)) (hc : At h b o [v]) (h1 : Nat.beq sz 1 = true) (hw : wantd ops e g = some true) : Det P lo ops { dst := some d, op := .load t x, type := ty, pos := ps, after := af, guard := g } ⟨e, D, L, h⟩ v :=
  D_loadH [v] v hx hc (by rw [Nat.beq_eq] at h1; subst h1; rfl) (by simpa using h1) rfl hw
theorem R_loadH1 {t : TypeId} {sz : Nat} [ht : TSize P t false sz] {x : Operand} {b o : Nat} {v : Value}
    (hx : ev e x = .pointer (some ⟨b, o, none⟩)) (hc : At h b o [v]) (h1 : Nat.beq sz 1 = true) (hw : wantd ops e g = some true) (hd : Nat.blt d n = true)
    (k : WS lo A n ops rest ⟨upd e d v, D, L, h⟩ Q) : WS lo A n ops ({ dst := some d, op := .load t x, type := ty, pos := ps, after := af, guard := g } :: rest) ⟨e, D, L, h⟩ Q :=
  WS_det (D_loadH1 hx hc h1 hw) rfl hd k
omit hA in
theorem D_loadHA {t : TypeId} {sz : Nat} [ht : TSize P t true sz] {x : Operand} {b o : Nat} {vs : List Value}
    (hx : ev e x = .pointer (some ⟨b, o, none⟩)) (hc : At h b o vs) (hl : Nat.beq vs.length sz = true) (hw : wantd ops e g = some true) : Det P lo ops { dst := some d, op := .load t x, type := ty, pos := ps, after := af, guard := g } ⟨e, D, L, h⟩ (.agg vs.toArray) :=
  D_loadH vs (.agg vs.toArray) hx hc hl rfl rfl hw
theorem R_loadHA {t : TypeId} {sz : Nat} [ht : TSize P t true sz] {x : Operand} {b o : Nat} {vs : List Value}
    (hx : ev e x = .pointer (some ⟨b, o, none⟩)) (hc : At h b o vs) (hl : Nat.beq vs.length sz = true) (hw : wantd ops e g = some true) (hd : Nat.blt d n = true)
    (k : WS lo A n ops rest ⟨upd e d (.agg vs.toArray), D, L, h⟩ Q) : WS lo A n ops ({ dst := some d, op := .load t x, type := ty, pos := ps, after := af, guard := g } :: rest) ⟨e, D, L, h⟩ Q :=
  WS_det (D_loadHA hx hc hl hw) rfl hd k

omit hA in
theorem X_alloc {t : TypeId} {zs : List Value} [ht : TZero P t zs] : Ex P lo A e L h { dst := some d, op := .alloc t, type := ty, pos := ps, after := af, guard := g } (fun v L' h' => ∃ b, ov L h b = none ∧ v = .pointer (some ⟨b, 0, none⟩) ∧ L' = (b, bx zs t) :: L ∧ h' = h) := fun ha => by
    obtain ⟨z, hz, hw⟩ := wp_zero (P := P) (lo := lo) ht.eq
    simp only [execOp, Instr.alloc, wpL_bind', hw, newVar, hz]
    exact wp_newRow' ha fun r hr ha => ⟨_, h, rfl, ha, r, hr, rfl, rfl, rfl⟩
theorem R_alloc {t : TypeId} {zs : List Value} [ht : TZero P t zs] (hw : wantd ops e g = some true) (hd : Nat.blt d n = true)
    (k : ∀ b, WS lo A n ops rest ⟨upd e d (.pointer (some ⟨b, 0, none⟩)), D, (b, bx zs t) :: L, h⟩ Q) : WS lo A n ops ({ dst := some d, op := .alloc t, type := ty, pos := ps, after := af, guard := g } :: rest) ⟨e, D, L, h⟩ Q :=
  WS_ex (X_alloc (A := A)) hw hd fun v L'' h' hk => by
    obtain ⟨b, _, rfl, rfl, rfl⟩ := hk
    exact k b
omit hA in
theorem X_box {t : TypeId} {x : Operand} (v : Value) (vs : List Value) (hx : ev e x = v) (hv : v.cells = vs.toArray) : Ex P lo A e L h { dst := some d, op := .box t x, type := ty, pos := ps, after := af, guard := g } (fun v L' h' => ∃ b, ov L h b = none ∧ v = .pointer (some ⟨b, 0, none⟩) ∧ L' = (b, bx vs t) :: L ∧ h' = h) := fun ha => by
    simp only [execOp, Instr.box, hx, wpL_bind', newVar, hv]
    exact wp_newRow' ha fun r hr ha => ⟨_, h, rfl, ha, r, hr, rfl, rfl, rfl⟩
theorem R_box {t : TypeId} {x : Operand} (v : Value) (vs : List Value) (hx : ev e x = v) (hv : v.cells = vs.toArray) (hw : wantd ops e g = some true) (hd : Nat.blt d n = true)
    (k : ∀ b, WS lo A n ops rest ⟨upd e d (.pointer (some ⟨b, 0, none⟩)), D, (b, bx vs t) :: L, h⟩ Q) : WS lo A n ops ({ dst := some d, op := .box t x, type := ty, pos := ps, after := af, guard := g } :: rest) ⟨e, D, L, h⟩ Q :=
  WS_ex (X_box (A := A) v vs hx hv) hw hd fun v L'' h' hk => by
    obtain ⟨b, _, rfl, rfl, rfl⟩ := hk
    exact k b

omit hA in
theorem wp_places : ∀ (fs : List Field) (pl : List (Nat × Nat)), (fs.mapM fun f => (P.info? f.type).map fun i => (f.offset, i.size)) = some pl → ∀ {H : LH} {Q' : List (Nat × Nat) → LH → Prop} {R' : Value → LH → Prop},
    wpL P lo (fs.mapM fun f => do pure (f.offset, ← sizeOf f.type)) H Q' R' = Q' pl H := by
  intro fs
  induction fs with
  | nil => intro pl hp H Q' R'; simp at hp; subst hp; simp [wpL_pure]
  | cons f fs ih =>
    intro pl hp H Q' R'
    simp only [List.mapM_cons, Option.bind_eq_bind, Option.bind_eq_some_iff, Option.map_eq_some_iff, Option.pure_def, Option.some.injEq] at hp
    obtain ⟨_, ⟨i, hi, rfl⟩, pl', hpl, rfl⟩ := hp
    have hs : ∀ {H : LH} {Q : Nat → LH → Prop} {R : Value → LH → Prop}, wpL P lo (sizeOf f.type) H Q R = Q i.size H := by
      intro H Q R; unfold sizeOf; rw [wpL_bind', wp_typeInfo hi]; rfl
    simp only [List.mapM_cons, wpL_bind', hs, wpL_pure, ih pl' hpl]

omit hA in
theorem D_build {t : TypeId} {pl : List (Nat × Nat)} {zs : List Value} [ht : TStr P t pl zs] {parts : List (Nat × Operand)} (cs : List Value) (hp : fillL (pl[·]?) zs (evp e parts) = some cs) (hw : wantd ops e g = some true) : Det P lo ops { dst := some d, op := .build t parts.toArray, type := ty, pos := ps, after := af, guard := g } ⟨e, D, L, h⟩ (.agg cs.toArray) :=
  Or.inr ⟨hw, fun _ H hle Q' R' hq => by
    obtain ⟨z, hz, hzw⟩ := wp_zero (P := P) (lo := lo) ht.zero
    have hpl := ht.eq
    unfold placesOf at hpl
    split at hpl <;> first | (cases hpl; done) | skip
    rename_i fs hu
    simp only [execOp, Instr.build, wpL_bind', hzw, wp_underlying hu, Array.mapM_eq_mapM_toList, wpL_map, wp_places _ _ hpl]
    have e1 : (Array.map (fun x => match x with | (i, x) => (i, ev e x)) parts.toArray).toList = evp e parts := by rw [← evp_map]; simp
    have e2 : Instr.fill (fun x => pl.toArray[x]?) z.cells (Array.map (fun x => match x with | (i, x) => (i, ev e x)) parts.toArray).toList = some cs.toArray := by
      rw [e1, hz]
      have := fill_list _ _ _ _ hp
      simpa using this
    simp only [e2, wpL_pure]
    exact hq⟩
theorem R_build {t : TypeId} {pl : List (Nat × Nat)} {zs : List Value} [ht : TStr P t pl zs] {parts : List (Nat × Operand)} (cs : List Value) (hp : fillL (pl[·]?) zs (evp e parts) = some cs) (hw : wantd ops e g = some true) (hd : Nat.blt d n = true)
    (k : WS lo A n ops rest ⟨upd e d (.agg cs.toArray), D, L, h⟩ Q) : WS lo A n ops ({ dst := some d, op := .build t parts.toArray, type := ty, pos := ps, after := af, guard := g } :: rest) ⟨e, D, L, h⟩ Q :=
  WS_det (D_build cs hp hw) rfl hd k

omit hA in
theorem X_buildSlice {t el sz by' len : Nat} [ht : TEl P t el sz by'] {zs : List Value} [hz : TZero P el zs] {parts : List (Nat × Operand)} (cs : List Value) (hlen : Nat.ble (len * sz) 16777216 = true)
    (hp : fillL (fun i => some (i * sz, sz)) (List.flatten (List.replicate len zs)) (evp e parts) = some cs) (hzl : Nat.beq zs.length sz = true) (hs1 : Nat.blt 0 sz = true) : Ex P lo A e L h { dst := some d, op := .buildSlice t len parts.toArray, type := ty, pos := ps, after := af, guard := g } (fun v L' h' => ∃ b, ov L h b = none ∧ v = .slice (some ⟨b, 0, none⟩) len len ∧ L' = (b, bx cs el) :: L ∧ h' = h) := fun hap => by
    obtain ⟨hu, inf, hinf, hsz, _⟩ := el_parts ht.eq
    have hs : ∀ {H : LH} {Q : Nat → LH → Prop} {R : Value → LH → Prop}, wpL P lo (sizeOf el) H Q R = Q sz H := by
      intro H Q R; unfold sizeOf; rw [wpL_bind', wp_typeInfo hinf]; rw [← hsz]; rfl
    obtain ⟨z, hzc, hzw⟩ := wp_zero (P := P) (lo := lo) hz.eq
    rw [Nat.ble_eq] at hlen
    rw [Nat.beq_eq] at hzl
    rw [Nat.blt_eq] at hs1
    simp only [execOp, Instr.buildSlice, wpL_bind', wp_underlying hu, hs, if_neg (show ¬ len * sz > 2 ^ 24 by omega), wpL_pure]
    have e1 : (Array.map (fun x => match x with | (i, x) => (i, ev e x)) parts.toArray).toList = evp e parts := by rw [← evp_map]; simp
    have e3 : ∀ zero : Array Value, (len * sz ≠ 0 → zero = zs.toArray) → (Array.range (len * sz)).map (zero[· % zero.size]!) = (List.flatten (List.replicate len zs)).toArray := by
      intro zero hzero
      apply Array.ext_getElem?
      intro i
      by_cases hi : i < len * sz
      · have hzz := hzero (by omega)
        subst hzz
        have hmod : i % sz < zs.length := by rw [hzl]; exact Nat.mod_lt _ hs1
        have hfl : (List.flatten (List.replicate len zs))[i]? = zs[i % sz]? := by
          clear hp e1 hlen hzero
          induction len generalizing i with
          | zero => simp at hi
          | succ len ih =>
            simp only [List.replicate_succ, List.flatten_cons]
            by_cases h1 : i < sz
            · rw [List.getElem?_append_left (by omega), Nat.mod_eq_of_lt h1]
            · rw [List.getElem?_append_right (by omega), hzl]
              have := ih (i - sz) (by rw [Nat.succ_mul] at hi; omega) (by rw [hzl]; exact Nat.mod_lt _ hs1)
              rw [this, ← Nat.mod_eq_sub_mod (by omega)]
        simp only [List.getElem?_toArray, hfl]
        simp [hi, hzl, List.getElem?_eq_getElem hmod]
      · have : (List.flatten (List.replicate len zs)).length = len * sz := by simp [hzl]
        have hi' : len * sz ≤ i := by omega
        rw [Array.getElem?_eq_none (by simpa using hi'), Array.getElem?_eq_none (by simpa [hzl] using hi')]
    have fin : ∀ zero : Array Value, (len * sz ≠ 0 → zero = zs.toArray) → wpL P lo (match Instr.fill (fun i => some (i * sz, sz)) ((Array.range (len * sz)).map (zero[· % zero.size]!)) (Array.map (fun x => match x with | (i, x) => (i, ev e x)) parts.toArray).toList with
        | some cells => (do pure (Value.slice (some (← newRow el cells)) len len) : Sem Value)
        | x => stuck "buildSlice: a part of the wrong size") (ov L h) (fun a h' => BehX P lo A (fun v L' h' => ∃ b, ov L h b = none ∧ v = .slice (some ⟨b, 0, none⟩) len len ∧ L' = (b, bx cs el) :: L ∧ h' = h) (Next.value a) h') (fun _ _ => False) := by
      intro zero hzero
      rw [e3 zero hzero, e1, fill_list _ _ _ _ hp]
      simp only [wpL_bind', wpL_pure]
      exact wp_newRow' hap fun r hr ha => ⟨_, h, rfl, ha, r, hr, rfl, rfl, rfl⟩
    by_cases h0 : len * sz = 0
    · rw [if_pos h0, wpL_bind', wpL_pure]
      exact fin #[] (fun x => absurd h0 x)
    · rw [if_neg h0, wpL_bind', hzw, wpL_bind', wpL_pure]
      exact fin z.cells (fun _ => hzc)
theorem R_buildSlice {t el sz by' len : Nat} [ht : TEl P t el sz by'] {zs : List Value} [hz : TZero P el zs] {parts : List (Nat × Operand)} (cs : List Value) (hlen : Nat.ble (len * sz) 16777216 = true)
    (hp : fillL (fun i => some (i * sz, sz)) (List.flatten (List.replicate len zs)) (evp e parts) = some cs) (hzl : Nat.beq zs.length sz = true) (hs1 : Nat.blt 0 sz = true) (hw : wantd ops e g = some true) (hd : Nat.blt d n = true)
    (k : ∀ b, WS lo A n ops rest ⟨upd e d (.slice (some ⟨b, 0, none⟩) len len), D, (b, bx cs el) :: L, h⟩ Q) : WS lo A n ops ({ dst := some d, op := .buildSlice t len parts.toArray, type := ty, pos := ps, after := af, guard := g } :: rest) ⟨e, D, L, h⟩ Q :=
  WS_ex (X_buildSlice (A := A) cs hlen hp hzl hs1) hw hd fun v L'' h' hk => by
    obtain ⟨b, _, rfl, rfl, rfl⟩ := hk
    exact k b

/-! ### calls -/
omit hA in
theorem fun_parts {f : FuncId} (hf : fnOf P f = true) : ∃ fn, P.funcs[f]? = some fn ∧ (fn.name == "runtime.NumGoroutine") = false ∧ fn.body.isNone = false := by
  unfold fnOf at hf
  split at hf
  · rename_i fn hfn
    simp only [Bool.and_eq_true, Bool.not_eq_true'] at hf
    refine ⟨fn, hfn, hf.1, ?_⟩
    cases hb : fn.body with
    | none => rw [hb] at hf; simp at hf
    | some c => rfl
  · cases hf
omit hA in
theorem wp_callFunc {f : FuncId} (hf : fnOf P f = true) {args : Array Value} {H : LH} {Q' : Next → LH → Prop} {R' : Value → LH → Prop} (hq : Q' (.enter f args) H) : wpL P lo (callFunc f args) H Q' R' := by
  obtain ⟨fn, h1, h2, h3⟩ := fun_parts hf
  unfold callFunc
  simp only [program, wpL_bind', wpL, h1, h2, h3, Bool.false_eq_true, if_false, wpL_pure]
  exact hq
omit hA in
theorem evs_map (e : Env) (l : List Operand) : l.map (ev e) = evs e l := by
  induction l with
  | nil => rfl
  | cons x l ih => simp only [List.map_cons, ih, evs]

/-- A call by its contract; the owned blocks are the caller's own. -/
theorem X_call {dd : Option Nat} {f : FuncId} [hf : TFun P f] {fo : Operand} {as : List Operand} {ats : Array TypeId} {first cap args : List Value} {K : Value → LH → Prop} (c : Fn P A f args.toArray h K) (hfo : ev e fo = .func (.func f) first.toArray cap.toArray) (ha : first ++ evs e as ++ cap = args) :
    Ex P lo A e L h { dst := dd, op := .call { callee := .value fo, args := as.toArray, argTypes := ats }, type := ty, pos := ps, after := af, guard := g } (fun v L' h' => L' = L ∧ K v h') := fun hap => by
    simp only [execOp, resolve, hfo, Deferred.ofValue, wpL_bind', wpL_pure, invoke]
    refine wp_callFunc hf.eq ?_
    have e1 : (first.toArray ++ Array.map (ev e) as.toArray ++ cap.toArray : Array Value) = args.toArray := by
      rw [← ha, ← evs_map]; simp
    rw [e1]
    simp only [BehX]
    refine (FnE.frame hap c).mono fun r H hr => ?_
    obtain ⟨h', rfl, ha', hr⟩ := hr
    cases r with
    | returned v => exact ⟨L, h', rfl, ha', rfl, hr⟩
    | panicked ch => exact hr.elim
theorem R_call {f : FuncId} [hf : TFun P f] {fo : Operand} {as : List Operand} {ats : Array TypeId} {first cap args : List Value} {K : Value → LH → Prop} (c : Fn P A f args.toArray h K) (hfo : ev e fo = .func (.func f) first.toArray cap.toArray) (ha : first ++ evs e as ++ cap = args)
    (hw : wantd ops e g = some true) (hd : Nat.blt d n = true)
    (k : ∀ v h', K v h' → WS lo A n ops rest ⟨upd e d v, D, L, h'⟩ Q) : WS lo A n ops ({ dst := some d, op := .call { callee := .value fo, args := as.toArray, argTypes := ats }, type := ty, pos := ps, after := af, guard := g } :: rest) ⟨e, D, L, h⟩ Q :=
  WS_ex (X_call c hfo ha) hw hd fun v L'' h' hk => by
    obtain ⟨rfl, hk⟩ := hk
    exact k v h' hk
theorem R_call0 {f : FuncId} [hf : TFun P f] {fo : Operand} {as : List Operand} {ats : Array TypeId} {first cap args : List Value} {K : Value → LH → Prop} (c : Fn P A f args.toArray h K) (hfo : ev e fo = .func (.func f) first.toArray cap.toArray) (ha : first ++ evs e as ++ cap = args)
    (hw : wantd ops e g = some true)
    (k : ∀ v h', K v h' → WS lo A n ops rest ⟨e, D, L, h'⟩ Q) : WS lo A n ops ({ dst := none, op := .call { callee := .value fo, args := as.toArray, argTypes := ats }, type := ty, pos := ps, after := af, guard := g } :: rest) ⟨e, D, L, h⟩ Q :=
  WS_ex (X_call c hfo ha) hw rfl fun v L'' h' hk => by
    obtain ⟨rfl, hk⟩ := hk
    exact k v h' hk

omit hA in
theorem D_len {t el sz by' : Nat} [ht : TEl P t el sz by'] {x : Operand} {p : Option Addr} {len cap : Nat} (hx : ev e x = .slice p len cap) (hw : wantd ops e g = some true) : Det P lo ops { dst := some d, op := .call { callee := .builtin .len, args := [x].toArray, argTypes := [t].toArray }, type := ty, pos := ps, after := af, guard := g } ⟨e, D, L, h⟩ (.int .i64 len) :=
  Or.inr ⟨hw, fun _ H hle Q' R' hq => by
    obtain ⟨hu, _⟩ := el_parts ht.eq
    simp only [execOp, resolve, wpL_bind', wpL_pure, invoke, builtin, Builtin.len_]
    simp [hx, wpL_bind', wp_underlying hu, wpL_pure, goInt]
    exact hq⟩
theorem R_len {t el sz by' : Nat} [ht : TEl P t el sz by'] {x : Operand} {p : Option Addr} {len cap : Nat} (hx : ev e x = .slice p len cap) (hw : wantd ops e g = some true) (hd : Nat.blt d n = true)
    (k : WS lo A n ops rest ⟨upd e d (.int .i64 len), D, L, h⟩ Q) : WS lo A n ops ({ dst := some d, op := .call { callee := .builtin .len, args := [x].toArray, argTypes := [t].toArray }, type := ty, pos := ps, after := af, guard := g } :: rest) ⟨e, D, L, h⟩ Q :=
  WS_det (D_len hx hw) rfl hd k

/-! ### the ends of regions, blocks, functions -/
theorem WS_then {y : Code} {s : St} {Q : Out → St → Prop} (k : W lo A n y s Q) : WS lo A n ops [] s (ThenS (fun s => W lo A n y s Q) Q) := WS_nil k
theorem WS_end {s : St} {next : St → Prop} {Q : Out → St → Prop} (k : next s) : WS lo A n ops [] s (ThenS next Q) := WS_nil k
omit hA in
theorem then_normal {s : St} {next : St → Prop} {Q : Out → St → Prop} (k : next s) : ThenS next Q .normal s := k
omit hA in
theorem then_ret {s : St} {next : St → Prop} {Q : Out → St → Prop} (k : Q .ret s) : ThenS next Q .ret s := k
omit hA in
theorem then_exit {s : St} {i : Nat} {next : St → Prop} {Q : Out → St → Prop} (k : Q (.exit i) s) : ThenS next Q (.exit i) s := k
omit hA in
theorem block_ret {s : St} {i : Nat} {Q : Out → St → Prop} (k : Q .ret s) : InBlockS i Q .ret s := k
omit hA in
theorem block_normal {s : St} {i : Nat} {Q : Out → St → Prop} (k : Q .normal s) : InBlockS i Q .normal s := k
omit hA in
theorem block_hit {s : St} {i : Nat} {Q : Out → St → Prop} (k : Q .normal s) : InBlockS i Q (.exit i) s := by simp only [InBlockS, if_true]; exact k
omit hA in
theorem block_miss {s : St} {i j : Nat} {Q : Out → St → Prop} (hij : Nat.beq j i = false) (k : Q (.exit j) s) : InBlockS i Q (.exit j) s := by
  have : j ≠ i := fun e => by subst e; simp at hij
  simp only [InBlockS, if_neg this]; exact k

omit hA in
theorem end_ret1 {fn : Func} {t : Nat} {K : Value → LH → Prop} (hr : fn.results = [ResultVar.tmp t].toArray) (k : Apart lo L h → ∃ h', LE h' (ov L h) ∧ K (e t) h') : EndS P lo fn n (retOnly K) .ret ⟨e, [], L, h⟩ := by
  intro ok
  refine ⟨rfl, ?_⟩
  unfold results
  rw [hr]
  have := get_mkA (n := n) ⟨e, [], L, h⟩ t ok.undef
  simp only [List.mapM_toArray, List.mapM_cons, List.mapM_nil, wpL_bind', wpL_pure, wpL_map, pure_bind, map_pure, this]
  exact k ok.apart
omit hA in
theorem end_norm0 {fn : Func} {K : Value → LH → Prop} (hr : fn.results = #[]) (k : Apart lo L h → ∃ h', LE h' (ov L h) ∧ K (.tuple #[]) h') : EndS P lo fn n (retOnly K) .normal ⟨e, [], L, h⟩ := by
  intro ok
  refine ⟨rfl, ?_⟩
  unfold results
  rw [hr]
  simp only [List.mapM_toArray, List.mapM_nil, wpL_bind', wpL_pure, wpL_map, pure_bind, map_pure]
  exact k ok.apart
omit hA in
theorem end_ret0 {fn : Func} {K : Value → LH → Prop} (hr : fn.results = #[]) (k : Apart lo L h → ∃ h', LE h' (ov L h) ∧ K (.tuple #[]) h') : EndS P lo fn n (retOnly K) .ret ⟨e, [], L, h⟩ := end_norm0 (e := e) (P := P) hr k
omit hA in
theorem end_ret2 {fn : Func} {t u : Nat} {K : Value → LH → Prop} (hr : fn.results = [ResultVar.tmp t, ResultVar.tmp u].toArray) (k : Apart lo L h → ∃ h', LE h' (ov L h) ∧ K (.tuple [e t, e u].toArray) h') : EndS P lo fn n (retOnly K) .ret ⟨e, [], L, h⟩ := by
  intro ok
  refine ⟨rfl, ?_⟩
  unfold results
  rw [hr]
  have h1 := get_mkA (n := n) ⟨e, [], L, h⟩ t ok.undef
  have h2 := get_mkA (n := n) ⟨e, [], L, h⟩ u ok.undef
  simp only [List.mapM_toArray, List.mapM_cons, List.mapM_nil, wpL_bind', wpL_pure, wpL_map, pure_bind, map_pure, h1, h2]
  exact k ok.apart

omit hA in
theorem LE.ov (ha : Apart lo L h) : LE h (ov L h) := fun b o hb => by
  rw [ov_out]
  · exact hb
  · intro hk; rw [ha.out b hk] at hb; cases hb
theorem Fn_body {f : FuncId} {fn : Func} {c : Code} {args : List Value} {h : LH} {K : Value → LH → Prop} (hf : P.funcs[f]? = some fn) (hc : fn.body = some c) (hn : fn.ntmps = n) (hl : Nat.ble args.length n = true)
    (x : W lo A n c ⟨argE args, [], [], h⟩ (EndS P lo fn n (retOnly K))) : Fn P A f args.toArray h K := FnE_body hf hn hl hc x

/-! ### contracts that take owned blocks and hand some back -/
def OwnP (lo : Nat → Prop) (K : Value → OL → LH → Prop) : Value → LH → Prop := fun v H => ∃ L h, H = ov L h ∧ Apart lo L h ∧ K v L h
def FnO (P : Program) (lo : Nat → Prop) (A : (Goroutine → LH → Prop) → Prop) (f : FuncId) (args : List Value) (L : OL) (h : LH) (K : Value → OL → LH → Prop) : Prop :=
  Apart lo L h → Fn P A f args.toArray (ov L h) (OwnP lo K)
theorem FnO_body {f : FuncId} {fn : Func} {c : Code} {args : List Value} {L : OL} {h : LH} {K : Value → OL → LH → Prop} (hf : P.funcs[f]? = some fn) (hc : fn.body = some c) (hn : fn.ntmps = n) (hl : Nat.ble args.length n = true)
    (x : W lo A n c ⟨argE args, [], L, h⟩ (EndS P lo fn n (retOnly (OwnP lo K)))) : FnO P lo A f args L h K := fun ha => FnE_bodyL ha hf hn hl hc x
omit hA in
theorem LE.ov2 {L₁ L₂ : OL} (ha : Apart lo (L₁ ++ L₂) h) : LE (Go.Lu.ov L₁ h) (Go.Lu.ov (L₁ ++ L₂) h) := by
  rw [ov_append]
  exact LE_ov (LE.ov ha.right)
omit hA in
/- At the end: some of the owned blocks are handed back (L₁), some are left as data (L₂), the others are dropped (L₃). -/
theorem own_end {K : Value → OL → LH → Prop} {v : Value} (L₁ L₂ L₃ : OL) (hp : L.Perm (L₁ ++ (L₂ ++ L₃))) (ha : Apart lo L h) (k : Apart lo L₁ (ov L₂ h) → LE h (ov L₂ h) → K v L₁ (ov L₂ h)) : ∃ h', LE h' (ov L h) ∧ OwnP lo K v h' := by
  have ha' := ha.perm hp
  have hb : Apart lo (L₁ ++ L₂) h := by rw [← List.append_assoc] at ha'; exact (ha'.perm List.perm_append_comm).right
  refine ⟨ov (L₁ ++ L₂) h, ?_, L₁, ov L₂ h, ov_append _ _ _, hb.left, k hb.left (LE.ov hb.right)⟩
  rw [ov_perm hp h ha.nodup, ← List.append_assoc]
  exact LE.ov2 (by rw [List.append_assoc]; exact ha')
omit hA in
/- .. of a function that takes no owned blocks. -/
theorem fn_end {K : Value → LH → Prop} {v : Value} (L₂ L₃ : OL) (hp : L.Perm (L₂ ++ L₃)) (ha : Apart lo L h) (k : LE h (ov L₂ h) → K v (ov L₂ h)) : ∃ h', LE h' (ov L h) ∧ K v h' := by
  have ha' := ha.perm hp
  refine ⟨ov L₂ h, ?_, k (LE.ov (ha'.perm List.perm_append_comm).right)⟩
  rw [ov_perm hp h ha.nodup]
  exact LE.ov2 ha'
omit hA in
/- .. nothing is handed back in memory. -/
theorem fn_end0 {K : Value → LH → Prop} {v : Value} (ha : Apart lo L h) (k : K v h) : ∃ h', LE h' (ov L h) ∧ K v h' := ⟨h, LE.ov ha, k⟩

omit hA in
theorem end1 {fn : Func} {t : Nat} {K : Value → LH → Prop} (hr : fn.results = [ResultVar.tmp t].toArray) (k : K (e t) h) : EndS P lo fn n (retOnly K) .ret ⟨e, [], L, h⟩ :=
  end_ret1 hr fun ha => fn_end0 (K := K) (v := e t) ha k
omit hA in
theorem end2 {fn : Func} {t u : Nat} {K : Value → LH → Prop} (hr : fn.results = [ResultVar.tmp t, ResultVar.tmp u].toArray) (k : K (.tuple [e t, e u].toArray) h) : EndS P lo fn n (retOnly K) .ret ⟨e, [], L, h⟩ :=
  end_ret2 hr fun ha => fn_end0 (K := K) (v := .tuple [e t, e u].toArray) ha k
omit hA in
theorem endN {fn : Func} {K : Value → LH → Prop} (hr : fn.results = #[]) (k : K (.tuple #[]) h) : EndS P lo fn n (retOnly K) .normal ⟨e, [], L, h⟩ :=
  end_norm0 hr fun ha => fn_end0 (K := K) (v := .tuple #[]) ha k
omit hA in
theorem end1D {fn : Func} {t : Nat} {K : Value → LH → Prop} (L₂ L₃ : OL) (hp : L.Perm (L₂ ++ L₃)) (hr : fn.results = [ResultVar.tmp t].toArray) (k : Apart lo L₂ h → LE h (Go.Lu.ov L₂ h) → K (e t) (Go.Lu.ov L₂ h)) : EndS P lo fn n (retOnly K) .ret ⟨e, [], L, h⟩ :=
  end_ret1 hr fun ha => fn_end (K := K) (v := e t) L₂ L₃ hp ha (k ((ha.perm hp).perm List.perm_append_comm).right)
omit hA in
theorem end1O {fn : Func} {t : Nat} {K : Value → OL → LH → Prop} (L₁ L₂ L₃ : OL) (hp : L.Perm (L₁ ++ (L₂ ++ L₃))) (hr : fn.results = [ResultVar.tmp t].toArray) (k : Apart lo L₁ (Go.Lu.ov L₂ h) → LE h (Go.Lu.ov L₂ h) → K (e t) L₁ (Go.Lu.ov L₂ h)) : EndS P lo fn n (retOnly (OwnP lo K)) .ret ⟨e, [], L, h⟩ :=
  end_ret1 hr fun ha => own_end L₁ L₂ L₃ hp ha k
omit hA in
theorem end2O {fn : Func} {t u : Nat} {K : Value → OL → LH → Prop} (L₁ L₂ L₃ : OL) (hp : L.Perm (L₁ ++ (L₂ ++ L₃))) (hr : fn.results = [ResultVar.tmp t, ResultVar.tmp u].toArray) (k : Apart lo L₁ (Go.Lu.ov L₂ h) → LE h (Go.Lu.ov L₂ h) → K (.tuple [e t, e u].toArray) L₁ (Go.Lu.ov L₂ h)) : EndS P lo fn n (retOnly (OwnP lo K)) .ret ⟨e, [], L, h⟩ :=
  end_ret2 hr fun ha => own_end L₁ L₂ L₃ hp ha k
omit hA in
theorem endNO {fn : Func} {K : Value → OL → LH → Prop} (L₁ L₂ L₃ : OL) (hp : L.Perm (L₁ ++ (L₂ ++ L₃))) (hr : fn.results = #[]) (k : Apart lo L₁ (Go.Lu.ov L₂ h) → LE h (Go.Lu.ov L₂ h) → K (.tuple #[]) L₁ (Go.Lu.ov L₂ h)) : EndS P lo fn n (retOnly (OwnP lo K)) .normal ⟨e, [], L, h⟩ :=
  end_norm0 hr fun ha => own_end L₁ L₂ L₃ hp ha k

/-- A call by its contract, some owned blocks handed on and some handed back. -/
theorem X_callO (L₁ L₂ : OL) {dd : Option Nat} {f : FuncId} [hf : TFun P f] {fo : Operand} {as : List Operand} {ats : Array TypeId} {first cap args : List Value} {K : Value → OL → LH → Prop} (c : FnO P lo A f args L₁ h K) (hp : L.Perm (L₁ ++ L₂)) (hfo : ev e fo = .func (.func f) first.toArray cap.toArray) (ha : first ++ evs e as ++ cap = args) :
    Ex P lo A e L h { dst := dd, op := .call { callee := .value fo, args := as.toArray, argTypes := ats }, type := ty, pos := ps, after := af, guard := g } (fun v L' h' => ∃ L₃, L' = L₃ ++ L₂ ∧ K v L₃ h') := fun hap0 => by
    have hap := hap0.perm hp
    have hov : ov L h = ov L₂ (ov L₁ h) := by
      rw [ov_perm hp h hap0.nodup, ov_append]
      exact ov_comm hap
    simp only [execOp, resolve, hfo, Deferred.ofValue, wpL_bind', wpL_pure, invoke]
    refine wp_callFunc hf.eq ?_
    have e1 : (first.toArray ++ Array.map (ev e) as.toArray ++ cap.toArray : Array Value) = args.toArray := by
      rw [← ha, ← evs_map]; simp
    rw [e1]
    simp only [BehX]
    rw [hov]
    have hap1 : Apart lo L₁ h := (hap.perm List.perm_append_comm).right
    have hap2 : Apart lo L₂ (ov L₁ h) := (hap.perm List.perm_append_comm).left
    refine (FnE.frame hap2 (c hap1)).mono fun r H hr => ?_
    obtain ⟨H', rfl, ha', hr⟩ := hr
    cases r with
    | returned v =>
      obtain ⟨L', h', rfl, hb, hk⟩ := hr
      have hj := hb.join ha'
      exact ⟨L' ++ L₂, h', by rw [ov_append, ov_comm hj], hj, L', rfl, hk⟩
    | panicked ch => exact hr.elim
theorem R_callO (L₁ L₂ : OL) {f : FuncId} [hf : TFun P f] {fo : Operand} {as : List Operand} {ats : Array TypeId} {first cap args : List Value} {K : Value → OL → LH → Prop} (c : FnO P lo A f args L₁ h K) (hp : L.Perm (L₁ ++ L₂)) (hfo : ev e fo = .func (.func f) first.toArray cap.toArray) (ha : first ++ evs e as ++ cap = args)
    (hw : wantd ops e g = some true) (hd : Nat.blt d n = true)
    (k : ∀ v L' h', K v L' h' → WS lo A n ops rest ⟨upd e d v, D, L' ++ L₂, h'⟩ Q) : WS lo A n ops ({ dst := some d, op := .call { callee := .value fo, args := as.toArray, argTypes := ats }, type := ty, pos := ps, after := af, guard := g } :: rest) ⟨e, D, L, h⟩ Q :=
  WS_ex (X_callO L₁ L₂ c hp hfo ha) hw hd fun v L'' h' hk => by
    obtain ⟨L₃, rfl, hk⟩ := hk
    exact k v L₃ h' hk
end
end Go.Lu
