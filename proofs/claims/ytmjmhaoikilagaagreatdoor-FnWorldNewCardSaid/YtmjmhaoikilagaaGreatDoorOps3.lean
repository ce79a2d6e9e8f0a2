/-
  More rules: make of slices, slices of slices, results by value of any shape, append of a fresh slice.
-/
import Derived.Test.YtmjmhaoikilagaaGreatDoorLoops
set_option linter.unusedVariables false
set_option linter.unusedSimpArgs false
set_option linter.unusedSectionVars false
namespace Go.Lu

section
variable {P : Program} {main : Bool} {lo : Nat → Prop} {A : (Goroutine → LH → Prop) → Prop} {n : Nat}
variable {ops : Array Oper} {rest : List Oper} {e : Env} {D : List Deferred} {L : OL} {h : LH} {Q : Out → St → Prop}
variable {d : Nat} {ty : TypeId} {ps : String} {af : Array Edge} {g : Option (Nat × Bool)}

theorem zeros_eq {zs : List Value} {sz len : Nat} (hzl : zs.length = sz) (hs1 : 0 < sz) (zero : Array Value) (hz : len * sz ≠ 0 → zero = zs.toArray) :
    (Array.range (len * sz)).map (zero[· % zero.size]!) = (List.flatten (List.replicate len zs)).toArray := by
  apply Array.ext_getElem?
  intro i
  by_cases hi : i < len * sz
  · have hzz := hz (by omega)
    subst hzz
    have hmod : i % sz < zs.length := by rw [hzl]; exact Nat.mod_lt _ hs1
    have hfl : (List.flatten (List.replicate len zs))[i]? = zs[i % sz]? := by
      clear hz
      induction len generalizing i with
      | zero => simp at hi
      | succ len ih =>
        simp only [List.replicate_succ, List.flatten_cons]
        by_cases h1 : i < sz
        · rw [List.getElem?_append_left (by omega), Nat.mod_eq_of_lt h1]
        · rw [List.getElem?_append_right (by omega), hzl]
          have := ih (i - sz) (by rw [Nat.succ_mul] at hi; omega) (by rw [hzl]; exact Nat.mod_lt _ hs1)
          rw [this, ← Nat.mod_eq_sub_mod (by omega)]
    simp only [List.getElem?_toArray, hfl]
    simp [hi, hzl, List.getElem?_eq_getElem hmod]
  · have : (List.flatten (List.replicate len zs)).length = len * sz := by simp [hzl]
    have hi' : len * sz ≤ i := by omega
    rw [Array.getElem?_eq_none (by simpa using hi'), Array.getElem?_eq_none (by simpa [hzl] using hi')]

theorem X_makeSlice {t el sz by' : Nat} [ht : TEl P t el sz by'] {zs : List Value} [hz : TZero P el zs] {x y : Operand} {k1 k2 : IntKind} {i j : Int} (hx : ev e x = .int k1 i) (hy : ev e y = .int k2 j) (h0 : 0 ≤ i) (h1 : i ≤ j) (h2 : j ≤ 1000000) (hby : Nat.ble by' 1000 = true)
    (hzl : Nat.beq zs.length sz = true) (hs1 : Nat.blt 0 sz = true) : Ex P lo A e L h { dst := some d, op := .makeSlice t x y, type := ty, pos := ps, after := af, guard := g } (fun v L' h' => ∃ b, ov L h b = none ∧ v = .slice (some ⟨b, 0, none⟩) i.toNat j.toNat ∧ L' = (b, bx (List.flatten (List.replicate j.toNat zs)) el) :: L ∧ h' = h) := fun hap => by
    obtain ⟨hu, inf, hinf, hsz, hbyte⟩ := el_parts ht.eq
    have hs : ∀ {H : LH} {Q : Nat → LH → Prop} {R : Value → LH → Prop}, wpL P lo (sizeOf el) H Q R = Q sz H := by
      intro H Q R; unfold sizeOf; rw [wpL_bind', wp_typeInfo hinf]; rw [← hsz]; rfl
    obtain ⟨z, hzc, hzw⟩ := wp_zero (P := P) (lo := lo) hz.eq
    rw [Nat.beq_eq] at hzl
    rw [Nat.blt_eq] at hs1
    rw [Nat.ble_eq] at hby
    have w1 : IntKind.i64.wrap i = i := w64_eq (by omega) (by omega)
    have w2 : IntKind.i64.wrap j = j := w64_eq (by omega) (by omega)
    have nb : ¬ (((decide (j < 0) || decide ((inf.bytes : Int) * j > 2 ^ 48)) || decide (i < 0) || decide (i > j)) = true) := by
      rw [hbyte]
      have : (by' : Int) * j ≤ 1000 * 1000000 := by
        refine Int.le_trans (Int.mul_le_mul_of_nonneg_right (c := j) (b := 1000) (by omega) (by omega)) (by omega)
      simp
      omega
    simp only [execOp, hx, hy, Instr.makeSlice, asInt, asIntOf, wpL_bind', wp_underlying hu, wpL_pure, wp_typeInfo hinf, w1, w2, hs, wpL_map]
    rw [if_neg nb]
    simp only [wpL_bind', hs, wpL_pure]
    have rest : wpL P lo (do
          let zero ← if j.toNat * sz = 0 then pure #[] else do pure (← zeroValue el).cells
          let a ← newRow el ((Array.range (j.toNat * sz)).map (zero[· % zero.size]!))
          pure (Value.slice (some a) i.toNat j.toNat) : Sem Value) (ov L h) (fun a h' => BehX P lo A (fun v L' h' => ∃ b, ov L h b = none ∧ v = .slice (some ⟨b, 0, none⟩) i.toNat j.toNat ∧ L' = (b, bx (List.flatten (List.replicate j.toNat zs)) el) :: L ∧ h' = h) (Next.value a) h') (fun _ _ => False) := by
      have fin : ∀ zero : Array Value, (j.toNat * sz ≠ 0 → zero = zs.toArray) → wpL P lo (do
          let a ← newRow el ((Array.range (j.toNat * sz)).map (zero[· % zero.size]!))
          pure (Value.slice (some a) i.toNat j.toNat) : Sem Value) (ov L h) (fun a h' => BehX P lo A (fun v L' h' => ∃ b, ov L h b = none ∧ v = .slice (some ⟨b, 0, none⟩) i.toNat j.toNat ∧ L' = (b, bx (List.flatten (List.replicate j.toNat zs)) el) :: L ∧ h' = h) (Next.value a) h') (fun _ _ => False) := by
        intro zero hzero
        rw [zeros_eq hzl hs1 zero hzero]
        simp only [wpL_bind', wpL_pure]
        exact wp_newRow' hap fun r hr ha => ⟨_, h, rfl, ha, r, hr, rfl, rfl, rfl⟩
      by_cases h0 : j.toNat * sz = 0
      · rw [if_pos h0, wpL_bind', wpL_pure]
        exact fin #[] (fun x => absurd h0 x)
      · rw [if_neg h0, wpL_bind', hzw, wpL_bind', wpL_pure]
        exact fin z.cells (fun _ => hzc)
    simp only [wpL_bind', hs, wpL_pure] at rest
    unfold askRoom
    split
    · exact ⟨.inl rfl, rest⟩
    · exact rest

theorem wp_bound {H : LH} {Q' : Nat → LH → Prop} {R' : Value → LH → Prop} {k : IntKind} {i : Int} {y : Nat} {c : BoundsCode} (h0 : 0 ≤ i) (h1 : i ≤ y) (hq : Q' i.toNat H) : wpL P lo (Instr.sliceBound (.int k i) y c) H Q' R' := by
  simp only [Instr.sliceBound, asIntOf, wpL_bind', wpL_pure, if_pos (show 0 ≤ i ∧ i ≤ (y : Int) from ⟨h0, h1⟩)]
  exact hq
/- xs[:j] -/
theorem D_sliceTo {t el sz by' : Nat} [ht : TEl P t el sz by'] {x jx : Operand} {b o len cap : Nat} {k : IntKind} {j : Int} (hx : ev e x = .slice (some ⟨b, o, none⟩) len cap) (hj : ev e jx = .int k j) (h0 : 0 ≤ j) (h1 : j ≤ cap) (hw : wantd ops e g = some true) :
    Det P lo ops { dst := some d, op := .slice t x none (some jx) none, type := ty, pos := ps, after := af, guard := g } ⟨e, D, L, h⟩ (.slice (some ⟨b, o, none⟩) j.toNat cap) :=
  Or.inr ⟨hw, fun _ H hle Q' R' hq => by
    obtain ⟨hu, inf, hinf, hsz, _⟩ := el_parts ht.eq
    have hs : ∀ {H : LH} {Q : Nat → LH → Prop} {R : Value → LH → Prop}, wpL P lo (sizeOf el) H Q R = Q sz H := by
      intro H Q R; unfold sizeOf; rw [wpL_bind', wp_typeInfo hinf]; rw [← hsz]; rfl
    simp only [execOp, hx, hj, Option.map_none, Option.map_some, Instr.sliceAt, Instr.slice, Instr.sliceBounds, wpL_bind', wp_underlying hu, wpL_pure, if_true]
    refine wp_bound h0 h1 ?_
    simp only [wpL_bind', hs, wpL_pure, Nat.sub_zero, Nat.zero_mul, add_mk, Nat.add_zero, ite_self]
    exact hq⟩
/- xs[:0] and the like of a slice without a block -/
theorem D_sliceTo0 {t el sz by' : Nat} [ht : TEl P t el sz by'] {x jx : Operand} {len : Nat} {k : IntKind} {j : Int} (hx : ev e x = .slice none len 0) (hj : ev e jx = .int k j) (h0 : j = 0) (hw : wantd ops e g = some true) :
    Det P lo ops { dst := some d, op := .slice t x none (some jx) none, type := ty, pos := ps, after := af, guard := g } ⟨e, D, L, h⟩ (.slice none 0 0) :=
  Or.inr ⟨hw, fun _ H hle Q' R' hq => by
    obtain ⟨hu, inf, hinf, hsz, _⟩ := el_parts ht.eq
    have hs : ∀ {H : LH} {Q : Nat → LH → Prop} {R : Value → LH → Prop}, wpL P lo (sizeOf el) H Q R = Q sz H := by
      intro H Q R; unfold sizeOf; rw [wpL_bind', wp_typeInfo hinf]; rw [← hsz]; rfl
    subst h0
    simp only [execOp, hx, hj, Option.map_none, Option.map_some, Instr.sliceAt, Instr.slice, Instr.sliceBounds, wpL_bind', wp_underlying hu, wpL_pure, if_true]
    refine wp_bound (Int.le_refl _) (Int.le_refl _) ?_
    simp only [wpL_bind', hs, wpL_pure, Nat.sub_zero, Nat.zero_mul, add_mk, Nat.add_zero, ite_self]
    exact hq⟩
/- xs[i:j] -/
theorem D_sliceFT {t el sz by' : Nat} [ht : TEl P t el sz by'] {x ix jx : Operand} {b o len cap : Nat} {k k' : IntKind} {i j : Int} (hx : ev e x = .slice (some ⟨b, o, none⟩) len cap) (hi : ev e ix = .int k' i) (hj : ev e jx = .int k j) (h0 : 0 ≤ i) (h1 : i ≤ j) (h2 : j ≤ cap) (h3 : i < cap) (hw : wantd ops e g = some true) :
    Det P lo ops { dst := some d, op := .slice t x (some ix) (some jx) none, type := ty, pos := ps, after := af, guard := g } ⟨e, D, L, h⟩ (.slice (some ⟨b, o + i.toNat * sz, none⟩) (j.toNat - i.toNat) (cap - i.toNat)) :=
  Or.inr ⟨hw, fun _ H hle Q' R' hq => by
    obtain ⟨hu, inf, hinf, hsz, _⟩ := el_parts ht.eq
    have hs : ∀ {H : LH} {Q : Nat → LH → Prop} {R : Value → LH → Prop}, wpL P lo (sizeOf el) H Q R = Q sz H := by
      intro H Q R; unfold sizeOf; rw [wpL_bind', wp_typeInfo hinf]; rw [← hsz]; rfl
    simp only [execOp, hx, hi, hj, Option.map_none, Option.map_some, Instr.sliceAt, Instr.slice, Instr.sliceBounds, wpL_bind', wp_underlying hu, wpL_pure, if_true]
    refine wp_bound (by omega) h2 ?_
    refine wp_bound h0 (by omega) ?_
    simp only [wpL_bind', hs, wpL_pure, add_mk, if_neg (show ¬ cap = i.toNat by omega), Option.map_some]
    exact hq⟩
/- xs[i:] -/
theorem D_sliceF {t el sz by' : Nat} [ht : TEl P t el sz by'] {x ix : Operand} {b o len cap : Nat} {k' : IntKind} {i : Int} (hx : ev e x = .slice (some ⟨b, o, none⟩) len cap) (hi : ev e ix = .int k' i) (h0 : 0 ≤ i) (h1 : i ≤ len) (hw : wantd ops e g = some true) :
    Det P lo ops { dst := some d, op := .slice t x (some ix) none none, type := ty, pos := ps, after := af, guard := g } ⟨e, D, L, h⟩ (.slice (some ⟨b, if cap = i.toNat then o else o + i.toNat * sz, none⟩) (len - i.toNat) (cap - i.toNat)) :=
  Or.inr ⟨hw, fun _ H hle Q' R' hq => by
    obtain ⟨hu, inf, hinf, hsz, _⟩ := el_parts ht.eq
    have hs : ∀ {H : LH} {Q : Nat → LH → Prop} {R : Value → LH → Prop}, wpL P lo (sizeOf el) H Q R = Q sz H := by
      intro H Q R; unfold sizeOf; rw [wpL_bind', wp_typeInfo hinf]; rw [← hsz]; rfl
    simp only [execOp, hx, hi, Option.map_none, Option.map_some, Instr.sliceAt, Instr.slice, Instr.sliceBounds, wpL_bind', wp_underlying hu, wpL_pure, if_true]
    refine wp_bound h0 h1 ?_
    simp only [wpL_bind', hs, wpL_pure, add_mk, Option.map_some]
    split <;> rename_i hc
    · rw [if_pos hc] at hq; exact hq
    · rw [if_neg hc] at hq; exact hq⟩

/- a field of a value -/
def fldVOf (P : Program) (s : TypeId) (f : Nat) : Option Nat :=
  match P.underlying s with
  | some (.struct fs) => match fs[f]? with
    | some x => if aggOf P x.type == some (false, 1) then some x.offset else none
    | none => none
  | _ => none
class TFldV (P : Program) (s : TypeId) (f : Nat) (off : outParam Nat) : Prop where
  eq : fldVOf P s f = some off
theorem D_fieldV {s f off : Nat} [ht : TFldV P s f off] {x : Operand} {cs : List Value} (v : Value) (hx : ev e x = .agg cs.toArray) (hv : cs[off]? = some v) (hw : wantd ops e g = some true) :
    Det P lo ops { dst := some d, op := .field s x f, type := ty, pos := ps, after := af, guard := g } ⟨e, D, L, h⟩ v :=
  Or.inr ⟨hw, fun _ H hle Q' R' hq => by
    have h2 := ht.eq
    unfold fldVOf at h2
    split at h2
    · rename_i fs hu
      split at h2
      · rename_i fd hf
        split at h2
        · rename_i ha
          injection h2 with h2
          subst h2
          simp only [beq_iff_eq] at ha
          simp only [execOp, hx, Instr.field, wpL_bind', wp_underlying hu, hf, asAgg, wpL_pure, part, wp_isAgg ha, Bool.false_eq_true, if_false, List.getElem?_toArray, hv]
          exact hq
        · cases h2
      · cases h2
    · cases h2⟩
/- slices and interface values against nil -/
theorem ev_const {e : Env} {v : Value} : ev e (.const v) = v := rfl
theorem D_eqlNilS {t el sz by' : Nat} [ht : TEl P t el sz by'] {t' : TypeId} {x : Operand} {p : Option Addr} {m c : Nat} (hx : ev e x = .slice p m c) (hw : wantd ops e g = some true) :
    Det P lo ops { dst := some d, op := .binOp .eql t x (.const (.slice none 0 0)) t', type := ty, pos := ps, after := af, guard := g } ⟨e, D, L, h⟩ (.bool p.isNone) :=
  Or.inr ⟨hw, fun _ H hle Q' R' hq => by
    obtain ⟨hu, _⟩ := el_parts ht.eq
    have key : ∀ {H : LH} {Q : Bool → LH → Prop} {R : Value → LH → Prop}, Q p.isNone H → wpL P lo (Op.equal t (.slice p m c) (.slice none 0 0)) H Q R := by
      intro H Q R hq
      show wpL P lo (Op.equalIn (9999 + 1) t _ _) H Q R
      rw [Op.equalIn]
      simp only [wpL_bind', wp_underlying hu]
      cases p <;> exact hq
    simp only [execOp, hx, ev_const, wpL_bind', wpL_pure, eqGuard, binOp]
    simp [wpL_bind', wpL_pure, wpL_map]
    refine key ?_
    exact hq⟩
class TIfc (P : Program) (t : TypeId) : Prop where
  eq : (match P.underlying t with | some (.interface _) => true | _ => false) = true
def isNilI : Value → Bool
  | .nilIface => true
  | _ => false
theorem wp_eqNilI {t : TypeId} [ht : TIfc P t] {v : Value} (hv : v = .nilIface ∨ ∃ a b, v = .iface a b) {H : LH} {Q : Bool → LH → Prop} {R : Value → LH → Prop} (hq : Q (isNilI v) H) : wpL P lo (Op.equal t v .nilIface) H Q R := by
  have h2 := ht.eq
  show wpL P lo (Op.equalIn (9999 + 1) t _ _) H Q R
  rw [Op.equalIn]
  split at h2
  · rename_i ms hu
    simp only [wpL_bind', wp_underlying hu]
    rcases hv with rfl | ⟨a, b, rfl⟩ <;> exact hq
  · cases h2
theorem D_eqlNilI {t t' : TypeId} [ht : TIfc P t] {x : Operand} {v : Value} (b : Bool) (hx : ev e x = v) (hv : v = .nilIface ∨ ∃ a b, v = .iface a b) (hb : isNilI v = b) (hw : wantd ops e g = some true) :
    Det P lo ops { dst := some d, op := .binOp .eql t x (.const .nilIface) t', type := ty, pos := ps, after := af, guard := g } ⟨e, D, L, h⟩ (.bool b) :=
  Or.inr ⟨hw, fun _ H hle Q' R' hq => by
    subst hb
    rcases hv with rfl | ⟨a, b, rfl⟩
    · simp only [execOp, hx, ev_const, wpL_bind', wpL_pure, eqGuard, binOp]
      simp [wpL_bind', wpL_pure, wpL_map]
      refine wp_eqNilI (P := P) (lo := lo) (t := t) (.inl rfl) ?_
      exact hq
    · simp only [execOp, hx, ev_const, wpL_bind', wpL_pure, eqGuard, binOp]
      simp [wpL_bind', wpL_pure, wpL_map]
      refine wp_eqNilI (P := P) (lo := lo) (t := t) (.inr ⟨_, _, rfl⟩) ?_
      exact hq⟩
theorem D_neqNilI {t t' : TypeId} [ht : TIfc P t] {x : Operand} {v : Value} (b : Bool) (hx : ev e x = v) (hv : v = .nilIface ∨ ∃ a b, v = .iface a b) (hb : isNilI v = !b) (hw : wantd ops e g = some true) :
    Det P lo ops { dst := some d, op := .binOp .neq t x (.const .nilIface) t', type := ty, pos := ps, after := af, guard := g } ⟨e, D, L, h⟩ (.bool b) :=
  Or.inr ⟨hw, fun _ H hle Q' R' hq => by
    obtain rfl : b = !isNilI v := by rw [hb, Bool.not_not]
    rcases hv with rfl | ⟨a, b, rfl⟩
    · simp only [execOp, hx, ev_const, wpL_bind', wpL_pure, eqGuard, binOp]
      simp [wpL_bind', wpL_pure, wpL_map]
      refine wp_eqNilI (P := P) (lo := lo) (t := t) (.inl rfl) ?_
      exact hq
    · simp only [execOp, hx, ev_const, wpL_bind', wpL_pure, eqGuard, binOp]
      simp [wpL_bind', wpL_pure, wpL_map]
      refine wp_eqNilI (P := P) (lo := lo) (t := t) (.inr ⟨_, _, rfl⟩) ?_
      exact hq⟩
/- structs of two whole numbers: == -/
def isIntT (P : Program) (t : TypeId) : Bool := match P.underlying t with | some (.int _) => true | _ => false
def int2Of (P : Program) (t : TypeId) : Bool :=
  match P.underlying t with
  | some (.struct fs) => match fs.toList with
    | [f0, f1] => f0.name != "_" && f1.name != "_" && f0.offset == 0 && f1.offset == 1 && isIntT P f0.type && isIntT P f1.type && aggOf P f0.type == some (false, 1) && aggOf P f1.type == some (false, 1) && !P.stoodInHeld t
    | _ => false
  | _ => false
class TInt2 (P : Program) (t : TypeId) : Prop where
  eq : int2Of P t = true
  guard : P.eqGuardType P.depth t = false
theorem wp_eqI {t : TypeId} (ht : isIntT P t = true) {dep : Nat} {k : IntKind} {a b : Int} {H : LH} {Q : Bool → LH → Prop} {R : Value → LH → Prop} (hq : Q (a == b) H) : wpL P lo (Op.equalIn (dep + 1) t (.int k a) (.int k b)) H Q R := by
  rw [Op.equalIn]
  unfold isIntT at ht
  split at ht
  · rename_i hu
    simp only [wpL_bind', wp_underlying hu, if_true, wpL_pure]
    exact hq
  · cases ht
theorem wp_eqS2d {dep : Nat} {t : TypeId} [ht : TInt2 P t] {k : IntKind} {a b c d' : Int} {H : LH} {Q : Bool → LH → Prop} {R : Value → LH → Prop} (hq : Q (a == c && b == d') H) :
    wpL P lo (Op.equalIn (dep + 1 + 1) t (.agg [.int k a, .int k b].toArray) (.agg [.int k c, .int k d'].toArray)) H Q R := by
  have h2 := ht.eq
  rw [Op.equalIn]
  unfold int2Of at h2
  split at h2
  · rename_i fs hu
    split at h2
    · rename_i f0 f1 hfs
      simp only [Bool.and_eq_true, Bool.not_eq_true', bne_iff_ne, ne_eq, beq_iff_eq] at h2
      obtain ⟨⟨⟨⟨⟨⟨⟨⟨n0, n1⟩, o0⟩, o1⟩, i0⟩, i1⟩, a0⟩, a1⟩, st⟩ := h2
      obtain rfl : fs = #[f0, f1] := by apply Array.ext'; simpa using hfs
      have p0 : ∀ {xs : Array Value} {v : Value} {f : Field} {H : LH} {Q : Value → LH → Prop} {R : Value → LH → Prop}, aggOf P f.type = some (false, 1) → xs[f.offset]? = some v → Q v H → wpL P lo (part f.type xs f.offset) H Q R := by
        intro xs v f H Q R ha hx hq
        simp only [part, wpL_bind', wp_isAgg ha, Bool.false_eq_true, if_false, hx, wpL_pure]
        exact hq
      simp only [wpL_bind', wp_underlying hu, program, wpL, st, Bool.false_eq_true, if_false, wpL_pure]
      simp only [List.forIn_toArray, List.forIn_cons, List.forIn_nil, n0, n1, not_false_eq_true, if_true, ne_eq, wpL_bind']
      refine p0 a0 (by rw [o0]; rfl) (p0 a0 (by rw [o0]; rfl) ?_)
      show wpL P lo (Op.equalIn (dep + 1) _ _ _) _ _ _
      refine wp_eqI i0 ?_
      cases hac : (a == c) with
      | false =>
        simp only [Bool.not_false, if_true, wpL_pure]
        rw [hac, Bool.false_and] at hq
        exact hq
      | true =>
        simp only [Bool.not_true, Bool.false_eq_true, if_false, wpL_bind', wpL_pure]
        refine p0 a1 (by rw [o1]; rfl) (p0 a1 (by rw [o1]; rfl) ?_)
        show wpL P lo (Op.equalIn (dep + 1) _ _ _) _ _ _
        refine wp_eqI i1 ?_
        rw [hac, Bool.true_and] at hq
        cases hbd : (b == d') with
        | false =>
          simp only [Bool.not_false, if_true, wpL_pure]
          rw [hbd] at hq
          exact hq
        | true =>
          simp only [Bool.not_true, Bool.false_eq_true, if_false, wpL_pure]
          rw [hbd] at hq
          exact hq
    · cases h2
  · cases h2

theorem wp_eqS2 {t : TypeId} [ht : TInt2 P t] {k : IntKind} {a b c d' : Int} {H : LH} {Q : Bool → LH → Prop} {R : Value → LH → Prop} (hq : Q (a == c && b == d') H) :
    wpL P lo (Op.equal t (.agg [.int k a, .int k b].toArray) (.agg [.int k c, .int k d'].toArray)) H Q R := wp_eqS2d (dep := 9998) hq
/- structs of a whole number and a struct of two -/
def int3Of (P : Program) (t t2 : TypeId) : Bool :=
  match P.underlying t with
  | some (.struct fs) => match fs.toList with
    | [f0, f1] => f0.name != "_" && f1.name != "_" && f0.offset == 0 && f1.offset == 1 && isIntT P f0.type && f1.type == t2 && aggOf P f0.type == some (false, 1) && aggOf P f1.type == some (true, 2) && !P.stoodInHeld t
    | _ => false
  | _ => false
class TInt3 (P : Program) (t : TypeId) (t2 : outParam TypeId) : Prop where
  eq : int3Of P t t2 = true
  guard : P.eqGuardType P.depth t = false
theorem wp_eqS3 {t t2 : TypeId} [ht : TInt3 P t t2] [ht2 : TInt2 P t2] {k : IntKind} {x y a b c d' : Int} {H : LH} {Q : Bool → LH → Prop} {R : Value → LH → Prop} (hq : Q (x == y && (a == c && b == d')) H) :
    wpL P lo (Op.equal t (.agg [.int k x, .int k a, .int k b].toArray) (.agg [.int k y, .int k c, .int k d'].toArray)) H Q R := by
  have h2 := ht.eq
  show wpL P lo (Op.equalIn (9999 + 1) t _ _) H Q R
  rw [Op.equalIn]
  unfold int3Of at h2
  split at h2
  · rename_i fs hu
    split at h2
    · rename_i f0 f1 hfs
      simp only [Bool.and_eq_true, Bool.not_eq_true', bne_iff_ne, ne_eq, beq_iff_eq] at h2
      obtain ⟨⟨⟨⟨⟨⟨⟨⟨n0, n1⟩, o0⟩, o1⟩, i0⟩, i1⟩, a0⟩, a1⟩, st⟩ := h2
      obtain rfl : fs = #[f0, f1] := by apply Array.ext'; simpa using hfs
      have p0 : ∀ {xs : Array Value} {v : Value} {f : Field} {H : LH} {Q : Value → LH → Prop} {R : Value → LH → Prop}, aggOf P f.type = some (false, 1) → xs[f.offset]? = some v → Q v H → wpL P lo (part f.type xs f.offset) H Q R := by
        intro xs v f H Q R ha hx hq
        simp only [part, wpL_bind', wp_isAgg ha, Bool.false_eq_true, if_false, hx, wpL_pure]
        exact hq
      have p1 : ∀ {xs : Array Value} {f : Field} {H : LH} {Q : Value → LH → Prop} {R : Value → LH → Prop}, aggOf P f.type = some (true, 2) → Q (.agg (xs.extract f.offset (f.offset + 2))) H → wpL P lo (part f.type xs f.offset) H Q R := by
        intro xs f H Q R ha hq
        simp only [part, wpL_bind', wp_isAgg ha, if_true, wp_sizeOf ha, wpL_pure]
        exact hq
      simp only [wpL_bind', wp_underlying hu, program, wpL, st, Bool.false_eq_true, if_false, wpL_pure]
      simp only [List.forIn_toArray, List.forIn_cons, List.forIn_nil, n0, n1, not_false_eq_true, if_true, ne_eq, wpL_bind']
      refine p0 a0 (by rw [o0]; rfl) (p0 a0 (by rw [o0]; rfl) ?_)
      show wpL P lo (Op.equalIn (9998 + 1) _ _ _) _ _ _
      refine wp_eqI i0 ?_
      cases hac : (x == y) with
      | false =>
        simp only [Bool.not_false, if_true, wpL_pure]
        rw [hac, Bool.false_and] at hq
        exact hq
      | true =>
        simp only [Bool.not_true, Bool.false_eq_true, if_false, wpL_bind', wpL_pure]
        refine p1 a1 (p1 a1 ?_)
        rw [o1, i1]
        show wpL P lo (Op.equalIn (9997 + 1 + 1) t2 (.agg [.int k a, .int k b].toArray) (.agg [.int k c, .int k d'].toArray)) _ _ _
        refine wp_eqS2d ?_
        rw [hac, Bool.true_and] at hq
        cases hbd : (a == c && b == d') with
        | false =>
          simp only [Bool.not_false, if_true, wpL_pure]
          rw [hbd] at hq
          exact hq
        | true =>
          simp only [Bool.not_true, Bool.false_eq_true, if_false, wpL_pure]
          rw [hbd] at hq
          exact hq
    · cases h2
  · cases h2
theorem D_neqS {t t' : TypeId} [ht : TInt2 P t] {x y : Operand} {k : IntKind} {a b c d' : Int} (v : Bool) (hx : ev e x = .agg [.int k a, .int k b].toArray) (hy : ev e y = .agg [.int k c, .int k d'].toArray) (hv : (!(a == c && b == d')) = v) (hw : wantd ops e g = some true) :
    Det P lo ops { dst := some d, op := .binOp .neq t x y t', type := ty, pos := ps, after := af, guard := g } ⟨e, D, L, h⟩ (.bool v) :=
  Or.inr ⟨hw, fun _ H hle Q' R' hq => by
    subst hv
    simp only [execOp, hx, hy, wpL_bind', wpL_pure, eqGuard, binOp]
    simp [wpL_bind', wpL_pure, wpL_map, program, wpL, ht.guard]
    refine wp_eqS2 (P := P) (lo := lo) (t := t) (k := k) (a := a) (b := b) (c := c) (d' := d') ?_
    simpa using hq⟩
theorem D_eqlE {t t2 t' : TypeId} [ht : TInt3 P t t2] [ht2 : TInt2 P t2] {x y : Operand} {k : IntKind} {x1 y1 a b c d' : Int} (v : Bool) (hx : ev e x = .agg [.int k x1, .int k a, .int k b].toArray) (hy : ev e y = .agg [.int k y1, .int k c, .int k d'].toArray) (hv : (x1 == y1 && (a == c && b == d')) = v) (hw : wantd ops e g = some true) :
    Det P lo ops { dst := some d, op := .binOp .eql t x y t', type := ty, pos := ps, after := af, guard := g } ⟨e, D, L, h⟩ (.bool v) :=
  Or.inr ⟨hw, fun _ H hle Q' R' hq => by
    subst hv
    simp only [execOp, hx, hy, wpL_bind', wpL_pure, eqGuard, binOp]
    simp [wpL_bind', wpL_pure, wpL_map, program, wpL, ht.guard]
    refine wp_eqS3 (P := P) (lo := lo) (t := t) (t2 := t2) (k := k) (x := x1) (y := y1) (a := a) (b := b) (c := c) (d' := d') ?_
    exact hq⟩
theorem D_neqE {t t2 t' : TypeId} [ht : TInt3 P t t2] [ht2 : TInt2 P t2] {x y : Operand} {k : IntKind} {x1 y1 a b c d' : Int} (v : Bool) (hx : ev e x = .agg [.int k x1, .int k a, .int k b].toArray) (hy : ev e y = .agg [.int k y1, .int k c, .int k d'].toArray) (hv : (!(x1 == y1 && (a == c && b == d'))) = v) (hw : wantd ops e g = some true) :
    Det P lo ops { dst := some d, op := .binOp .neq t x y t', type := ty, pos := ps, after := af, guard := g } ⟨e, D, L, h⟩ (.bool v) :=
  Or.inr ⟨hw, fun _ H hle Q' R' hq => by
    subst hv
    simp only [execOp, hx, hy, wpL_bind', wpL_pure, eqGuard, binOp]
    simp [wpL_bind', wpL_pure, wpL_map, program, wpL, ht.guard]
    refine wp_eqS3 (P := P) (lo := lo) (t := t) (t2 := t2) (k := k) (x := x1) (y := y1) (a := a) (b := b) (c := c) (d' := d') ?_
    simpa using hq⟩
theorem D_eqlS {t t' : TypeId} [ht : TInt2 P t] {x y : Operand} {k : IntKind} {a b c d' : Int} (v : Bool) (hx : ev e x = .agg [.int k a, .int k b].toArray) (hy : ev e y = .agg [.int k c, .int k d'].toArray) (hv : (a == c && b == d') = v) (hw : wantd ops e g = some true) :
    Det P lo ops { dst := some d, op := .binOp .eql t x y t', type := ty, pos := ps, after := af, guard := g } ⟨e, D, L, h⟩ (.bool v) :=
  Or.inr ⟨hw, fun _ H hle Q' R' hq => by
    subst hv
    simp only [execOp, hx, hy, wpL_bind', wpL_pure, eqGuard, binOp]
    simp [wpL_bind', wpL_pure, program, wpL, ht.guard]
    refine wp_eqS2 (P := P) (lo := lo) (t := t) (k := k) (a := a) (b := b) (c := c) (d' := d') ?_
    exact hq⟩

variable [hA : Adm P main lo A]
include hA
theorem R_eqlS {t t' : TypeId} [ht : TInt2 P t] {x y : Operand} {k : IntKind} {a b c d' : Int} (v : Bool) (hx : ev e x = .agg [.int k a, .int k b].toArray) (hy : ev e y = .agg [.int k c, .int k d'].toArray) (hv : (a == c && b == d') = v) (hw : wantd ops e g = some true) (hd : Nat.blt d n = true)
    (k : WS lo A n ops rest ⟨upd e d (.bool v), D, L, h⟩ Q) : WS lo A n ops ({ dst := some d, op := .binOp .eql t x y t', type := ty, pos := ps, after := af, guard := g } :: rest) ⟨e, D, L, h⟩ Q := WS_det (D_eqlS v hx hy hv hw) rfl hd k
theorem R_neqS {t t' : TypeId} [ht : TInt2 P t] {x y : Operand} {k : IntKind} {a b c d' : Int} (v : Bool) (hx : ev e x = .agg [.int k a, .int k b].toArray) (hy : ev e y = .agg [.int k c, .int k d'].toArray) (hv : (!(a == c && b == d')) = v) (hw : wantd ops e g = some true) (hd : Nat.blt d n = true)
    (k : WS lo A n ops rest ⟨upd e d (.bool v), D, L, h⟩ Q) : WS lo A n ops ({ dst := some d, op := .binOp .neq t x y t', type := ty, pos := ps, after := af, guard := g } :: rest) ⟨e, D, L, h⟩ Q := WS_det (D_neqS v hx hy hv hw) rfl hd k
theorem R_eqlE {t t2 t' : TypeId} [ht : TInt3 P t t2] [ht2 : TInt2 P t2] {x y : Operand} {k : IntKind} {x1 y1 a b c d' : Int} (v : Bool) (hx : ev e x = .agg [.int k x1, .int k a, .int k b].toArray) (hy : ev e y = .agg [.int k y1, .int k c, .int k d'].toArray) (hv : (x1 == y1 && (a == c && b == d')) = v) (hw : wantd ops e g = some true) (hd : Nat.blt d n = true)
    (k : WS lo A n ops rest ⟨upd e d (.bool v), D, L, h⟩ Q) : WS lo A n ops ({ dst := some d, op := .binOp .eql t x y t', type := ty, pos := ps, after := af, guard := g } :: rest) ⟨e, D, L, h⟩ Q := WS_det (D_eqlE v hx hy hv hw) rfl hd k
theorem R_neqE {t t2 t' : TypeId} [ht : TInt3 P t t2] [ht2 : TInt2 P t2] {x y : Operand} {k : IntKind} {x1 y1 a b c d' : Int} (v : Bool) (hx : ev e x = .agg [.int k x1, .int k a, .int k b].toArray) (hy : ev e y = .agg [.int k y1, .int k c, .int k d'].toArray) (hv : (!(x1 == y1 && (a == c && b == d'))) = v) (hw : wantd ops e g = some true) (hd : Nat.blt d n = true)
    (k : WS lo A n ops rest ⟨upd e d (.bool v), D, L, h⟩ Q) : WS lo A n ops ({ dst := some d, op := .binOp .neq t x y t', type := ty, pos := ps, after := af, guard := g } :: rest) ⟨e, D, L, h⟩ Q := WS_det (D_neqE v hx hy hv hw) rfl hd k
theorem R_fieldV {s f off : Nat} [ht : TFldV P s f off] {x : Operand} {cs : List Value} (v : Value) (hx : ev e x = .agg cs.toArray) (hv : cs[off]? = some v) (hw : wantd ops e g = some true) (hd : Nat.blt d n = true)
    (k : WS lo A n ops rest ⟨upd e d v, D, L, h⟩ Q) : WS lo A n ops ({ dst := some d, op := .field s x f, type := ty, pos := ps, after := af, guard := g } :: rest) ⟨e, D, L, h⟩ Q := WS_det (D_fieldV v hx hv hw) rfl hd k
theorem R_eqlNilS {t el sz by' : Nat} [ht : TEl P t el sz by'] {t' : TypeId} {x : Operand} {p : Option Addr} {m c : Nat} (hx : ev e x = .slice p m c) (hw : wantd ops e g = some true) (hd : Nat.blt d n = true)
    (k : WS lo A n ops rest ⟨upd e d (.bool p.isNone), D, L, h⟩ Q) : WS lo A n ops ({ dst := some d, op := .binOp .eql t x (.const (.slice none 0 0)) t', type := ty, pos := ps, after := af, guard := g } :: rest) ⟨e, D, L, h⟩ Q := WS_det (D_eqlNilS hx hw) rfl hd k
theorem R_eqlNilI {t t' : TypeId} [ht : TIfc P t] {x : Operand} {v : Value} (b : Bool) (hx : ev e x = v) (hv : v = .nilIface ∨ ∃ a b, v = .iface a b) (hb : isNilI v = b) (hw : wantd ops e g = some true) (hd : Nat.blt d n = true)
    (k : WS lo A n ops rest ⟨upd e d (.bool b), D, L, h⟩ Q) : WS lo A n ops ({ dst := some d, op := .binOp .eql t x (.const .nilIface) t', type := ty, pos := ps, after := af, guard := g } :: rest) ⟨e, D, L, h⟩ Q := WS_det (D_eqlNilI b hx hv hb hw) rfl hd k
theorem R_neqNilI {t t' : TypeId} [ht : TIfc P t] {x : Operand} {v : Value} (b : Bool) (hx : ev e x = v) (hv : v = .nilIface ∨ ∃ a b, v = .iface a b) (hb : isNilI v = !b) (hw : wantd ops e g = some true) (hd : Nat.blt d n = true)
    (k : WS lo A n ops rest ⟨upd e d (.bool b), D, L, h⟩ Q) : WS lo A n ops ({ dst := some d, op := .binOp .neq t x (.const .nilIface) t', type := ty, pos := ps, after := af, guard := g } :: rest) ⟨e, D, L, h⟩ Q := WS_det (D_neqNilI b hx hv hb hw) rfl hd k
theorem R_sliceTo {t el sz by' : Nat} [ht : TEl P t el sz by'] {x jx : Operand} {b o len cap : Nat} {k : IntKind} {j : Int} (hx : ev e x = .slice (some ⟨b, o, none⟩) len cap) (hj : ev e jx = .int k j) (h0 : 0 ≤ j) (h1 : j ≤ cap) (hw : wantd ops e g = some true) (hd : Nat.blt d n = true)
    (k : WS lo A n ops rest ⟨upd e d (.slice (some ⟨b, o, none⟩) j.toNat cap), D, L, h⟩ Q) : WS lo A n ops ({ dst := some d, op := .slice t x none (some jx) none, type := ty, pos := ps, after := af, guard := g } :: rest) ⟨e, D, L, h⟩ Q := WS_det (D_sliceTo hx hj h0 h1 hw) rfl hd k
theorem R_sliceTo0 {t el sz by' : Nat} [ht : TEl P t el sz by'] {x jx : Operand} {len : Nat} {k : IntKind} {j : Int} (hx : ev e x = .slice none len 0) (hj : ev e jx = .int k j) (h0 : j = 0) (hw : wantd ops e g = some true) (hd : Nat.blt d n = true)
    (k : WS lo A n ops rest ⟨upd e d (.slice none 0 0), D, L, h⟩ Q) : WS lo A n ops ({ dst := some d, op := .slice t x none (some jx) none, type := ty, pos := ps, after := af, guard := g } :: rest) ⟨e, D, L, h⟩ Q := WS_det (D_sliceTo0 hx hj h0 hw) rfl hd k
theorem R_sliceFT {t el sz by' : Nat} [ht : TEl P t el sz by'] {x ix jx : Operand} {b o len cap : Nat} {k k' : IntKind} {i j : Int} (hx : ev e x = .slice (some ⟨b, o, none⟩) len cap) (hi : ev e ix = .int k' i) (hj : ev e jx = .int k j) (h0 : 0 ≤ i) (h1 : i ≤ j) (h2 : j ≤ cap) (h3 : i < cap) (hw : wantd ops e g = some true) (hd : Nat.blt d n = true)
    (k : WS lo A n ops rest ⟨upd e d (.slice (some ⟨b, o + i.toNat * sz, none⟩) (j.toNat - i.toNat) (cap - i.toNat)), D, L, h⟩ Q) : WS lo A n ops ({ dst := some d, op := .slice t x (some ix) (some jx) none, type := ty, pos := ps, after := af, guard := g } :: rest) ⟨e, D, L, h⟩ Q := WS_det (D_sliceFT hx hi hj h0 h1 h2 h3 hw) rfl hd k
theorem R_makeSlice {t el sz by' : Nat} [ht : TEl P t el sz by'] {zs : List Value} [hz : TZero P el zs] {x y : Operand} {k1 k2 : IntKind} {i j : Int} (hx : ev e x = .int k1 i) (hy : ev e y = .int k2 j) (h0 : 0 ≤ i) (h1 : i ≤ j) (h2 : j ≤ 1000000) (hby : Nat.ble by' 1000 = true)
    (hzl : Nat.beq zs.length sz = true) (hs1 : Nat.blt 0 sz = true) (hw : wantd ops e g = some true) (hd : Nat.blt d n = true)
    (k : ∀ b, WS lo A n ops rest ⟨upd e d (.slice (some ⟨b, 0, none⟩) i.toNat j.toNat), D, (b, bx (List.flatten (List.replicate j.toNat zs)) el) :: L, h⟩ Q) : WS lo A n ops ({ dst := some d, op := .makeSlice t x y, type := ty, pos := ps, after := af, guard := g } :: rest) ⟨e, D, L, h⟩ Q :=
  WS_ex (X_makeSlice (A := A) hx hy h0 h1 h2 hby hzl hs1) hw hd fun v L'' h' hk => by
    obtain ⟨b, _, rfl, rfl, rfl⟩ := hk
    exact k b

/-! ### results -/
inductive RV (P : Program) (e : Env) (L : OL) : ResultVar → Value → Prop
  | tmp {t : Nat} {v : Value} (h : e t = v) : RV P e L (.tmp t) v
  | cellA (j : Nat) {t : Nat} {ty : TypeId} {sz b o : Nat} {cs r : List Value} {T : TypeId} (vs : List Value) [ht : TSize P ty true sz] (h : e t = .pointer (some ⟨b, o, none⟩)) (hj : L[j]? = some (b, bx cs T)) (hc : cs.drop o = vs ++ r) (hl : Nat.beq vs.length sz = true) : RV P e L (.cell t ty) (.agg vs.toArray)
  | cell1 (j : Nat) {t : Nat} {ty : TypeId} {sz b o : Nat} {cs r : List Value} {T : TypeId} (v : Value) [ht : TSize P ty false sz] (h : e t = .pointer (some ⟨b, o, none⟩)) (hj : L[j]? = some (b, bx cs T)) (hc : cs.drop o = v :: r) (h1 : Nat.beq sz 1 = true) : RV P e L (.cell t ty) v
inductive RVs (P : Program) (e : Env) (L : OL) : List ResultVar → List Value → Prop
  | nil : RVs P e L [] []
  | cons {r : ResultVar} {rs : List ResultVar} {v : Value} {vs : List Value} (h1 : RV P e L r v) (h2 : RVs P e L rs vs) : RVs P e L (r :: rs) (v :: vs)
def tupOf : List Value → Value
  | [v] => v
  | vs => .tuple vs.toArray
omit hA in
theorem wp_RVs {R : Value → LH → Prop} (tmps : Array Value) (ht : ∀ t, tmps.getD t undef = e t) (hap : Apart lo L h) : ∀ (rs : List ResultVar) (vs : List Value) (Q : List Value → LH → Prop), RVs P e L rs vs → Q vs (Go.Lu.ov L h) →
    wpL P lo (rs.mapM fun
      | .tmp t => pure (tmps.getD t undef)
      | .cell a t => do loadVar t (← asAddr (tmps.getD a undef)) : Sem (List Value)) (Go.Lu.ov L h) Q R
  | [], [], Q, _, hq => by simp only [List.mapM_nil, wpL_pure]; exact hq
  | r :: rs, v :: vs, Q, .cons h1 h2, hq => by
    have rest := wp_RVs (R := R) tmps ht hap rs vs (fun vs' H => Q (v :: vs') H) h2 hq
    simp only [List.mapM_cons, wpL_bind', wpL_pure]
    cases h1 with
    | tmp h => rename_i t; simp only [wpL_pure]; rw [ht t, h]; exact rest
    | cellA j vs' h hj hc hl =>
      rename_i t _ _ _ _ _ _ _ hts
      simp only [wpL_bind']
      rw [ht t, h]
      simp only [asAddr, wpL_pure]
      exact wp_loadVar hts.eq (Nat.eq_of_beq_eq_true hl) (fun x => by cases x) (at_box hap.nodup hj hc) rest
    | cell1 j v h hj hc h1 =>
      rename_i t _ _ _ _ _ _ _ hts
      have e1 := Nat.eq_of_beq_eq_true h1
      subst e1
      simp only [wpL_bind']
      rw [ht t, h]
      simp only [asAddr, wpL_pure]
      exact wp_loadVar (vs := [v]) hts.eq rfl (fun _ => rfl) (at_box hap.nodup hj (by simpa using hc)) rest
omit hA in
theorem end_res {fn : Func} {rs : List ResultVar} {vs : List Value} {K : Value → LH → Prop} (hr : fn.results = rs.toArray) (hv : RVs P e L rs vs) (k : Apart lo L h → ∃ h', LE h' (ov L h) ∧ K (tupOf vs) h') : EndS P lo fn n (retOnly K) .ret ⟨e, [], L, h⟩ := by
  intro ok
  refine ⟨rfl, ?_⟩
  unfold results
  rw [hr]
  simp only [List.mapM_toArray, wpL_bind', wpL_map]
  refine wp_RVs (e := e) _ (fun t => get_mkA (n := n) ⟨e, [], L, h⟩ t ok.undef) ok.apart rs vs _ hv ?_
  simp only [wpL_pure]
  have hk := k ok.apart
  match vs, hv with
  | [], _ => exact hk
  | [v], _ => exact hk
  | v :: w :: vs, _ => exact hk
/- pure: nothing new is kept -/
omit hA in
theorem endR {fn : Func} {rs : List ResultVar} {vs : List Value} {K : Value → LH → Prop} (hr : fn.results = rs.toArray) (hv : RVs P e L rs vs) (k : K (tupOf vs) h) : EndS P lo fn n (retOnly K) .ret ⟨e, [], L, h⟩ :=
  end_res hr hv fun ha => fn_end0 (K := K) (v := tupOf vs) ha k
/- .. with a smaller heap told -/
omit hA in
theorem endRle {fn : Func} {rs : List ResultVar} {vs : List Value} {K : Value → LH → Prop} (h₀ : LH) (hle : LE h₀ h) (hr : fn.results = rs.toArray) (hv : RVs P e L rs vs) (k : K (tupOf vs) h₀) : EndS P lo fn n (retOnly K) .ret ⟨e, [], L, h⟩ :=
  end_res hr hv fun ha => ⟨h₀, fun b o hb => LE.ov ha b o (hle b o hb), k⟩
/- some blocks become data -/
omit hA in
theorem endRD {fn : Func} {rs : List ResultVar} {vs : List Value} {K : Value → LH → Prop} (L₂ : OL) (hs : Sub L₂ L) (hr : fn.results = rs.toArray) (hv : RVs P e L rs vs) (k : Apart lo L₂ h → LE h (Go.Lu.ov L₂ h) → K (tupOf vs) (Go.Lu.ov L₂ h)) : EndS P lo fn n (retOnly K) .ret ⟨e, [], L, h⟩ :=
  end_res hr hv fun ha => by
    obtain ⟨L₃, hp⟩ := hs
    exact fn_end (K := K) (v := tupOf vs) L₂ L₃ hp ha (k ((ha.perm hp).perm List.perm_append_comm).right)
/- some blocks are handed back, some become data -/
omit hA in
theorem endRO {fn : Func} {rs : List ResultVar} {vs : List Value} {K : Value → OL → LH → Prop} (L₁ L₂ : OL) (hs : Sub (L₁ ++ L₂) L) (hr : fn.results = rs.toArray) (hv : RVs P e L rs vs) (k : Apart lo L₁ (Go.Lu.ov L₂ h) → LE h (Go.Lu.ov L₂ h) → K (tupOf vs) L₁ (Go.Lu.ov L₂ h)) : EndS P lo fn n (retOnly (OwnP lo K)) .ret ⟨e, [], L, h⟩ :=
  end_res hr hv fun ha => by
    obtain ⟨L₃, hp⟩ := hs
    exact own_end (v := tupOf vs) L₁ L₂ L₃ (by rw [← List.append_assoc]; exact hp) ha k
omit hA in
theorem endNO' {fn : Func} {K : Value → OL → LH → Prop} (L₁ L₂ : OL) (hs : Sub (L₁ ++ L₂) L) (hr : fn.results = #[]) (k : Apart lo L₁ (Go.Lu.ov L₂ h) → LE h (Go.Lu.ov L₂ h) → K (.tuple #[]) L₁ (Go.Lu.ov L₂ h)) : EndS P lo fn n (retOnly (OwnP lo K)) .normal ⟨e, [], L, h⟩ := by
  obtain ⟨L₃, hp⟩ := hs
  exact endNO L₁ L₂ L₃ (by rw [← List.append_assoc]; exact hp) hr k
omit hA in
theorem endNO2 {fn : Func} {K : Value → OL → LH → Prop} (L₁ L₂ : OL) (hs : Sub (L₁ ++ L₂) L) (hr : fn.results = #[]) (k : Apart lo L₁ (Go.Lu.ov L₂ h) → LE h (Go.Lu.ov L₂ h) → K (.tuple #[]) L₁ (Go.Lu.ov L₂ h)) : EndS P lo fn n (retOnly (OwnP lo K)) .ret ⟨e, [], L, h⟩ := by
  obtain ⟨L₃, hp⟩ := hs
  exact end_ret0 hr fun ha => own_end L₁ L₂ L₃ (by rw [← List.append_assoc]; exact hp) ha k

/-! ### forgetting -/
theorem WS_sub (L₀ : OL) (hs : Sub L₀ L) (k : WS lo A n ops rest ⟨e, D, L₀, h⟩ Q) : WS lo A n ops rest ⟨e, D, L, h⟩ Q := by
  intro i hi ok
  obtain ⟨L', hp⟩ := hs
  have ha := ok.apart.perm hp
  have := k i hi ⟨(ha.perm List.perm_append_comm).right, ok.undef⟩
  refine WR_le ?_ this
  simp only
  rw [ov_perm hp h ok.apart.nodup, ov_append, ov_comm ha]
  exact LE.ov (ha.perm List.perm_append_comm).left
theorem WS_le {h₀ : LH} (hle : LE h₀ h) (k : WS lo A n ops rest ⟨e, D, L, h₀⟩ Q) : WS lo A n ops rest ⟨e, D, L, h⟩ Q := by
  intro i hi ok
  exact WR_le (LE_ov hle) (k i hi ⟨ok.apart.le hle, ok.undef⟩)
/-- append of a slice in an owned block that is not asked for afterwards. -/
theorem R_appendB {t el sz by' : Nat} [ht : TEl P t el sz by'] {zs : List Value} [hz : TZero P el zs] (B L₀ : OL) {x y : Operand} {v0 : Value} {used : List Value} (ys : List Value) {b m c : Nat} {T : TypeId}
    (hx : ev e x = v0) (hy : ev e y = .slice (some ⟨b, 0, none⟩) m c) (hB : Bc el sz v0 B used) (hL : Sub ((b, bx ys T) :: (B ++ L₀)) L) (hl : Nat.beq ys.length (m * sz) = true) (hf : ys.all flat = true) (hbd : (used.length + ys.length) * (16 * by') ≤ 2 ^ 47 * sz) (hb1 : used.length + ys.length ≤ 2 ^ 40)
    (hzl : Nat.beq zs.length sz = true) (hs1 : Nat.blt 0 sz = true) (hw : wantd ops e g = some true) (hd : Nat.blt d n = true)
    (k : ∀ v' B', Bc el sz v' B' (used ++ ys) → WS lo A n ops rest ⟨upd e d v', D, B' ++ L₀, h⟩ Q) :
    WS lo A n ops ({ dst := some d, op := .call { callee := .builtin .append, args := [x, y].toArray, argTypes := [t, t].toArray }, type := ty, pos := ps, after := af, guard := g } :: rest) ⟨e, D, L, h⟩ Q := by
  refine WS_sub (B ++ ((b, bx ys T) :: L₀)) (by obtain ⟨L', hp⟩ := hL; exact ⟨L', hp.trans (List.Perm.append_right _ List.perm_middle.symm)⟩) ?_
  refine R_append hx hy hB rfl (fun ha => ?_) hf hbd hb1 hzl hs1 hw hd fun v' B' h' hb hle => ?_
  · refine ⟨_, m, c, rfl, Nat.eq_of_beq_eq_true hl, .inr ⟨b, 0, rfl, at_box (j := B.length) (cs := ys) (T := T) (r := []) ha.nodup (by simp) (by simp)⟩, fun _ a ha => by injection ha with ha; subst ha; rfl⟩
  · refine WS_le hle (WS_sub (B' ++ L₀) ⟨[(b, bx ys T)], ?_⟩ (k v' B' hb))
    exact List.perm_middle.trans ((List.perm_append_comm (l₁ := [(b, bx ys T)])))
/-- .. the other owned blocks first. -/
theorem R_appendF {t el sz by' : Nat} [ht : TEl P t el sz by'] {zs : List Value} [hz : TZero P el zs] (B L₀ : OL) {x y : Operand} {v0 : Value} {used : List Value} (ys : List Value) {b m c : Nat} {T : TypeId}
    (hx : ev e x = v0) (hy : ev e y = .slice (some ⟨b, 0, none⟩) m c) (hB : Bc el sz v0 B used) (hL : Sub ((b, bx ys T) :: (B ++ L₀)) L) (hl : Nat.beq ys.length (m * sz) = true) (hf : ys.all flat = true) (hbd : (used.length + ys.length) * (16 * by') ≤ 2 ^ 47 * sz) (hb1 : used.length + ys.length ≤ 2 ^ 40)
    (hzl : Nat.beq zs.length sz = true) (hs1 : Nat.blt 0 sz = true) (hw : wantd ops e g = some true) (hd : Nat.blt d n = true)
    (k : ∀ p len cap B', Bc el sz (.slice p len cap) B' (used ++ ys) → WS lo A n ops rest ⟨upd e d (.slice p len cap), D, L₀ ++ B', h⟩ Q) :
    WS lo A n ops ({ dst := some d, op := .call { callee := .builtin .append, args := [x, y].toArray, argTypes := [t, t].toArray }, type := ty, pos := ps, after := af, guard := g } :: rest) ⟨e, D, L, h⟩ Q :=
  R_appendB B L₀ ys hx hy hB hL hl hf hbd hb1 hzl hs1 hw hd fun v' B' hb => by
    obtain ⟨p, len, cap, rfl, _⟩ := hb.len
    exact WS_perm _ List.perm_append_comm (k p len cap B' hb)
end
end Go.Lu
