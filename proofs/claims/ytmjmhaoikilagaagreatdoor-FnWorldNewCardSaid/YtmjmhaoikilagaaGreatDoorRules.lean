/-
  Rules for the operations, over the symbolic state.
-/
import Derived.Test.YtmjmhaoikilagaaGreatDoorState
set_option linter.unusedVariables false
set_option linter.unusedSimpArgs false
set_option linter.unusedSectionVars false
namespace Go.Lu

/-! ### facts on types and functions, as classes (instances by the kernel, over the loaded program) -/
def aggOf (P : Program) (t : TypeId) : Option (Bool × Nat) :=
  match P.underlying t, P.info? t with
  | some (.struct _), some i => some (true, i.size)
  | some (.array _ _), some i => some (true, i.size)
  | some _, some i => some (false, i.size)
  | _, _ => none
class TSize (P : Program) (t : TypeId) (agg : outParam Bool) (size : outParam Nat) : Prop where
  eq : aggOf P t = some (agg, size)
def zeroOf (P : Program) (t : TypeId) : Option (List Value) := (P.info? t).bind fun i => i.zero.map (·.cells.toList)
class TZero (P : Program) (t : TypeId) (zs : outParam (List Value)) : Prop where
  eq : zeroOf P t = some zs
def fldOf (P : Program) (s : TypeId) (f : Nat) : Option Nat :=
  match P.underlying s with
  | some (.struct fs) => match fs[f]? with
    | some fd => match P.info? fd.type with
      | some i => if i.size = 0 then none else some fd.offset
      | none => none
    | none => none
  | _ => none
class TFld (P : Program) (s : TypeId) (f : Nat) (off : outParam Nat) : Prop where
  eq : fldOf P s f = some off
def elOf (P : Program) (t : TypeId) : Option (TypeId × Nat × Nat) :=
  match P.underlying t with
  | some (.slice e) => (P.info? e).map fun i => (e, i.size, i.bytes)
  | _ => none
class TEl (P : Program) (t : TypeId) (elem : outParam TypeId) (size bytes : outParam Nat) : Prop where
  eq : elOf P t = some (elem, size, bytes)
def fnOf (P : Program) (f : FuncId) : Bool :=
  match P.funcs[f]? with
  | some fn => !(fn.name == "runtime.NumGoroutine") && fn.body.isSome
  | none => false
class TFun (P : Program) (f : FuncId) : Prop where
  eq : fnOf P f = true

section
variable {P : Program} {lo : Nat → Prop}

theorem wp_underlying {t : TypeId} {d : TypeDesc} (h : P.underlying t = some d) {H : LH} {Q : TypeDesc → LH → Prop} {R : Value → LH → Prop} :
    wpL P lo (underlying t) H Q R = Q d H := by
  unfold underlying
  simp only [program, wpL_bind', wpL, h]
  rfl
theorem wp_typeInfo {t : TypeId} {i : TypeInfo} (h : P.info? t = some i) {H : LH} {Q : TypeInfo → LH → Prop} {R : Value → LH → Prop} :
    wpL P lo (typeInfo t) H Q R = Q i H := by
  unfold typeInfo
  simp only [program, wpL_bind', wpL, h]
  rfl
theorem wp_sizeOf {t : TypeId} {b : Bool} {n : Nat} (h : aggOf P t = some (b, n)) {H : LH} {Q : Nat → LH → Prop} {R : Value → LH → Prop} :
    wpL P lo (sizeOf t) H Q R = Q n H := by
  unfold aggOf at h
  split at h <;> first | (cases h; done) | skip
  all_goals
    injection h with h
    injection h with h1 h2
    subst h2
    unfold sizeOf
    rw [wpL_bind', wp_typeInfo (by assumption)]
    rfl
theorem wp_isAgg {t : TypeId} {b : Bool} {n : Nat} (h : aggOf P t = some (b, n)) {H : LH} {Q : Bool → LH → Prop} {R : Value → LH → Prop} :
    wpL P lo (isAgg t) H Q R = Q b H := by
  unfold aggOf at h
  cases hu : P.underlying t with
  | none => rw [hu] at h; cases h
  | some d =>
    cases hi : P.info? t with
    | none => rw [hu, hi] at h; cases d <;> cases h
    | some i =>
      rw [hu, hi] at h
      unfold isAgg
      rw [wpL_bind', wp_underlying hu]
      cases d <;> (injection h with h; injection h with h1 h2; subst h1; rfl)
theorem wp_zero {t : TypeId} {zs : List Value} (h : zeroOf P t = some zs) : ∃ z, z.cells = zs.toArray ∧ ∀ {H : LH} {Q : Value → LH → Prop} {R : Value → LH → Prop},
    wpL P lo (zeroValue t) H Q R = Q z H := by
  unfold zeroOf at h
  cases hi : P.info? t with
  | none => rw [hi] at h; cases h
  | some i =>
    rw [hi] at h
    simp only [Option.bind_some] at h
    cases hz : i.zero with
    | none => rw [hz] at h; cases h
    | some z =>
      rw [hz] at h
      injection h with h
      refine ⟨z, by rw [← h], fun {H Q R} => ?_⟩
      unfold zeroValue
      rw [wpL_bind', wp_typeInfo hi, hz]
      rfl
theorem el_parts {t e : TypeId} {size bytes : Nat} (h : elOf P t = some (e, size, bytes)) :
    P.underlying t = some (.slice e) ∧ ∃ i, P.info? e = some i ∧ i.size = size ∧ i.bytes = bytes := by
  unfold elOf at h
  split at h
  · rename_i e' hu
    cases hi : P.info? e' with
    | none => rw [hi] at h; cases h
    | some i =>
      rw [hi] at h
      injection h with h; injection h with h1 h; injection h with h2 h3
      subst h1 h2 h3
      exact ⟨hu, i, hi, rfl, rfl⟩
  · cases h

/-! ### cells -/
theorem add_mk (b o i : Nat) : (⟨b, o, none⟩ : Addr).add i = ⟨b, o + i, none⟩ := by
  unfold Addr.add; split
  · rename_i h; subst h; rfl
  · rfl

/-- The list of values lies in the heap from the place on. -/
def At (H : LH) (b o : Nat) (vs : List Value) : Prop := ∀ i v, vs[i]? = some v → H.cell? ⟨b, o + i, none⟩ = some v

theorem At.head {H : LH} {b o : Nat} {v : Value} {vs : List Value} (h : At H b o (v :: vs)) : H.cell? ⟨b, o, none⟩ = some v := h 0 v rfl
theorem At.tail {H : LH} {b o : Nat} {v : Value} {vs : List Value} (h : At H b o (v :: vs)) : At H b (o + 1) vs := fun i x hx => by
  have := h (i + 1) x (by simpa using hx)
  rw [show o + 1 + i = o + (i + 1) by omega]; exact this
theorem At.nil {H : LH} {b o : Nat} : At H b o [] := fun i v h => by simp at h

theorem wp_loadFrom {b o : Nat} {H : LH} {R : Value → LH → Prop} : ∀ (vs : List Value) (i : Nat) (acc : Array Value) (Q : Array Value → LH → Prop), At H b (o + i) vs → Q (acc ++ vs.toArray) H →
    wpL P lo (loadCellsFrom ⟨b, o, none⟩ i vs.length acc) H Q R := by
  intro vs
  induction vs with
  | nil => intro i acc Q _ hq; simpa [loadCellsFrom, wpL_pure] using hq
  | cons v vs ih =>
    intro i acc Q ha hq
    simp only [List.length_cons, loadCellsFrom, wpL_bind', load, wpL, add_mk]
    refine ⟨trivial, v, ha.head, ih (i + 1) (acc.push v) Q ?_ ?_⟩
    · have := ha.tail; rwa [show o + i + 1 = o + (i + 1) by omega] at this
    · have e : acc ++ (v :: vs).toArray = acc.push v ++ vs.toArray := by apply Array.ext'; simp
      rw [← e]; exact hq
theorem wp_loadCells {b o : Nat} {H : LH} {R : Value → LH → Prop} {vs : List Value} {n : Nat} (hn : vs.length = n) {Q : Array Value → LH → Prop} (ha : At H b o vs) (hq : Q vs.toArray H) :
    wpL P lo (loadCells ⟨b, o, none⟩ n) H Q R := by
  subst hn
  unfold loadCells
  exact wp_loadFrom vs 0 #[] Q (by simpa using ha) (by simpa using hq)

/-- The value of a variable whose cells are these. -/
def ofCells (agg : Bool) (vs : List Value) : Value := cond agg (.agg vs.toArray) (vs.headD undef)

theorem wp_loadVar {t : TypeId} {agg : Bool} {n b o : Nat} {H : LH} {vs : List Value} (ht : aggOf P t = some (agg, n)) (hn : vs.length = n) (h1 : agg = false → n = 1) (ha : At H b o vs)
    {Q : Value → LH → Prop} {R : Value → LH → Prop} (hq : Q (ofCells agg vs) H) : wpL P lo (loadVar t ⟨b, o, none⟩) H Q R := by
  unfold loadVar
  simp only [wpL_bind', wp_isAgg ht]
  cases agg with
  | true =>
    simp only [if_true, wpL_bind', wp_sizeOf ht]
    refine wp_loadCells hn ha ?_
    exact hq
  | false =>
    have := h1 rfl
    subst this
    match vs, hn with
    | [v], _ =>
      simp only [Bool.false_eq_true, if_false, load, wpL]
      exact ⟨trivial, v, ha.head, hq⟩

/-! ### owned blocks -/
def bx (cs : List Value) (T : TypeId) : Obj := .cells cs.toArray T (0, 0)

theorem ov_get {L : OL} {h : LH} {j b : Nat} {o : Obj} (hn : (keys L).Nodup) (hj : L[j]? = some (b, o)) : ov L h b = some o := by
  induction L generalizing j with
  | nil => simp at hj
  | cons x L ih =>
    obtain ⟨c, o'⟩ := x
    cases j with
    | zero =>
      simp only [List.getElem?_cons_zero, Option.some.injEq, Prod.mk.injEq] at hj
      obtain ⟨rfl, rfl⟩ := hj
      simp [ov]
    | succ j =>
      simp only [List.getElem?_cons_succ] at hj
      simp only [keys, List.map_cons, List.nodup_cons] at hn
      have hm : b ∈ keys L := by
        have := List.mem_of_getElem? hj
        exact List.mem_map.2 ⟨_, this, rfl⟩
      have hne : b ≠ c := fun e => hn.1 (e ▸ hm)
      simp only [ov, if_neg hne]
      exact ih hn.2 hj
theorem keys_set {L : OL} {j b : Nat} {o o' : Obj} (hj : L[j]? = some (b, o)) : keys (L.set j (b, o')) = keys L := by
  unfold keys
  rw [List.map_set]
  apply List.ext_getElem?
  intro i
  rw [List.getElem?_set]
  split
  · rename_i e; subst e
    have := congrArg (Option.map (·.1)) hj
    simp only [Option.map_some] at this
    rw [List.getElem?_map]
    split
    · rw [this]
    · rename_i hl
      simp at hl
      rw [List.getElem?_eq_none hl] at hj; cases hj
  · rfl
theorem ov_set {L : OL} {h : LH} {j b : Nat} {o o' : Obj} (hn : (keys L).Nodup) (hj : L[j]? = some (b, o)) : ov (L.set j (b, o')) h = LH.set (ov L h) b o' := by
  induction L generalizing j with
  | nil => simp at hj
  | cons x L ih =>
    obtain ⟨c, p⟩ := x
    funext d
    cases j with
    | zero =>
      simp only [List.getElem?_cons_zero, Option.some.injEq, Prod.mk.injEq] at hj
      obtain ⟨rfl, rfl⟩ := hj
      simp only [List.set_cons_zero, ov, LH.set]
      split <;> rfl
    | succ j =>
      simp only [List.getElem?_cons_succ] at hj
      simp only [keys, List.map_cons, List.nodup_cons] at hn
      have hm : b ∈ keys L := by
        have := List.mem_of_getElem? hj
        exact List.mem_map.2 ⟨_, this, rfl⟩
      have hne : b ≠ c := fun e => hn.1 (e ▸ hm)
      simp only [List.set_cons_succ, ov, ih hn.2 hj, LH.set]
      by_cases h1 : d = c
      · subst h1; simp [Ne.symm hne]
      · simp [h1]
theorem Apart.set {L : OL} {h : LH} {j b : Nat} {o o' : Obj} (ha : Apart lo L h) (hj : L[j]? = some (b, o)) : Apart lo (L.set j (b, o')) h := by
  have := keys_set (o' := o') hj
  exact ⟨by rw [this]; exact ha.nodup, fun c hc => ha.out c (by rwa [this] at hc), fun c hc => ha.lo c (by rwa [this] at hc)⟩
theorem mem_keys {L : OL} {j b : Nat} {o : Obj} (hj : L[j]? = some (b, o)) : b ∈ keys L := List.mem_map.2 ⟨_, List.mem_of_getElem? hj, rfl⟩

theorem at_box {L : OL} {h : LH} {j b o : Nat} {cs vs r : List Value} {T : TypeId} (hn : (keys L).Nodup) (hj : L[j]? = some (b, bx cs T)) (hc : cs.drop o = vs ++ r) : At (ov L h) b o vs := by
  intro i v hv
  unfold LH.cell?
  simp only [ov_get hn hj, bx]
  have : cs[o + i]? = some v := by
    have := congrArg (·[i]?) hc
    simp only [List.getElem?_drop] at this
    rw [this, List.getElem?_append_left]
    · exact hv
    · exact (List.getElem?_eq_some_iff.1 hv).1
  simpa using this

def splice : List Value → Nat → List Value → List Value
  | cs, _, [] => cs
  | cs, o, v :: vs => splice (cs.set o v) (o + 1) vs
theorem length_splice (vs : List Value) : ∀ (cs : List Value) (o : Nat), (splice cs o vs).length = cs.length := by
  induction vs with
  | nil => intro cs o; rfl
  | cons v vs ih => intro cs o; simp [splice, ih]

theorem setCell_box {L : OL} {h : LH} {j b o : Nat} {cs : List Value} {T : TypeId} {v : Value} (hn : (keys L).Nodup) (hj : L[j]? = some (b, bx cs T)) :
    LH.setCell (ov L h) ⟨b, o, none⟩ v = ov (L.set j (b, bx (cs.set o v) T)) h := by
  rw [ov_set hn hj]
  funext c
  unfold LH.setCell LH.set
  by_cases e : c = b
  · subst e
    simp [ov_get hn hj, cellOf, bx]
  · simp [e]
theorem cell_box {L : OL} {h : LH} {j b o : Nat} {cs : List Value} {T : TypeId} (hn : (keys L).Nodup) (hj : L[j]? = some (b, bx cs T)) : (ov L h).cell? ⟨b, o, none⟩ = cs[o]? := by
  unfold LH.cell?
  simp [ov_get hn hj, bx]
theorem frozen_box {L : OL} {h : LH} {j b o : Nat} {cs : List Value} {T : TypeId} (hn : (keys L).Nodup) (hj : L[j]? = some (b, bx cs T)) : (ov L h).frozen? ⟨b, o, none⟩ = false := by
  unfold LH.frozen?
  simp [ov_get hn hj, bx]

theorem wp_storeCells {h : LH} {b o : Nat} {T : TypeId} {R : Value → LH → Prop} {Q : Unit → LH → Prop} {j : Nat} : ∀ (vs cs : List Value) (L : OL) (i : Nat), Apart lo L h → L[j]? = some (b, bx cs T) →
    (∀ v ∈ vs, flat v = true) → o + i + vs.length ≤ cs.length → Q () (ov (L.set j (b, bx (splice cs (o + i) vs) T)) h) → wpL P lo (storeCells ⟨b, o, none⟩ vs i) (ov L h) Q R := by
  intro vs
  induction vs with
  | nil =>
    intro cs L i ha hj _ _ hq
    simp only [storeCells, wpL_pure]
    have : L.set j (b, bx (splice cs (o + i) []) T) = L := by
      simp only [splice]
      apply List.ext_getElem?
      intro k
      rw [List.getElem?_set]
      split
      · rename_i e; subst e
        split
        · rw [hj]
        · rename_i hl
          simp at hl
          rw [List.getElem?_eq_none hl] at hj; cases hj
      · rfl
    rwa [this] at hq
  | cons v vs ih =>
    intro cs L i ha hj hf hl hq
    simp only [storeCells, wpL_bind', store, wpL, add_mk]
    simp only [List.length_cons] at hl
    refine ⟨trivial, hf v (by simp), ha.lo b (mem_keys hj), ?_, frozen_box ha.nodup hj, ?_⟩
    · rw [cell_box ha.nodup hj]
      exact ⟨_, List.getElem?_eq_getElem (by omega)⟩
    · rw [setCell_box ha.nodup hj]
      have hj' : (L.set j (b, bx (cs.set (o + i) v) T))[j]? = some (b, bx (cs.set (o + i) v) T) := by
        rw [List.getElem?_set_self]
        exact (List.getElem?_eq_some_iff.1 hj).1
      refine ih (cs.set (o + i) v) _ (i + 1) (ha.set hj) hj' (fun x hx => hf x (by simp [hx])) (by simp; omega) ?_
      rw [List.set_set]
      have : splice (cs.set (o + i) v) (o + (i + 1)) vs = splice cs (o + i) (v :: vs) := by simp only [splice]; rfl
      rw [this]
      exact hq

theorem wp_storeVar {t : TypeId} {agg : Bool} {n : Nat} {h : LH} {b o j : Nat} {T : TypeId} {cs : List Value} {L : OL} {v : Value} {vs : List Value} (ht : aggOf P t = some (agg, n)) (hv : v.cells = vs.toArray) (hn : vs.length = n)
    (hf : vs.all flat = true) (ha : Apart lo L h) (hj : L[j]? = some (b, bx cs T)) (hl : o + vs.length ≤ cs.length) {Q : Unit → LH → Prop} {R : Value → LH → Prop}
    (hq : Q () (ov (L.set j (b, bx (splice cs o vs) T)) h)) : wpL P lo (storeVar t ⟨b, o, none⟩ v) (ov L h) Q R := by
  unfold storeVar
  simp only [wpL_bind', wp_sizeOf ht, hv]
  have : ¬ vs.toArray.size ≠ n := by simp [hn]
  rw [if_neg this]
  exact wp_storeCells vs cs L 0 ha hj (by simpa using hf) (by omega) (by simpa using hq)

theorem ov_cons_set {L : OL} {h : LH} {r : Nat} {o : Obj} : LH.set (ov L h) r o = ov ((r, o) :: L) h := rfl
theorem Apart.cons {L : OL} {h : LH} {r : Nat} {o : Obj} (ha : Apart lo L h) (hr : ov L h r = none) (hlo : ¬ lo r) : Apart lo ((r, o) :: L) h := by
  have hk : r ∉ keys L := fun hk => ov_key hk hr
  rw [ov_out hk] at hr
  refine ⟨?_, ?_, ?_⟩
  · simp only [keys, List.map_cons, List.nodup_cons]; exact ⟨hk, ha.nodup⟩
  · intro b hb
    simp only [keys, List.map_cons, List.mem_cons] at hb
    rcases hb with rfl | hb
    · exact hr
    · exact ha.out b hb
  · intro b hb
    simp only [keys, List.map_cons, List.mem_cons] at hb
    rcases hb with rfl | hb
    · exact hlo
    · exact ha.lo b hb

theorem wp_newRow' {T : TypeId} {cs : List Value} {L : OL} {h : LH} (ha : Apart lo L h) {Q : Addr → LH → Prop} {R : Value → LH → Prop}
    (hq : ∀ r, ov L h r = none → Apart lo ((r, bx cs T) :: L) h → Q ⟨r, 0, none⟩ (ov ((r, bx cs T) :: L) h)) : wpL P lo (newRow T cs.toArray) (ov L h) Q R := by
  unfold newRow
  simp only [newObj, wpL_bind', wpL]
  intro r hr hlo
  exact hq r hr (ha.cons hr hlo)
theorem wp_newRow {T : TypeId} {cs : List Value} {L : OL} {h : LH} (ha : Apart lo L h) {Q : Addr → LH → Prop} {R : Value → LH → Prop}
    (hq : ∀ r, Apart lo ((r, bx cs T) :: L) h → Q ⟨r, 0, none⟩ (ov ((r, bx cs T) :: L) h)) : wpL P lo (newRow T cs.toArray) (ov L h) Q R := by
  unfold newRow
  simp only [newObj, wpL_bind', wpL]
  intro r hr hlo
  exact hq r (ha.cons hr hlo)

/-! ### owned blocks, put together and apart -/
theorem ov_append (L₁ L₂ : OL) (h : LH) : ov (L₁ ++ L₂) h = ov L₁ (ov L₂ h) := by
  induction L₁ with
  | nil => rfl
  | cons x L ih => obtain ⟨b, o⟩ := x; simp only [List.cons_append, ov, ih]
theorem ov_perm {L₁ L₂ : OL} (hp : L₁.Perm L₂) (h : LH) (hn : (keys L₁).Nodup) : ov L₁ h = ov L₂ h := by
  induction hp with
  | nil => rfl
  | cons x _ ih =>
    obtain ⟨b, o⟩ := x
    simp only [keys, List.map_cons, List.nodup_cons] at hn
    simp only [ov, ih hn.2]
  | swap x y l =>
    obtain ⟨b, o⟩ := x; obtain ⟨c, p⟩ := y
    simp only [keys, List.map_cons, List.nodup_cons, List.mem_cons, not_or] at hn
    funext d
    simp only [ov]
    by_cases h1 : d = c
    · subst h1; simp [hn.1.1]
    · simp [h1]
  | trans h1 _ ih1 ih2 =>
    rw [ih1 hn, ih2]
    exact (h1.map _).nodup_iff.1 hn
theorem Apart.perm {L₁ L₂ : OL} {h : LH} (hp : L₁.Perm L₂) (ha : Apart lo L₁ h) : Apart lo L₂ h :=
  ⟨((hp.map _).nodup_iff).1 ha.nodup, fun b hb => ha.out b (((hp.map _).mem_iff).2 hb), fun b hb => ha.lo b (((hp.map _).mem_iff).2 hb)⟩
theorem keys_append (L₁ L₂ : OL) : keys (L₁ ++ L₂) = keys L₁ ++ keys L₂ := by simp [keys]
theorem Apart.left {L₁ L₂ : OL} {h : LH} (ha : Apart lo (L₁ ++ L₂) h) : Apart lo L₁ (ov L₂ h) := by
  have hn := ha.nodup
  rw [keys_append, List.nodup_append] at hn
  refine ⟨hn.1, fun b hb => ?_, fun b hb => ha.lo b (by rw [keys_append]; simp [hb])⟩
  rw [ov_out]
  · exact ha.out b (by rw [keys_append]; simp [hb])
  · intro hk; exact hn.2.2 b hb b hk rfl
theorem Apart.right {L₁ L₂ : OL} {h : LH} (ha : Apart lo (L₁ ++ L₂) h) : Apart lo L₂ h := by
  have hn := ha.nodup
  rw [keys_append, List.nodup_append] at hn
  exact ⟨hn.2.1, fun b hb => ha.out b (by rw [keys_append]; simp [hb]), fun b hb => ha.lo b (by rw [keys_append]; simp [hb])⟩
theorem Apart.join {L₁ L₂ : OL} {h : LH} (h1 : Apart lo L₁ h) (h2 : Apart lo L₂ (ov L₁ h)) : Apart lo (L₁ ++ L₂) h := by
  have dis : ∀ b ∈ keys L₂, b ∉ keys L₁ := fun b hb hk => ov_key hk (h2.out b hb)
  refine ⟨?_, ?_, ?_⟩
  · rw [keys_append, List.nodup_append]
    exact ⟨h1.nodup, h2.nodup, fun a ha b hb e => dis b hb (e ▸ ha)⟩
  · intro b hb
    rw [keys_append, List.mem_append] at hb
    rcases hb with hb | hb
    · exact h1.out b hb
    · have := h2.out b hb; rwa [ov_out (dis b hb)] at this
  · intro b hb
    rw [keys_append, List.mem_append] at hb
    rcases hb with hb | hb
    · exact h1.lo b hb
    · exact h2.lo b hb
theorem ov_comm {L₁ L₂ : OL} {h : LH} (ha : Apart lo (L₁ ++ L₂) h) : ov L₁ (ov L₂ h) = ov L₂ (ov L₁ h) := by
  rw [← ov_append, ← ov_append]
  exact ov_perm List.perm_append_comm h ha.nodup
end
end Go.Lu
