/-
  append: a buffer of the function's own, and what is appended to it.
-/
import Derived.Test.YtmjmhaoikilagaaGreatDoorDraw
set_option linter.unusedVariables false
set_option linter.unusedSimpArgs false
set_option linter.unusedSectionVars false
namespace Go.Lu

/-- A slice value that owns its block (B: none or one); 'used': the cells up to its length. -/
def Bc (T : TypeId) (sz : Nat) (v : Value) (B : OL) (used : List Value) : Prop :=
  (v = .slice none 0 0 ∧ B = [] ∧ used = []) ∨
  ∃ b len cap cs, v = .slice (some ⟨b, 0, none⟩) len cap ∧ B = [(b, bx cs T)] ∧ cs.length = cap * sz ∧ len ≤ cap ∧ used.length = len * sz ∧ cs.take (len * sz) = used

theorem Bc.len {T : TypeId} {sz : Nat} {v : Value} {B : OL} {used : List Value} (hb : Bc T sz v B used) : ∃ p len cap, v = .slice p len cap ∧ used.length = len * sz := by
  rcases hb with ⟨rfl, rfl, rfl⟩ | ⟨b, len, cap, cs, rfl, rfl, h1, h2, h3, h4⟩
  · exact ⟨none, 0, 0, rfl, by simp⟩
  · exact ⟨_, len, cap, rfl, h3⟩
theorem Bc.nil (T : TypeId) (sz : Nat) : Bc T sz (.slice none 0 0) [] [] := .inl ⟨rfl, rfl, rfl⟩
theorem Bc.full {T : TypeId} {sz b len : Nat} {cs : List Value} (h : cs.length = len * sz) : Bc T sz (.slice (some ⟨b, 0, none⟩) len len) [(b, bx cs T)] cs :=
  .inr ⟨b, len, len, cs, rfl, rfl, h, Nat.le_refl _, h, by rw [← h]; simp⟩

/-- What is appended: a slice whose cells lie in the heap. -/
def Src (H : LH) (sz : Nat) (v : Value) (ys : List Value) : Prop := ∃ p m c, v = .slice p m c ∧ ys.length = m * sz ∧ (m = 0 ∨ ∃ b o, p = some ⟨b, o, none⟩ ∧ At H b o ys) ∧ (m = 0 → ∀ a, p = some a → a.spot = none)

theorem nextcap_le (need cap : Nat) (h : cap < need) : Builtin.nextslicecap need cap ≤ 16 * need := by
  unfold Builtin.nextslicecap
  split
  · omega
  · split
    · omega
    · have step : ∀ c, 256 ≤ c → c + (c + 768) / 4 ≤ 2 * c := fun c hc => by omega
      simp only [Builtin.growBy]
      have h0 : 256 ≤ cap := by omega
      have s1 := step cap h0
      have s2 := step (cap + (cap + 768) / 4) (by omega)
      generalize cap + (cap + 768) / 4 = c1 at *
      have s3 := step (c1 + (c1 + 768) / 4) (by omega)
      generalize c1 + (c1 + 768) / 4 = c2 at *
      have s4 := step (c2 + (c2 + 768) / 4) (by omega)
      generalize c2 + (c2 + 768) / 4 = c3 at *
      split
      · omega
      · split
        · omega
        · split
          · omega
          · split <;> omega

section
variable {P : Program} {lo : Nat → Prop} {A : (Goroutine → LH → Prop) → Prop}

theorem wp_firstCells {H : LH} {sz m : Nat} {v : Value} {ys : List Value} {R : Value → LH → Prop} {Q : Array Value → LH → Prop} {p : Option Addr} {c : Nat} (hv : v = .slice p m c) (hl : ys.length = m * sz) (hs : m = 0 ∨ ∃ b o, p = some ⟨b, o, none⟩ ∧ At H b o ys) (hq : Q ys.toArray H) :
    wpL P lo (Builtin.firstCells sz m v) H Q R := by
  subst hv
  rcases hs with rfl | ⟨b, o, rfl, ha⟩
  · have hy : ys = [] := by simpa using hl
    subst hy
    cases p with
    | none => exact hq
    | some a =>
      simp only [Builtin.firstCells, Nat.zero_mul, loadCells, loadCellsFrom, wpL_pure]
      exact hq
  · simp only [Builtin.firstCells]
    exact wp_loadCells hl ha hq

theorem zeroCells_eq (zs : List Value) (n : Nat) (hz : 0 < zs.length) : Builtin.zeroCells zs.toArray n = (List.flatten (List.replicate n zs)).toArray := by
  unfold Builtin.zeroCells
  apply Array.ext_getElem?
  intro i
  by_cases hi : i < n * zs.length
  · have hmod : i % zs.length < zs.length := Nat.mod_lt _ hz
    have hfl : (List.flatten (List.replicate n zs))[i]? = zs[i % zs.length]? := by
      induction n generalizing i with
      | zero => simp at hi
      | succ n ih =>
        simp only [List.replicate_succ, List.flatten_cons]
        by_cases h1 : i < zs.length
        · rw [List.getElem?_append_left h1, Nat.mod_eq_of_lt h1]
        · rw [List.getElem?_append_right (by omega)]
          have := ih (i - zs.length) (by rw [Nat.succ_mul] at hi; omega) (Nat.mod_lt _ hz)
          rw [this, ← Nat.mod_eq_sub_mod (by omega)]
    simp only [List.getElem?_toArray, hfl]
    simp [hi, List.getElem?_eq_getElem hmod]
  · have hi' : n * zs.length ≤ i := by omega
    rw [Array.getElem?_eq_none (by simpa using hi'), Array.getElem?_eq_none (by simpa using hi')]

theorem Bc.apart_ov {T : TypeId} {sz : Nat} {v : Value} {B : OL} {used : List Value} (hb : Bc T sz v B used) {L₀ : OL} {h : LH} (ha : Apart lo (B ++ L₀) h) {p : Option Addr} {len cap : Nat} (hv : v = .slice p len cap) : used.length = len * sz ∧ (len = 0 ∨ ∃ b o, p = some ⟨b, o, none⟩ ∧ At (ov (B ++ L₀) h) b o used) := by
  rcases hb with ⟨rfl, rfl, rfl⟩ | ⟨b, len', cap', cs, rfl, rfl, h1, h2, h3, h4⟩
  · injection hv with e1 e2 e3
    subst e1 e2 e3
    exact ⟨by simp, .inl rfl⟩
  · injection hv with e1 e2 e3
    subst e1 e2 e3
    refine ⟨h3, .inr ⟨b, 0, rfl, ?_⟩⟩
    refine at_box (j := 0) (cs := cs) (r := cs.drop (len' * sz)) (T := T) ha.nodup rfl ?_
    rw [← h4]; simp

theorem splice_take (vs : List Value) : ∀ (cs : List Value) (o : Nat), o + vs.length ≤ cs.length → (splice cs o vs).take (o + vs.length) = cs.take o ++ vs := by
  induction vs with
  | nil => intro cs o h; simp [splice]
  | cons v vs ih =>
    intro cs o h
    simp only [List.length_cons] at h ⊢
    simp only [splice]
    have := ih (cs.set o v) (o + 1) (by simp; omega)
    rw [show o + (vs.length + 1) = o + 1 + vs.length by omega, this]
    have : (cs.set o v).take (o + 1) = cs.take o ++ [v] := by
      apply List.ext_getElem?
      intro i
      simp only [List.getElem?_take, List.getElem?_append, List.length_take, List.getElem?_set]
      by_cases h1 : i < o
      · simp [h1, show i < o + 1 by omega, show i < cs.length by omega, show ¬ o = i by omega]
        omega
      · by_cases h2 : i = o
        · subst h2; simp [show i < cs.length by omega, show min i cs.length = i by omega]
        · simp [show ¬ i < o + 1 by omega, show ¬ i < o by omega, show min o cs.length = o by omega]
          omega
    rw [this]
    simp

/-- append(s, t...): the buffer with the cells behind it. -/
theorem X_append {t el sz by' : Nat} [ht : TEl P t el sz by'] {zs : List Value} [hz : TZero P el zs] {e : Env} {L L₀ B : OL} {h : LH} {x y : Operand} {v0 v1 : Value} {used ys : List Value}
    {dd : Option Nat} {ty : TypeId} {ps : String} {af : Array Edge} {g : Option (Nat × Bool)}
    (hx : ev e x = v0) (hy : ev e y = v1) (hB : Bc el sz v0 B used) (hL : L = B ++ L₀) (hS : Apart lo L h → Src (ov L h) sz v1 ys) (hf : ys.all flat = true) (hzl : Nat.beq zs.length sz = true) (hs1 : Nat.blt 0 sz = true) (hbd : (used.length + ys.length) * (16 * by') ≤ 2 ^ 47 * sz) (hb1 : used.length + ys.length ≤ 2 ^ 40) :
    Ex P lo A e L h { dst := dd, op := .call { callee := .builtin .append, args := [x, y].toArray, argTypes := [t, t].toArray }, type := ty, pos := ps, after := af, guard := g }
      (fun v L' h' => ∃ B', Bc el sz v B' (used ++ ys) ∧ L' = B' ++ L₀ ∧ LE h h' ∧ (h' = h ∨ h' = ov B h) ∧ (∀ p l, v0 = .slice p l 0 → LE (ov L h) (ov L' h'))) := by
  intro ha
  obtain ⟨hu, inf, hinf, hsz, hby⟩ := el_parts ht.eq
  have hs : ∀ {H : LH} {Q : Nat → LH → Prop} {R : Value → LH → Prop}, wpL P lo (sizeOf el) H Q R = Q sz H := by
    intro H Q R; unfold sizeOf; rw [wpL_bind', wp_typeInfo hinf]; rw [← hsz]; rfl
  obtain ⟨z, hzc, hzw⟩ := wp_zero (P := P) (lo := lo) hz.eq
  rw [Nat.beq_eq] at hzl
  rw [Nat.blt_eq] at hs1
  obtain ⟨p1, m, c1, rfl, hyl, hsrc, _⟩ := hS ha
  subst hL
  obtain ⟨p0, len, cap, rfl, hul⟩ := hB.len
  obtain ⟨_, hold⟩ := hB.apart_ov ha rfl
  have hneed : (used.length + ys.length) = (len + m) * sz := by rw [hul, hyl, Nat.add_mul]
  have hbd' : (len + m) * (16 * by') ≤ 2 ^ 47 := by
    rw [hneed] at hbd
    have : sz * ((len + m) * (16 * by')) ≤ sz * 2 ^ 47 := by
      rw [show sz * ((len + m) * (16 * by')) = (len + m) * sz * (16 * by') by rw [Nat.mul_comm sz, Nat.mul_assoc, Nat.mul_comm _ sz, ← Nat.mul_assoc], Nat.mul_comm sz]
      exact hbd
    exact Nat.le_of_mul_le_mul_left this hs1
  have hb2 : len + m ≤ 2 ^ 40 := by
    have : len + m ≤ (len + m) * sz := Nat.le_mul_of_pos_right _ hs1
    omega
  simp only [execOp, resolve, wpL_bind', wpL_pure, invoke, builtin, Builtin.append_]
  have hargs : Array.map (ev e) [x, y].toArray = #[.slice p0 len cap, .slice p1 m c1] := by simp [hx, hy]
  rw [hargs]
  simp only [List.getElem?_toArray, List.getElem?_cons_zero, List.getElem?_cons_succ, wpL_bind', wp_underlying hu, hs, wpL_pure]
  simp only [Bool.false_eq_true, if_false, Builtin.lenOf, wpL_pure, Bool.not_false, if_true]
  rw [wpL_bind', wpL_pure]
  by_cases hfit : len + m ≤ cap
  · -- there is room
    rw [if_pos hfit]
    simp only [wpL_bind']
    refine wp_firstCells rfl hyl hsrc ?_
    rcases hB with ⟨hv, rfl, rfl⟩ | ⟨b, len', cap', cs, hv, rfl, h1, h2, h3, h4⟩
    · injection hv with e1 e2 e3
      subst e1 e2 e3
      have hm : m = 0 := by omega
      subst hm
      have hy0 : ys = [] := by simpa using hyl
      subst hy0
      simp only [wpL_pure]
      exact ⟨L₀, h, rfl, ha, [], .inl ⟨rfl, rfl, rfl⟩, rfl, LE.refl _, .inl rfl, fun _ _ _ => LE.refl _⟩
    · injection hv with e1 e2 e3
      subst e1 e2 e3
      simp only [add_mk, Nat.zero_add, wpL_bind']
      have hcl : len * sz + ys.length ≤ cs.length := by
        rw [h1, hyl, ← Nat.add_mul]; exact Nat.mul_le_mul_right _ hfit
      refine wp_storeCells ys cs _ 0 ha (j := 0) rfl (by simpa using hf) (by simpa using hcl) ?_
      simp only [wpL_pure, List.cons_append, List.nil_append, List.set_cons_zero, Nat.add_zero]
      refine ⟨(b, bx (splice cs (len * sz) ys) el) :: L₀, h, rfl, ha.set (j := 0) rfl, [(b, bx (splice cs (len * sz) ys) el)], .inr ⟨b, len + m, cap, _, rfl, rfl, by rw [length_splice]; exact h1, hfit, by simp [hul, hyl, Nat.add_mul], ?_⟩, rfl, LE.refl _, .inl rfl, fun p l e => ?_⟩
      · have := splice_take ys cs (len * sz) hcl
        rw [hyl, ← Nat.add_mul] at this
        rw [this, h4]
      · injection e with _ _ e
        have hm : m = 0 := by omega
        subst hm
        have hy0 : ys = [] := by simpa using hyl
        subst hy0
        exact LE.refl _
  · -- it grows
    rw [if_neg hfit]
    have hgt : cap < len + m := by omega
    have hnc := nextcap_le (len + m) cap hgt
    have hti : ∀ {H : LH} {Q : TypeInfo → LH → Prop} {R : Value → LH → Prop}, wpL P lo (typeInfo el) H Q R = Q inf H := fun {H Q R} => wp_typeInfo hinf
    have e1 : ¬ ((((len + m : Nat) : Int) > IntKind.i64.max) ∧ (False ∨ inf.bytes = 0)) := by
      intro hh
      have : (IntKind.i64.max : Int) = 9223372036854775807 := by decide
      rw [this] at hh
      omega
    have e2 : ¬ (Builtin.nextslicecap (len + m) cap * inf.bytes > 2 ^ 48) := by
      rw [hby]
      have : Builtin.nextslicecap (len + m) cap * by' ≤ 16 * (len + m) * by' := Nat.mul_le_mul_right _ hnc
      have : 16 * (len + m) * by' = (len + m) * (16 * by') := by rw [Nat.mul_comm 16, Nat.mul_assoc]
      omega
    rw [wpL_bind', hti, if_neg e1, wpL_bind', hti, if_neg e2, wpL_bind']
    intro newCap hans
    have hnew : len + m ≤ newCap := by
      unfold Ans at hans
      simp only [Question.forced, Bool.false_eq_true, if_false, Question.cut] at hans
      obtain ⟨t', rfl⟩ := hans
      omega
    have rest : wpL P lo (do
          let old ← Builtin.firstCells sz len (.slice p0 len cap)
          let new ← Builtin.firstCells sz m (.slice p1 m c1)
          let rest := Builtin.zeroCells (← zeroValue el).cells (newCap - (len + m))
          pure (Value.slice (some (← newRow el (old ++ new ++ rest))) (len + m) newCap) : Sem Value) (ov (B ++ L₀) h)
        (fun a h' => BehX P lo A (fun v L' h' => ∃ B', Bc el sz v B' (used ++ ys) ∧ L' = B' ++ L₀ ∧ LE h h' ∧ (h' = h ∨ h' = ov B h) ∧ (∀ p l, Value.slice p0 len cap = .slice p l 0 → LE (ov (B ++ L₀) h) (ov L' h'))) (Next.value a) h') (fun _ _ => False) := by
      simp only [wpL_bind']
      refine wp_firstCells rfl hul hold ?_
      refine wp_firstCells rfl hyl hsrc ?_
      simp only [hzw, hzc, zeroCells_eq zs _ (by omega), List.append_toArray]
      refine wp_newRow ha fun r hr => ?_
      simp only [wpL_pure]
      have hperm : ((r, bx (used ++ ys ++ List.flatten (List.replicate (newCap - (len + m)) zs)) el) :: (B ++ L₀)).Perm ((r, bx (used ++ ys ++ List.flatten (List.replicate (newCap - (len + m)) zs)) el) :: L₀ ++ B) :=
        List.Perm.cons _ List.perm_append_comm
      have hr' := hr.perm hperm
      refine ⟨(r, bx (used ++ ys ++ List.flatten (List.replicate (newCap - (len + m)) zs)) el) :: L₀, ov B h, ?_, hr'.left, [(r, bx (used ++ ys ++ List.flatten (List.replicate (newCap - (len + m)) zs)) el)], .inr ⟨r, len + m, newCap, _, rfl, rfl, ?_, hnew, ?_, ?_⟩, rfl, ?_, .inr rfl, ?_⟩
      · rw [← ov_append]
        exact ov_perm hperm h hr.nodup
      · simp only [List.length_append, List.length_flatten, List.map_replicate, List.sum_replicate_nat, hul, hyl, hzl]
        rw [← Nat.add_mul, ← Nat.add_mul]
        congr 1; omega
      · simp [hul, hyl, Nat.add_mul]
      · rw [List.take_append_of_le_length (by simp [hul, hyl, Nat.add_mul])]
        apply List.take_of_length_le
        simp [hul, hyl, Nat.add_mul]
      · exact LE.ov ((ha.perm List.perm_append_comm).right)
      · intro _ _ _ c o hc
        rw [← ov_append, ← ov_perm hperm h hr.nodup]
        have hne : c ≠ r := by
          rintro rfl
          have hk : c ∉ keys (B ++ L₀) := by have := hr.nodup; simp only [keys, List.map_cons, List.nodup_cons] at this; exact this.1
          rw [ov_out hk, hr.out c (by simp [keys])] at hc
          cases hc
        simp only [ov, if_neg hne]
        exact hc
    rw [show ∀ (Q : Nat → LH → Prop) (R : Value → LH → Prop), wpL P lo (Sem.pure newCap) (ov (B ++ L₀) h) Q R = Q newCap (ov (B ++ L₀) h) from fun _ _ => rfl, wpL_bind', hti, wpL_bind']
    unfold askRoom
    split
    · exact ⟨.inl rfl, rest⟩
    · exact rest
end
end Go.Lu
