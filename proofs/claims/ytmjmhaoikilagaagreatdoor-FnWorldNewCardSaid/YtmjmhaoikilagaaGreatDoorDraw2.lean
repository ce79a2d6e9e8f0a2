/-
  Regions that draw their order: the operations that may change what stands, each where it alone is ready.
-/
import Derived.Test.YtmjmhaoikilagaaGreatDoorOps3
import Derived.Test.YtmjmhaoikilagaaGreatDoorDraw
set_option linter.unusedVariables false
set_option linter.unusedSimpArgs false
set_option linter.unusedSectionVars false
namespace Go.Lu

section
variable {P : Program} {main : Bool} {lo : Nat → Prop} {A : (Goroutine → LH → Prop) → Prop} {n : Nat} {V : Nat → Prop}
variable {ops : Array Oper} {mods : Nat → Bool} {rem : List Nat} {e : Env} {D : List Deferred} {L : OL} {h : LH} {Q : St → Prop}
variable {d : Nat} {ty : TypeId} {ps : String} {af : Array Edge} {g : Option (Nat × Bool)}

theorem Ex.perm {o : Oper} {K : Value → OL → LH → Prop} {L' : OL} (hp : L.Perm L') (x : Ex P lo A e L' h o K) : Ex P lo A e L h o K := fun ha => by
  rw [ov_perm hp h ha.nodup]
  exact x (ha.perm hp)

theorem Ex.out_perm {o : Oper} {K K' : Value → OL → LH → Prop} (x : Ex P lo A e L h o K) (hk : ∀ v L' h', K v L' h' → ∃ L'', L'.Perm L'' ∧ K' v L'' h') : Ex P lo A e L h o K' := fun ha => by
  refine wpL_mono _ _ _ _ _ _ ?_ (fun _ _ y => y) (x ha)
  intro nx H y
  have key : ∀ v H, (∃ L h, H = ov L h ∧ Apart lo L h ∧ K v L h) → ∃ L h, H = ov L h ∧ Apart lo L h ∧ K' v L h := by
    rintro v H ⟨L', h', rfl, hb, hv⟩
    obtain ⟨L'', hp, hv'⟩ := hk v L' h' hv
    exact ⟨L'', h', ov_perm hp h' hb.nodup, hb.perm hp, hv'⟩
  cases nx <;> first | exact y.elim | skip
  case value v => exact key v H y
  case skip => exact key undef H y
  case enter f args =>
    simp only [BehX] at y ⊢
    refine FnE.mono y fun r H' z => ?_
    cases r with
    | returned v => exact key v H' z
    | panicked ch => exact z.elim
theorem WL_ex (i : Nat) (rem' : List Nat) {o : Oper} {K : Value → OL → LH → Prop} (ho : ops.toList[i]? = some o) (hrs : readyR ops rem = [i]) (hrem : rem.erase i = rem') (x : Ex P lo A e L h o K) (hw : wantd ops e o.guard = some true)
    (k : ∀ v L' h', K v L' h' → (mods i = true ∨ (Apart lo L h → Apart lo L' h' → LEV V (ov L h) (ov L' h'))) ∧ WL P lo A V ops mods rem' ⟨putE e o.dst v, D, L', h'⟩ Q) : WL P lo A V ops mods rem ⟨e, D, L, h⟩ Q :=
  WL_sole i rem' ho hrs hrem (SI_ex x hw k)

section
variable [hA : Adm P main lo A]
include hA
theorem WL_callP (i : Nat) (rem' : List Nat) {dd : Option Nat} {f : FuncId} [hf : TFun P f] {fo : Operand} {as : List Operand} {ats : Array TypeId} {first cap args : List Value} {K : Value → LH → Prop}
    (ho : ops.toList[i]? = some { dst := dd, op := .call { callee := .value fo, args := as.toArray, argTypes := ats }, type := ty, pos := ps, after := af, guard := g }) (hrs : readyR ops rem = [i]) (hrem : rem.erase i = rem')
    (c : Fn P A f args.toArray h (fun v h' => K v h' ∧ h' = h)) (hfo : ev e fo = .func (.func f) first.toArray cap.toArray) (ha : first ++ evs e as ++ cap = args) (hw : wantd ops e g = some true)
    (k : ∀ v h', K v h' ∧ h' = h → WL P lo A V ops mods rem' ⟨putE e dd v, D, L, h'⟩ Q) : WL P lo A V ops mods rem ⟨e, D, L, h⟩ Q :=
  WL_ex i rem' ho hrs hrem (X_call c hfo ha) hw fun v L' h' hk => by
    obtain ⟨rfl, hk⟩ := hk
    exact ⟨.inr fun _ _ => by rw [hk.2]; exact (LE.refl _).toV, k v h' hk⟩
theorem WL_callD (i : Nat) (rem' : List Nat) {dd : Option Nat} {f : FuncId} [hf : TFun P f] {fo : Operand} {as : List Operand} {ats : Array TypeId} {first cap args : List Value} {K : Value → LH → Prop}
    (ho : ops.toList[i]? = some { dst := dd, op := .call { callee := .value fo, args := as.toArray, argTypes := ats }, type := ty, pos := ps, after := af, guard := g }) (hrs : readyR ops rem = [i]) (hrem : rem.erase i = rem')
    (c : Fn P A f args.toArray h (fun v h' => K v h' ∧ LE h h')) (hfo : ev e fo = .func (.func f) first.toArray cap.toArray) (ha : first ++ evs e as ++ cap = args) (hw : wantd ops e g = some true)
    (k : ∀ v h', K v h' ∧ LE h h' → WL P lo A V ops mods rem' ⟨putE e dd v, D, L, h'⟩ Q) : WL P lo A V ops mods rem ⟨e, D, L, h⟩ Q :=
  WL_ex i rem' ho hrs hrem (X_call c hfo ha) hw fun v L' h' hk => by
    obtain ⟨rfl, hk⟩ := hk
    exact ⟨.inr fun _ _ => (LE_ov hk.2).toV, k v h' hk⟩
/- with owned blocks handed on: the operation is among those that may change what stands -/
theorem WL_callO (L₁ L₂ : OL) (i : Nat) (rem' : List Nat) {dd : Option Nat} {f : FuncId} [hf : TFun P f] {fo : Operand} {as : List Operand} {ats : Array TypeId} {first cap args : List Value} {K : Value → OL → LH → Prop}
    (ho : ops.toList[i]? = some { dst := dd, op := .call { callee := .value fo, args := as.toArray, argTypes := ats }, type := ty, pos := ps, after := af, guard := g }) (hrs : readyR ops rem = [i]) (hrem : rem.erase i = rem') (hm : mods i = true)
    (c : FnO P lo A f args L₁ h K) (hp : L.Perm (L₁ ++ L₂)) (hfo : ev e fo = .func (.func f) first.toArray cap.toArray) (ha : first ++ evs e as ++ cap = args) (hw : wantd ops e g = some true)
    (k : ∀ v L' h', K v L' h' → WL P lo A V ops mods rem' ⟨putE e dd v, D, L' ++ L₂, h'⟩ Q) : WL P lo A V ops mods rem ⟨e, D, L, h⟩ Q :=
  WL_ex i rem' ho hrs hrem (X_callO L₁ L₂ c hp hfo ha) hw fun v L' h' hk => by
    obtain ⟨L₃, rfl, hk⟩ := hk
    exact ⟨.inl hm, k v L₃ h' hk⟩
/- with the blocks of V handed on: what comes back may be more -/
theorem WL_callV (j : Nat) {r : Nat} {ob : Obj} {L₂ : OL} (i : Nat) (rem' : List Nat) {dd : Option Nat} {f : FuncId} [hf : TFun P f] {fo : Operand} {as : List Operand} {ats : Array TypeId} {first cap args : List Value} {K : Value → OL → LH → Prop} (hj : L[j]? = some (r, ob)) (hV : V = fun b => b = r) (hL : L.eraseIdx j = L₂)
    (ho : ops.toList[i]? = some { dst := dd, op := .call { callee := .value fo, args := as.toArray, argTypes := ats }, type := ty, pos := ps, after := af, guard := g }) (hrs : readyR ops rem = [i]) (hrem : rem.erase i = rem')
    (c : FnO P lo A f args [(r, ob)] h (fun v L' h' => K v L' h' ∧ LE h h')) (hfo : ev e fo = .func (.func f) first.toArray cap.toArray) (ha : first ++ evs e as ++ cap = args) (hw : wantd ops e g = some true)
    (k : ∀ v L' h', K v L' h' ∧ LE h h' → WL P lo A V ops mods rem' ⟨putE e dd v, D, L' ++ L₂, h'⟩ Q) : WL P lo A V ops mods rem ⟨e, D, L, h⟩ Q :=
  have hp : L.Perm ([(r, ob)] ++ L₂) := by subst hL; exact permJ hj
  WL_ex i rem' ho hrs hrem (X_callO [(r, ob)] L₂ c hp hfo ha) hw fun v L' h' hk => by
    obtain ⟨L₃, rfl, hk⟩ := hk
    refine ⟨.inr fun a1 a2 => ?_, k v L₃ h' hk⟩
    subst hV
    intro b o hb hbo
    rw [ov_perm hp h a1.nodup] at hbo
    simp only [List.singleton_append, ov, if_neg hb] at hbo
    by_cases hc : b ∈ keys L₂
    · have h3 : b ∉ keys L₃ := fun h3 => by
        have hn := a2.nodup
        rw [keys_append] at hn
        exact (List.nodup_append.1 hn).2.2 b h3 b hc rfl
      rw [ov_append, ov_out h3, ← ov_in_eq hc]
      exact hbo
    · rw [ov_out hc] at hbo
      have hb' := hk.2 b o hbo
      rw [ov_out]
      · exact hb'
      · intro hk2; rw [a2.out b hk2] at hb'; cases hb'
/- no block handed on: what comes back is more -/
theorem WL_callN (i : Nat) (rem' : List Nat) {dd : Option Nat} {f : FuncId} [hf : TFun P f] {fo : Operand} {as : List Operand} {ats : Array TypeId} {first cap args : List Value} {K : Value → OL → LH → Prop}
    (ho : ops.toList[i]? = some { dst := dd, op := .call { callee := .value fo, args := as.toArray, argTypes := ats }, type := ty, pos := ps, after := af, guard := g }) (hrs : readyR ops rem = [i]) (hrem : rem.erase i = rem')
    (c : FnO P lo A f args [] h K) (hle : ∀ v L' h', K v L' h' → LE h h') (hfo : ev e fo = .func (.func f) first.toArray cap.toArray) (ha : first ++ evs e as ++ cap = args) (hw : wantd ops e g = some true)
    (k : ∀ v L' h', K v L' h' → WL P lo A V ops mods rem' ⟨putE e dd v, D, L ++ L', h'⟩ Q) : WL P lo A V ops mods rem ⟨e, D, L, h⟩ Q :=
  WL_ex i rem' ho hrs hrem (Ex.out_perm (K' := fun v L'' h' => ∃ L₃, L'' = L ++ L₃ ∧ K v L₃ h') (X_callO [] L c (List.Perm.refl _) hfo ha) fun v L' h' hk => by
      obtain ⟨L₃, rfl, hk⟩ := hk
      exact ⟨_, List.perm_append_comm, L₃, rfl, hk⟩) hw fun v L' h' hk => by
    obtain ⟨L₃, rfl, hk⟩ := hk
    refine ⟨.inr fun a1 a2 => LE.toV ?_, k v L₃ h' hk⟩
    intro b o hbo
    rw [ov_append]
    by_cases hc : b ∈ keys L
    · rw [← ov_in_eq hc]
      exact hbo
    · rw [ov_out hc] at hbo
      have hb' := hle v L₃ h' hk b o hbo
      have : b ∉ keys (L ++ L₃) := fun hk2 => by rw [a2.out b hk2] at hb'; cases hb'
      rw [keys_append] at this
      rw [ov_out hc, ov_out (fun h => this (List.mem_append_right _ h))]
      exact hb'
theorem SI_callN {md : Bool} {J : St → Prop} {dd : Option Nat} {f : FuncId} [hf : TFun P f] {fo : Operand} {as : List Operand} {ats : Array TypeId} {first cap args : List Value} {K : Value → OL → LH → Prop}
    (c : FnO P lo A f args [] h K) (hle : ∀ v L' h', K v L' h' → LE h h') (hfo : ev e fo = .func (.func f) first.toArray cap.toArray) (ha : first ++ evs e as ++ cap = args) (hw : wantd ops e g = some true)
    (k : ∀ v L' h', K v L' h' → J ⟨putE e dd v, D, L ++ L', h'⟩) : SI P lo A V ops md { dst := dd, op := .call { callee := .value fo, args := as.toArray, argTypes := ats }, type := ty, pos := ps, after := af, guard := g } ⟨e, D, L, h⟩ J :=
  SI_ex (Ex.out_perm (K' := fun v L'' h' => ∃ L₃, L'' = L ++ L₃ ∧ K v L₃ h') (X_callO [] L c (List.Perm.refl _) hfo ha) fun v L' h' hk => by
      obtain ⟨L₃, rfl, hk⟩ := hk
      exact ⟨_, List.perm_append_comm, L₃, rfl, hk⟩) hw fun v L' h' hk => by
    obtain ⟨L₃, rfl, hk⟩ := hk
    refine ⟨.inr fun a1 a2 => LE.toV ?_, k v L₃ h' hk⟩
    intro b o hbo
    rw [ov_append]
    by_cases hc : b ∈ keys L
    · rw [← ov_in_eq hc]
      exact hbo
    · rw [ov_out hc] at hbo
      have hb' := hle v L₃ h' hk b o hbo
      have : b ∉ keys (L ++ L₃) := fun hk2 => by rw [a2.out b hk2] at hb'; cases hb'
      rw [keys_append] at this
      rw [ov_out hc, ov_out (fun h => this (List.mem_append_right _ h))]
      exact hb'
end
theorem WL_alloc (i : Nat) (rem' : List Nat) {t : TypeId} {zs : List Value} [ht : TZero P t zs] (ho : ops.toList[i]? = some { dst := some d, op := .alloc t, type := ty, pos := ps, after := af, guard := g }) (hrs : readyR ops rem = [i]) (hrem : rem.erase i = rem') (hw : wantd ops e g = some true)
    (k : ∀ b, WL P lo A V ops mods rem' ⟨upd e d (.pointer (some ⟨b, 0, none⟩)), D, (b, bx zs t) :: L, h⟩ Q) : WL P lo A V ops mods rem ⟨e, D, L, h⟩ Q :=
  WL_ex i rem' ho hrs hrem (X_alloc (A := A)) hw fun v L'' h' hk => by
    obtain ⟨b, hb, rfl, rfl, rfl⟩ := hk
    exact ⟨.inr fun _ _ => (LE_cons hb).toV, k b⟩
theorem WL_buildSlice (i : Nat) (rem' : List Nat) {t el sz by' len : Nat} [ht : TEl P t el sz by'] {zs : List Value} [hz : TZero P el zs] {parts : List (Nat × Operand)} (cs : List Value) (ho : ops.toList[i]? = some { dst := some d, op := .buildSlice t len parts.toArray, type := ty, pos := ps, after := af, guard := g }) (hrs : readyR ops rem = [i]) (hrem : rem.erase i = rem')
    (hlen : Nat.ble (len * sz) 16777216 = true) (hp : fillL (fun i => some (i * sz, sz)) (List.flatten (List.replicate len zs)) (evp e parts) = some cs) (hzl : Nat.beq zs.length sz = true) (hs1 : Nat.blt 0 sz = true) (hw : wantd ops e g = some true)
    (k : ∀ b, WL P lo A V ops mods rem' ⟨upd e d (.slice (some ⟨b, 0, none⟩) len len), D, (b, bx cs el) :: L, h⟩ Q) : WL P lo A V ops mods rem ⟨e, D, L, h⟩ Q :=
  WL_ex i rem' ho hrs hrem (X_buildSlice (A := A) cs hlen hp hzl hs1) hw fun v L'' h' hk => by
    obtain ⟨b, hb, rfl, rfl, rfl⟩ := hk
    exact ⟨.inr fun _ _ => (LE_cons hb).toV, k b⟩
theorem WL_makeSlice (i : Nat) (rem' : List Nat) {t el sz by' : Nat} [ht : TEl P t el sz by'] {zs : List Value} [hz : TZero P el zs] {x y : Operand} {k1 k2 : IntKind} {i1 j1 : Int} (ho : ops.toList[i]? = some { dst := some d, op := .makeSlice t x y, type := ty, pos := ps, after := af, guard := g }) (hrs : readyR ops rem = [i]) (hrem : rem.erase i = rem')
    (hx : ev e x = .int k1 i1) (hy : ev e y = .int k2 j1) (h0 : 0 ≤ i1) (h1 : i1 ≤ j1) (h2 : j1 ≤ 1000000) (hby : Nat.ble by' 1000 = true)
    (hzl : Nat.beq zs.length sz = true) (hs1 : Nat.blt 0 sz = true) (hw : wantd ops e g = some true)
    (k : ∀ b, WL P lo A V ops mods rem' ⟨upd e d (.slice (some ⟨b, 0, none⟩) i1.toNat j1.toNat), D, (b, bx (List.flatten (List.replicate j1.toNat zs)) el) :: L, h⟩ Q) : WL P lo A V ops mods rem ⟨e, D, L, h⟩ Q :=
  WL_ex i rem' ho hrs hrem (X_makeSlice (A := A) hx hy h0 h1 h2 hby hzl hs1) hw fun v L'' h' hk => by
    obtain ⟨b, hb, rfl, rfl, rfl⟩ := hk
    exact ⟨.inr fun _ _ => (LE_cons hb).toV, k b⟩
theorem SI_makeSlice {md : Bool} {J : St → Prop} {t el sz by' : Nat} [ht : TEl P t el sz by'] {zs : List Value} [hz : TZero P el zs] {x y : Operand} {k1 k2 : IntKind} {i1 j1 : Int}
    (hx : ev e x = .int k1 i1) (hy : ev e y = .int k2 j1) (h0 : 0 ≤ i1) (h1 : i1 ≤ j1) (h2 : j1 ≤ 1000000) (hby : Nat.ble by' 1000 = true)
    (hzl : Nat.beq zs.length sz = true) (hs1 : Nat.blt 0 sz = true) (hw : wantd ops e g = some true)
    (k : ∀ b, J ⟨upd e d (.slice (some ⟨b, 0, none⟩) i1.toNat j1.toNat), D, (b, bx (List.flatten (List.replicate j1.toNat zs)) el) :: L, h⟩) : SI P lo A V ops md { dst := some d, op := .makeSlice t x y, type := ty, pos := ps, after := af, guard := g } ⟨e, D, L, h⟩ J :=
  SI_ex (X_makeSlice (A := A) hx hy h0 h1 h2 hby hzl hs1) hw fun v L'' h' hk => by
    obtain ⟨b, hb, rfl, rfl, rfl⟩ := hk
    exact ⟨.inr fun _ _ => (LE_cons hb).toV, k b⟩
theorem WL_store (i : Nat) (rem' : List Nat) (j : Nat) {t : TypeId} {agg : Bool} {sz : Nat} [ht : TSize P t agg sz] {x y : Operand} {b o : Nat} {cs : List Value} {T : TypeId} (v : Value) (vs cs' : List Value) (L' : OL)
    (ho : ops.toList[i]? = some { dst := none, op := .store t x y, type := ty, pos := ps, after := af, guard := g }) (hrs : readyR ops rem = [i]) (hrem : rem.erase i = rem') (hm : mods i = true)
    (hx : ev e x = .pointer (some ⟨b, o, none⟩)) (hy : ev e y = v) (hvs : v.cells = vs.toArray) (hj : L[j]? = some (b, bx cs T)) (hl : Nat.beq vs.length sz = true) (hf : vs.all flat = true) (hle : Nat.ble (o + vs.length) cs.length = true)
    (hs : splice cs o vs = cs') (hL : L.set j (b, bx cs' T) = L') (hw : wantd ops e g = some true)
    (k : WL P lo A V ops mods rem' ⟨e, D, L', h⟩ Q) : WL P lo A V ops mods rem ⟨e, D, L, h⟩ Q :=
  WL_ex i rem' ho hrs hrem (X_store (A := A) j v vs hx hy hvs hj hl hf hle) hw fun v L'' h' hk => by
    obtain ⟨rfl, rfl, rfl⟩ := hk
    subst hs hL
    exact ⟨.inl hm, k⟩
theorem WL_append (B L₀ : OL) (i : Nat) (rem' : List Nat) {t el sz by' : Nat} [ht : TEl P t el sz by'] {zs : List Value} [hz : TZero P el zs] {x y : Operand} {v0 v1 : Value} {used : List Value} (ys : List Value)
    (ho : ops.toList[i]? = some { dst := some d, op := .call { callee := .builtin .append, args := [x, y].toArray, argTypes := [t, t].toArray }, type := ty, pos := ps, after := af, guard := g }) (hrs : readyR ops rem = [i]) (hrem : rem.erase i = rem') (hm : mods i = true)
    (hx : ev e x = v0) (hy : ev e y = v1) (hB : Bc el sz v0 B used) (hL : L.Perm (B ++ L₀)) (hS : Apart lo L h → Src (ov L h) sz v1 ys) (hf : ys.all flat = true) (hbd : (used.length + ys.length) * (16 * by') ≤ 2 ^ 47 * sz) (hb1 : used.length + ys.length ≤ 2 ^ 40)
    (hzl : Nat.beq zs.length sz = true) (hs1 : Nat.blt 0 sz = true) (hw : wantd ops e g = some true)
    (k : ∀ v' B' h', Bc el sz v' B' (used ++ ys) → LE h h' → WL P lo A V ops mods rem' ⟨upd e d v', D, B' ++ L₀, h'⟩ Q) : WL P lo A V ops mods rem ⟨e, D, L, h⟩ Q := by
  refine WL_ex i rem' ho hrs hrem (Ex.perm hL (X_append (A := A) (L := B ++ L₀) hx hy hB rfl (fun ha => ?_) hf hzl hs1 hbd hb1)) hw fun v' L'' h' hk => ?_
  · have ha' := ha.perm hL.symm
    rw [← ov_perm hL h ha'.nodup]
    exact hS ha'
  · obtain ⟨B', h1, rfl, h2, _⟩ := hk
    exact ⟨.inl hm, k v' B' h' h1 h2⟩
/- append, the other owned blocks first -/
theorem WL_appendF (B L₀ : OL) (i : Nat) (rem' : List Nat) {t el sz by' : Nat} [ht : TEl P t el sz by'] {zs : List Value} [hz : TZero P el zs] {x y : Operand} {v0 v1 : Value} {used : List Value} (ys : List Value)
    (ho : ops.toList[i]? = some { dst := some d, op := .call { callee := .builtin .append, args := [x, y].toArray, argTypes := [t, t].toArray }, type := ty, pos := ps, after := af, guard := g }) (hrs : readyR ops rem = [i]) (hrem : rem.erase i = rem') (hm : mods i = true)
    (hx : ev e x = v0) (hy : ev e y = v1) (hB : Bc el sz v0 B used) (hL : L.Perm (B ++ L₀)) (hS : Apart lo L h → Src (ov L h) sz v1 ys) (hf : ys.all flat = true) (hbd : (used.length + ys.length) * (16 * by') ≤ 2 ^ 47 * sz) (hb1 : used.length + ys.length ≤ 2 ^ 40)
    (hzl : Nat.beq zs.length sz = true) (hs1 : Nat.blt 0 sz = true) (hw : wantd ops e g = some true)
    (k : ∀ p len cap B' h', Bc el sz (.slice p len cap) B' (used ++ ys) → LE h h' → WL P lo A V ops mods rem' ⟨upd e d (.slice p len cap), D, L₀ ++ B', h'⟩ Q) : WL P lo A V ops mods rem ⟨e, D, L, h⟩ Q := by
  refine WL_ex i rem' ho hrs hrem (Ex.out_perm (K' := fun v' L'' h' => ∃ B', Bc el sz v' B' (used ++ ys) ∧ L'' = L₀ ++ B' ∧ LE h h') (Ex.perm hL (X_append (A := A) (L := B ++ L₀) hx hy hB rfl (fun ha => ?_) hf hzl hs1 hbd hb1)) fun v' L'' h' hk => ?_) hw fun v' L'' h' hk => ?_
  · have ha' := ha.perm hL.symm
    rw [← ov_perm hL h ha'.nodup]
    exact hS ha'
  · obtain ⟨B', h1, rfl, h2, _⟩ := hk
    exact ⟨_, List.perm_append_comm, B', h1, rfl, h2⟩
  · obtain ⟨B', h1, rfl, h2⟩ := hk
    obtain ⟨p, len, cap, rfl, _⟩ := h1.len
    exact ⟨.inl hm, k p len cap B' h' h1 h2⟩
/- .. to a slice without room: all that stands stands -/
theorem WL_append0 (B L₀ : OL) (i : Nat) (rem' : List Nat) {t el sz by' : Nat} [ht : TEl P t el sz by'] {zs : List Value} [hz : TZero P el zs] {x y : Operand} {p0 : Option Addr} {l0 : Nat} {v1 : Value} {used : List Value} (ys : List Value)
    (ho : ops.toList[i]? = some { dst := some d, op := .call { callee := .builtin .append, args := [x, y].toArray, argTypes := [t, t].toArray }, type := ty, pos := ps, after := af, guard := g }) (hrs : readyR ops rem = [i]) (hrem : rem.erase i = rem')
    (hx : ev e x = .slice p0 l0 0) (hy : ev e y = v1) (hB : Bc el sz (.slice p0 l0 0) B used) (hL : L.Perm (B ++ L₀)) (hS : Apart lo L h → Src (ov L h) sz v1 ys) (hf : ys.all flat = true) (hbd : (used.length + ys.length) * (16 * by') ≤ 2 ^ 47 * sz) (hb1 : used.length + ys.length ≤ 2 ^ 40)
    (hzl : Nat.beq zs.length sz = true) (hs1 : Nat.blt 0 sz = true) (hw : wantd ops e g = some true)
    (k : ∀ p len cap B' h', Bc el sz (.slice p len cap) B' (used ++ ys) → LE h h' → WL P lo A V ops mods rem' ⟨upd e d (.slice p len cap), D, L₀ ++ B', h'⟩ Q) : WL P lo A V ops mods rem ⟨e, D, L, h⟩ Q := by
  refine WL_ex i rem' ho hrs hrem (Ex.out_perm (K' := fun v' L'' h' => ∃ B', Bc el sz v' B' (used ++ ys) ∧ L'' = L₀ ++ B' ∧ LE h h' ∧ LE (ov (B ++ L₀) h) (ov (B' ++ L₀) h')) (Ex.perm hL (X_append (A := A) (L := B ++ L₀) hx hy hB rfl (fun ha => ?_) hf hzl hs1 hbd hb1)) fun v' L'' h' hk => ?_) hw fun v' L'' h' hk => ?_
  · have ha' := ha.perm hL.symm
    rw [← ov_perm hL h ha'.nodup]
    exact hS ha'
  · obtain ⟨B', h1, rfl, h2, _, h3⟩ := hk
    exact ⟨_, List.perm_append_comm, B', h1, rfl, h2, h3 _ _ rfl⟩
  · obtain ⟨B', h1, rfl, h2, h3⟩ := hk
    obtain ⟨p, len, cap, rfl, _⟩ := h1.len
    refine ⟨.inr fun a1 a2 => ?_, k p len cap B' h' h1 h2⟩
    rw [ov_perm hL h a1.nodup, ov_perm (L₁ := L₀ ++ B') List.perm_append_comm h' a2.nodup]
    exact h3.toV
theorem src_sub {sz b m c : Nat} {ys : List Value} {T : TypeId} (j : Nat) (hj : L[j]? = some (b, bx ys T)) (hl : Nat.beq ys.length (m * sz) = true) (ha : Apart lo L h) : Src (ov L h) sz (.slice (some ⟨b, 0, none⟩) m c) ys :=
  ⟨_, m, c, rfl, Nat.eq_of_beq_eq_true hl, .inr ⟨b, 0, rfl, at_box ha.nodup hj (r := []) (by simp)⟩, fun _ a ha => by injection ha with ha; subst ha; rfl⟩
end
end Go.Lu
