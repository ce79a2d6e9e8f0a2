/-
  A region that draws its order: what stands of its own (the same value in every grown heap) may be taken first; what is left is walked in every order that is open.
-/
import Derived.Test.YtmjmhaoikilagaaGreatDoorOps
import Derived.Orders
set_option linter.unusedVariables false
set_option linter.unusedSimpArgs false
set_option linter.unusedSectionVars false
namespace Go.Lu

section
variable {P : Program} {main : Bool} {lo : Nat → Prop} {A : (Goroutine → LH → Prop) → Prop} {n : Nat} {V : Nat → Prop}

theorem permJ {α : Type} {x : α} : ∀ {i : Nat} {L : List α}, L[i]? = some x → L.Perm ([x] ++ L.eraseIdx i)
  | 0, [], h => by cases h
  | 0, y :: ys, h => by injection h with h; subst h; exact List.Perm.refl _
  | i + 1, [], h => by cases h
  | i + 1, y :: ys, h => ((permJ (i := i) (L := ys) h).cons y).trans (List.Perm.swap _ _ _)
/-- What stands stands, but for the blocks of V. -/
def LEV (V : Nat → Prop) (h h' : LH) : Prop := ∀ b o, ¬ V b → h b = some o → h' b = some o
theorem LE.toV {V : Nat → Prop} {h h' : LH} (x : LE h h') : LEV V h h' := fun b o _ hb => x b o hb
theorem LEV.trans {V : Nat → Prop} {h h' h'' : LH} (a : LEV V h h') (b : LEV V h' h'') : LEV V h h'' := fun c o hv hc => b c o hv (a c o hv hc)
/-- .. a value that stands of its own, whatever the blocks of V come to. -/
def DetR (P : Program) (lo V : Nat → Prop) (ops : Array Oper) (o : Oper) (s : St) (v : Value) : Prop :=
  (wantd ops s.e o.guard = some false ∧ v = undef) ∨ (wantd ops s.e o.guard = some true ∧ (Apart lo s.L s.h → ∀ H, LEV V (ov s.L s.h) H → ∀ (Q : Next → LH → Prop) (R : Value → LH → Prop), Q (.value v) H → wpL P lo (execOp (ev s.e) o) H Q R))
theorem Det.toR {P : Program} {lo : Nat → Prop} {ops : Array Oper} {o : Oper} {s : St} {v : Value} (x : Det P lo ops o s v) : DetR P lo (fun _ => False) ops o s v := by
  rcases x with x | ⟨a, b⟩
  · exact .inl x
  · exact .inr ⟨a, fun ha H hl => b ha H fun c o hc => hl c o id hc⟩
theorem DetR.vol {P : Program} {lo : Nat → Prop} {ops : Array Oper} {o : Oper} {e : Env} {D : List Deferred} {L L₁ L₀ : OL} {h : LH} {v : Value} {V : Nat → Prop} (hp : L.Perm (L₁ ++ L₀)) (hV : ∀ b, V b → b ∈ keys L₁) (x : Det P lo ops o ⟨e, D, L₀, h⟩ v) : DetR P lo V ops o ⟨e, D, L, h⟩ v := by
  rcases x with x | ⟨a, b⟩
  · exact .inl x
  · refine .inr ⟨a, fun ha H hl => ?_⟩
    have ha2 := ha.perm hp
    refine b ha2.right H fun c o hc => hl c o (fun hv => ?_) ?_
    · have hk := hV c hv
      by_cases hc2 : c ∈ keys L₀
      · have hn := ha2.nodup
        rw [keys_append] at hn
        exact (List.nodup_append.1 hn).2.2 c hk c hc2 rfl
      · simp only at hc
        rw [ov_out hc2] at hc
        have h3 : h c = none := ha2.out c (by rw [keys_append]; exact List.mem_append_left _ hk)
        rw [h3] at hc; cases hc
    · simp only at hc ⊢
      rw [ov_perm hp h ha.nodup, ov_append]
      exact LE.ov ha2.left _ _ hc
/-- What is asked behind an operation of such a region; 'md': may it change what stands? -/
def BehA (P : Program) (lo : Nat → Prop) (A : (Goroutine → LH → Prop) → Prop) (V : Nat → Prop) (md : Bool) (d : Option Nat) (s : St) (K : St → Prop) : Next → LH → Prop
  | .value v, H => ∃ L h, H = ov L h ∧ Apart lo L h ∧ (md = true ∨ LEV V (ov s.L s.h) H) ∧ K ⟨putE s.e d v, s.D, L, h⟩
  | .skip, H => ∃ L h, H = ov L h ∧ Apart lo L h ∧ (md = true ∨ LEV V (ov s.L s.h) H) ∧ K ⟨putE s.e d undef, s.D, L, h⟩
  | .enter f args, H => FnE P A f args H fun
      | .returned v, H' => ∃ L h, H' = ov L h ∧ Apart lo L h ∧ (md = true ∨ LEV V (ov s.L s.h) H') ∧ K ⟨putE s.e d v, s.D, L, h⟩
      | .panicked _, _ => False
  | _, _ => False

/-- One operation, from the state. -/
def SI (P : Program) (lo : Nat → Prop) (A : (Goroutine → LH → Prop) → Prop) (V : Nat → Prop) (ops : Array Oper) (md : Bool) (o : Oper) (s : St) (K : St → Prop) : Prop :=
  (wantd ops s.e o.guard = some false ∧ K { s with e := putE s.e o.dst undef }) ∨
  (wantd ops s.e o.guard = some true ∧ (Apart lo s.L s.h → wpL P lo (execOp (ev s.e) o) (ov s.L s.h) (BehA P lo A V md o.dst s K) (fun _ _ => False)))

theorem BehA.mono {md : Bool} {d : Option Nat} {s : St} {K K' : St → Prop} (hk : ∀ s, K s → K' s) {nx : Next} {H : LH} (x : BehA P lo A V md d s K nx H) : BehA P lo A V md d s K' nx H := by
  cases nx <;> first | exact x.elim | skip
  case value v => obtain ⟨L, h, a, b, c, k⟩ := x; exact ⟨L, h, a, b, c, hk _ k⟩
  case skip => obtain ⟨L, h, a, b, c, k⟩ := x; exact ⟨L, h, a, b, c, hk _ k⟩
  case enter f args =>
    simp only [BehA] at x ⊢
    refine FnE.mono x fun e H' y => ?_
    cases e with
    | returned v => obtain ⟨L, h, a, b, c, k⟩ := y; exact ⟨L, h, a, b, c, hk _ k⟩
    | panicked ch => exact y
theorem SI.mono {ops : Array Oper} {md : Bool} {o : Oper} {s : St} {K K' : St → Prop} (hk : ∀ s, K s → K' s) (x : SI P lo A V ops md o s K) : SI P lo A V ops md o s K' := by
  rcases x with ⟨a, b⟩ | ⟨a, b⟩
  · exact .inl ⟨a, hk _ b⟩
  · exact .inr ⟨a, fun ha => wpL_mono _ _ _ _ _ _ (fun nx H y => y.mono hk) (fun _ _ y => y) (b ha)⟩

/-- Every order that is open, from what is listed on. -/
def WA (P : Program) (lo : Nat → Prop) (A : (Goroutine → LH → Prop) → Prop) (V : Nat → Prop) (ops : Array Oper) (mods : Nat → Bool) (Q : St → Prop) : Nat → Array Bool → St → Prop
  | 0, listed, s => Region.ready .any ops listed = [] ∧ Q s
  | fuel + 1, listed, s => (Region.ready .any ops listed = [] → Q s) ∧ ∀ i ∈ Region.ready .any ops listed, ∀ o, ops[i]? = some o → SI P lo A V ops (mods i) o s (WA P lo A V ops mods Q fuel (listed.setIfInBounds i true))

def edge (p : Oper) (i : Nat) : Bool := p.after.any fun x => Region.binds .any x && x.on == i
def noSel (o : Oper) : Bool := match o.op with | .select .. => false | _ => true
/- who comes before whom -/
inductive Anc (ops : Array Oper) : Nat → Nat → Prop
  | direct {i j : Nat} {p : Oper} (hp : ops[j]? = some p) (he : edge p i = true) : Anc ops i j
  | trans {i k j : Nat} {p : Oper} (h : Anc ops i k) (hp : ops[j]? = some p) (he : edge p k = true) : Anc ops i j
def maskOf (acc : List Nat) (o : Oper) : Nat := o.after.toList.foldl (fun m x => if Region.binds .any x then (m ||| (1 <<< x.on)) ||| acc.getD x.on 0 else m) 0
def masksGo : List Nat → List Oper → List Nat
  | acc, [] => acc
  | acc, o :: os => masksGo (acc ++ [maskOf acc o]) os
def masks (ops : Array Oper) : List Nat := masksGo [] ops.toList
theorem mask_fold {ops : Array Oper} {acc : List Nat} {j : Nat} {o : Oper} (ho : ops[j]? = some o) (hacc : ∀ k i, (acc.getD k 0).testBit i = true → Anc ops i k) : ∀ (l : List Edge) (m : Nat), (∀ x ∈ l, x ∈ o.after.toList) → (∀ i, m.testBit i = true → Anc ops i j) →
    ∀ i, (l.foldl (fun m x => if Region.binds .any x then (m ||| (1 <<< x.on)) ||| acc.getD x.on 0 else m) m).testBit i = true → Anc ops i j
  | [], m, _, hm, i, h => hm i h
  | x :: l, m, hl, hm, i, h => by
    simp only [List.foldl_cons] at h
    refine mask_fold ho hacc l _ (fun y hy => hl y (by simp [hy])) (fun i' h' => ?_) i h
    split at h'
    · rename_i hb
      have hx := hl x (by simp)
      have he : edge o x.on = true := by
        unfold edge
        rw [Array.any_eq_true]
        obtain ⟨q, hq, he⟩ := List.mem_iff_getElem.1 hx
        exact ⟨q, by simpa using hq, by simp at he; simp [he, hb]⟩
      rw [Nat.testBit_or, Nat.testBit_or, Bool.or_eq_true, Bool.or_eq_true] at h'
      rcases h' with (h' | h') | h'
      · exact hm i' h'
      · rw [Nat.one_shiftLeft, Nat.testBit_two_pow] at h'
        have : x.on = i' := by simpa using h'
        subst this
        exact .direct ho he
      · exact .trans (hacc _ _ h') ho he
    · exact hm i' h'
theorem masksGo_anc {ops : Array Oper} : ∀ (os : List Oper) (acc : List Nat), ops.toList.drop acc.length = os → (∀ k i, (acc.getD k 0).testBit i = true → Anc ops i k) → ∀ k i, ((masksGo acc os).getD k 0).testBit i = true → Anc ops i k
  | [], acc, _, hacc => hacc
  | o :: os, acc, hd, hacc => by
    simp only [masksGo]
    have ho : ops[acc.length]? = some o := by
      have := congrArg (·[0]?) hd
      simpa using this
    refine masksGo_anc os _ ?_ ?_
    · have := congrArg (List.drop 1) hd
      simpa [List.drop_drop] using this
    · intro k i h
      by_cases hk : k < acc.length
      · refine hacc k i ?_
        simpa [List.getD_eq_getElem?_getD, List.getElem?_append_left hk] using h
      · by_cases hk2 : k = acc.length
        · subst hk2
          have h' : (maskOf acc o).testBit i = true := by simpa [List.getD_eq_getElem?_getD] using h
          exact mask_fold ho hacc o.after.toList 0 (fun _ h => h) (fun i h => by simp at h) i h'
        · have : (acc ++ [maskOf acc o])[k]? = none := List.getElem?_eq_none (by simp; omega)
          rw [List.getD_eq_getElem?_getD, this] at h
          simp at h
theorem masks_anc {ops : Array Oper} {k i : Nat} (h : ((masks ops).getD k 0).testBit i = true) : Anc ops i k :=
  masksGo_anc ops.toList [] (by simp) (fun k i h => by simp at h) k i h
def Clo (ops : Array Oper) (listed : Array Bool) : Prop := ∀ j p, ops[j]? = some p → listed.getD j false = true → ∀ k, edge p k = true → listed.getD k false = true
theorem Clo.anc {ops : Array Oper} {listed : Array Bool} (hc : Clo ops listed) {i j : Nat} (h : Anc ops i j) (hj : ∀ p, ops[j]? = some p → ∀ k, edge p k = true → listed.getD k false = true) : listed.getD i false = true := by
  induction h with
  | direct hp he => exact hj _ hp _ he
  | @trans k j p h hp he ih =>
    have hk := hj _ hp _ he
    exact ih fun q hq l hl => hc _ _ hq hk _ hl
/-- Any two are bound in order, or apart. -/
def chkPair (ops : Array Oper) (mods : Nat → Bool) (i j : Nat) : Bool :=
  match ops.toList[i]?, ops.toList[j]? with
  | some x, some y => ((masks ops).getD j 0).testBit i || ((masks ops).getD i 0).testBit j || (x.apart ops y && !mods i && !mods j && noSel x && noSel y)
  | _, _ => true
def chkAll (ops : Array Oper) (mods : Nat → Bool) : Bool := (List.range ops.toList.length).all fun i => (List.range ops.toList.length).all fun j => i == j || chkPair ops mods i j
def dstsOk (n : Nat) (ops : Array Oper) : Bool := ops.toList.all fun o => dstOk n o.dst

theorem ready_iff {ops : Array Oper} {listed : Array Bool} {i : Nat} : i ∈ Region.ready .any ops listed ↔ i < ops.size ∧ listed.getD i true = false ∧ ∀ o, ops[i]? = some o → ∀ x ∈ o.after, Region.binds .any x = true → listed.getD x.on false = true := by
  unfold Region.ready
  simp only [List.mem_filter, List.mem_range, Bool.and_eq_true, Bool.not_eq_true']
  constructor
  · rintro ⟨h1, h2, h3⟩
    refine ⟨h1, h2, fun o ho x hx hb => ?_⟩
    rw [ho] at h3
    simp only [Option.map_some, Option.getD_some, Array.all_eq_true_iff_forall_mem, Bool.or_eq_true, Bool.not_eq_true'] at h3
    rcases h3 x hx with h4 | h4
    · rw [h4] at hb; cases hb
    · exact h4
  · rintro ⟨h1, h2, h3⟩
    refine ⟨h1, h2, ?_⟩
    rw [Array.getElem?_eq_getElem h1]
    simp only [Option.map_some, Option.getD_some, Array.all_eq_true_iff_forall_mem, Bool.or_eq_true, Bool.not_eq_true']
    intro x hx
    cases hb : Region.binds .any x with
    | false => exact .inl rfl
    | true => exact .inr (h3 _ (Array.getElem?_eq_getElem h1) x hx hb)

theorem getD_set_true {listed : Array Bool} {i k : Nat} {b : Bool} (h : listed.getD k b = true) : (listed.setIfInBounds i true).getD k b = true := by
  simp only [Array.getD_eq_getD_getElem?, Array.getElem?_setIfInBounds] at h ⊢
  split
  · split <;> simp_all
  · exact h

theorem ready_edges {ops : Array Oper} {listed : Array Bool} {j : Nat} (hj : j ∈ Region.ready .any ops listed) : ∀ p, ops[j]? = some p → ∀ k, edge p k = true → listed.getD k false = true := by
  intro p hp k h
  unfold edge at h
  rw [Array.any_eq_true] at h
  obtain ⟨q, hq, hb⟩ := h
  have hz := Array.getElem_mem hq
  generalize p.after[q] = z at hb hz
  simp only [Bool.and_eq_true, beq_iff_eq] at hb
  have h1 := (ready_iff.1 hj).2.2 p hp z hz hb.1
  rw [hb.2] at h1
  exact h1
theorem not_anc {ops : Array Oper} {listed : Array Bool} (hc : Clo ops listed) {i j : Nat} (hi : i ∈ Region.ready .any ops listed) (hj : j ∈ Region.ready .any ops listed) : ((masks ops).getD j 0).testBit i = false := by
  cases h : ((masks ops).getD j 0).testBit i with
  | false => rfl
  | true =>
    have h1 := hc.anc (masks_anc h) (ready_edges hj)
    have h2 := (ready_iff.1 hi).2.1
    simp only [Array.getD_eq_getD_getElem?] at h1 h2
    cases hl : listed[i]? <;> simp_all
theorem Clo.set {ops : Array Oper} {listed : Array Bool} (hc : Clo ops listed) {i : Nat} (hi : i ∈ Region.ready .any ops listed) : Clo ops (listed.setIfInBounds i true) := by
  intro j p hp hj k hk
  refine getD_set_true ?_
  by_cases hij : i = j
  · subst hij; exact ready_edges hi p hp k hk
  · refine hc j p hp ?_ k hk
    simpa [Array.getD_eq_getD_getElem?, Array.getElem?_setIfInBounds_ne hij] using hj

theorem ready_still {ops : Array Oper} {listed : Array Bool} {i j : Nat} (hsz : listed.size = ops.size) (hj : j ∈ Region.ready .any ops listed) (hij : i ≠ j) : j ∈ Region.ready .any ops (listed.setIfInBounds i true) := by
  rw [ready_iff] at hj ⊢
  refine ⟨hj.1, ?_, fun o ho x hx hb => getD_set_true (hj.2.2 o ho x hx hb)⟩
  have := hj.2.1
  simp only [Array.getD_eq_getD_getElem?, Array.getElem?_setIfInBounds_ne hij] at this ⊢
  exact this

theorem ev_put {e : Env} {d : Option Nat} {v : Value} {x : Operand} (h : ∀ t, d = some t → x ≠ .tmp t) : ev (putE e d v) x = ev e x := by
  cases d with
  | none => rfl
  | some t =>
    cases x with
    | tmp u =>
      have hne : t ≠ u := fun e' => h t rfl (e' ▸ rfl)
      have : Nat.beq u t = false := by
        cases hb : Nat.beq u t with
        | false => rfl
        | true => exact absurd (Nat.eq_of_beq_eq_true hb).symm hne
      simp [ev, putE, upd, this]
    | _ => rfl
theorem exec_put {ops : Array Oper} (o : Oper) (hs : noSel o = true) (e : Env) (d : Option Nat) (v : Value) (h : ∀ t, d = some t → t ∉ o.looksAt ops) : execOp (ev (putE e d v)) o = execOp (ev e) o :=
  execOp_congr o (fun cs b hc => by simp [noSel, hc] at hs) fun x hx => ev_put fun t ht hxt => h t ht (by
    subst hxt
    exact List.mem_append_left _ (List.mem_filterMap.2 ⟨.tmp t, by simpa using hx, rfl⟩))
theorem wantd_put {ops : Array Oper} (o : Oper) (e : Env) (d : Option Nat) (v : Value) (h : ∀ t, d = some t → t ∉ o.looksAt ops) : wantd ops (putE e d v) o.guard = wantd ops e o.guard := by
  unfold wantd
  cases hg : o.guard with
  | none => rfl
  | some g =>
    obtain ⟨j, b⟩ := g
    simp only
    cases hd : dstOf ops j with
    | none => rfl
    | some u =>
      have : putE e d v u = e u := by
        have := ev_put (e := e) (d := d) (v := v) (x := .tmp u) fun t ht hxt => h t ht (by
          injection hxt with hxt
          subst hxt
          refine List.mem_append_right _ ?_
          rw [hg]
          simp only [dstOf, Array.getElem?_toList] at hd
          simp [hd])
        exact this
      simp only [this]
theorem put_put {e : Env} {d d' : Option Nat} {v v' : Value} (h : ∀ t, d = some t → d' ≠ some t) : putE (putE e d v) d' v' = putE (putE e d' v') d v := by
  cases d with
  | none => rfl
  | some t =>
    cases d' with
    | none => rfl
    | some u =>
      have hne : t ≠ u := fun e' => h t rfl (by rw [e'])
      funext k
      simp only [putE, upd]
      cases h1 : Nat.beq k u with
      | false => simp
      | true =>
        have := Nat.eq_of_beq_eq_true h1
        subst this
        have : Nat.beq k t = false := by
          cases hb : Nat.beq k t with
          | false => rfl
          | true => exact absurd (Nat.eq_of_beq_eq_true hb).symm hne
        simp [this]

/-- An operation that is apart goes from the state without the value as from the state with it. -/
theorem SI.back {ops : Array Oper} {o p : Oper} {s : St} {v : Value} {K : St → Prop} (hap : o.apart ops p = true) (hso : noSel o = true) (hsp : noSel p = true) (hdet : DetR P lo V ops o s v)
    (x : SI P lo A V ops false p { s with e := putE s.e o.dst v } K) :
    SI P lo A V ops false p s (fun s' => DetR P lo V ops o s' v ∧ K { s' with e := putE s'.e o.dst v }) := by
  obtain ⟨h1, h2, h3⟩ := Oper.apart_spec hap
  have hw := wantd_put (ops := ops) p s.e o.dst v h1
  have hx := exec_put (ops := ops) p hsp s.e o.dst v h1
  have hcomm : ∀ u, putE (putE s.e o.dst v) p.dst u = putE (putE s.e p.dst u) o.dst v := fun u => put_put h2
  have hdet' : ∀ (u : Value) (L : OL) (h : LH), Apart lo s.L s.h → LEV V (ov s.L s.h) (ov L h) → DetR P lo V ops o ⟨putE s.e p.dst u, s.D, L, h⟩ v := by
    intro u L h ha hle
    have hw' := wantd_put (ops := ops) o s.e p.dst u h3
    rcases hdet with ⟨a, b⟩ | ⟨a, b⟩
    · exact .inl ⟨by simp only; rw [hw']; exact a, b⟩
    · refine .inr ⟨by simp only; rw [hw']; exact a, fun _ H hl Q R hq => ?_⟩
      simp only
      rw [exec_put (ops := ops) o hso s.e p.dst u h3]
      exact b ha H (hle.trans hl) Q R hq
  rcases x with ⟨a, b⟩ | ⟨a, b⟩
  · refine .inl ⟨by rw [← hw]; exact a, ?_⟩
    simp only at b
    rw [hcomm] at b
    refine ⟨?_, b⟩
    have hw' := wantd_put (ops := ops) o s.e p.dst undef h3
    rcases hdet with ⟨a, c⟩ | ⟨a, c⟩
    · exact .inl ⟨by simp only; rw [hw']; exact a, c⟩
    · refine .inr ⟨by simp only; rw [hw']; exact a, fun ha H hl Q R hq => ?_⟩
      simp only
      rw [exec_put (ops := ops) o hso s.e p.dst undef h3]
      exact c ha H hl Q R hq
  · refine .inr ⟨by rw [← hw]; exact a, fun ha => ?_⟩
    have := b ha
    simp only at this
    rw [hx] at this
    refine wpL_mono _ _ _ _ _ _ ?_ (fun _ _ y => y) this
    intro nx H y
    cases nx <;> first | exact y.elim | skip
    case value u =>
      obtain ⟨L, h, rfl, b1, b2, b3⟩ := y
      simp only at b3; rw [hcomm] at b3
      rcases b2 with b2 | b2
      · cases b2
      · exact ⟨L, h, rfl, b1, .inr b2, hdet' u L h ha b2, b3⟩
    case skip =>
      obtain ⟨L, h, rfl, b1, b2, b3⟩ := y
      simp only at b3; rw [hcomm] at b3
      rcases b2 with b2 | b2
      · cases b2
      · exact ⟨L, h, rfl, b1, .inr b2, hdet' undef L h ha b2, b3⟩
    case enter f args =>
      simp only [BehA] at y ⊢
      refine FnE.mono y fun e H' z => ?_
      cases e with
      | returned u =>
        obtain ⟨L, h, rfl, b1, b2, b3⟩ := z
        rw [hcomm] at b3
        rcases b2 with b2 | b2
        · cases b2
        · exact ⟨L, h, rfl, b1, .inr b2, hdet' u L h ha b2, b3⟩
      | panicked ch => exact z

theorem DetR.si {ops : Array Oper} {o : Oper} {s : St} {v : Value} {md : Bool} {K : St → Prop} (hdet : DetR P lo V ops o s v) (k : K { s with e := putE s.e o.dst v }) : SI P lo A V ops md o s K := by
  rcases hdet with ⟨a, rfl⟩ | ⟨a, b⟩
  · exact .inl ⟨a, k⟩
  · exact .inr ⟨a, fun ha => b ha _ (LE.refl _).toV _ _ ⟨s.L, s.h, rfl, ha, .inr (LE.refl _).toV, k⟩⟩

/-- TAKE IT FIRST. -/
theorem WA_take {ops : Array Oper} {mods : Nat → Bool} {Q : St → Prop} (hchk : chkAll ops mods = true) {i : Nat} {o : Oper} (ho : ops[i]? = some o) : ∀ (fuel : Nat) (listed : Array Bool) (s : St) (v : Value), listed.size = ops.size → Clo ops listed →
    i ∈ Region.ready .any ops listed → DetR P lo V ops o s v → WA P lo A V ops mods Q fuel (listed.setIfInBounds i true) { s with e := putE s.e o.dst v } → WA P lo A V ops mods Q (fuel + 1) listed s := by
  intro fuel
  induction fuel with
  | zero =>
    intro listed s v hsz hcl hi hdet k
    refine ⟨fun hr => (by rw [hr] at hi; cases hi), fun j hj p hp => ?_⟩
    by_cases hij : i = j
    · subst hij
      obtain rfl : o = p := by rw [ho] at hp; exact Option.some.inj hp
      exact DetR.si hdet k
    · -- with no fuel left the other could not be ready
      have hj' := ready_still hsz hj hij
      rw [k.1] at hj'
      cases hj'
  | succ fuel ih =>
    intro listed s v hsz hcl hi hdet k
    refine ⟨fun hr => (by rw [hr] at hi; cases hi), fun j hj p hp => ?_⟩
    by_cases hij : i = j
    · subst hij
      obtain rfl : o = p := by rw [ho] at hp; exact Option.some.inj hp
      exact DetR.si hdet k
    · have hj' := ready_still hsz hj hij
      have hnone : chkPair ops mods i j = true := by
        have h1 := (ready_iff.1 hi).1
        have h2 := (ready_iff.1 hj).1
        have := hchk
        simp only [chkAll, List.all_eq_true, List.mem_range, Bool.or_eq_true, beq_iff_eq, Array.length_toList] at this
        exact (this i h1 j h2).resolve_left hij
      simp only [chkPair, Array.getElem?_toList, ho, hp, not_anc hcl hi hj, not_anc hcl hj hi, Bool.false_or, Bool.and_eq_true, Bool.not_eq_true'] at hnone
      obtain ⟨⟨⟨⟨hap, hmi⟩, hmj⟩, hso⟩, hsp⟩ := hnone
      have hsj := k.2 j hj' p hp
      rw [hmj] at hsj ⊢
      refine (SI.back hap hso hsp hdet hsj).mono fun s' ⟨hd', hk'⟩ => ?_
      have hi' := ready_still hsz hi (Ne.symm hij)
      refine ih _ s' v (by simpa using hsz) (hcl.set hj) hi' hd' ?_
      rw [Array.setIfInBounds_comm _ _ (Ne.symm hij)]
      exact hk'

theorem WA_sound {ops : Array Oper} {mods : Nat → Bool} {Q : Out → St → Prop} [hA : Adm P main lo A] (hd : dstsOk n ops = true) : ∀ (fuel t : Nat) (listed : Array Bool) (s : St), WA P lo A V ops mods (Q .normal) fuel listed s → Ok lo n s →
    WR A ops (Region.linearise.go .any ops fuel t listed []) (mkA n s) (ov s.L s.h) (TS lo n Q) := by
  intro fuel
  induction fuel with
  | zero =>
    intro t listed s x ok
    simp only [Region.linearise.go, List.reverse_nil]
    exact WR_nil ⟨s, rfl, rfl, ok, x.2⟩
  | succ fuel ih =>
    intro t listed s x ok
    simp only [Region.linearise.go]
    change WR A ops (match (Region.ready .any ops listed)[t % (Region.ready .any ops listed).length]? with
      | some i => Region.linearise.go .any ops fuel (t / (Region.ready .any ops listed).length) (listed.setIfInBounds i true) [i]
      | none => [].reverse) _ _ _
    cases hi : (Region.ready .any ops listed)[t % (Region.ready .any ops listed).length]? with
    | none =>
      have hnil : Region.ready .any ops listed = [] := by
        cases hr : Region.ready .any ops listed with
        | nil => rfl
        | cons x xs =>
          rw [hr] at hi
          have hlt : t % (x :: xs).length < (x :: xs).length := Nat.mod_lt _ (by simp)
          simp at hi
          simp at hlt
          omega
      exact WR_nil ⟨s, rfl, rfl, ok, x.1 hnil⟩
    | some i =>
      simp only []
      have hmem := List.mem_of_getElem? hi
      have hlt := (ready_iff.1 hmem).1
      rw [linearise_go_acc, List.reverse_singleton, List.singleton_append]
      have ho := Array.getElem?_eq_getElem hlt
      generalize ops[i] = o at ho
      have hdo : dstOk n o.dst = true := by
        simp only [dstsOk, List.all_eq_true] at hd
        exact hd o (by have := Array.mem_of_getElem? ho; simpa using this)
      have key : ∀ {v : Value} {L : OL} {h : LH}, Apart lo L h → WA P lo A V ops mods (Q .normal) fuel (listed.setIfInBounds i true) ⟨putE s.e o.dst v, s.D, L, h⟩ →
          WR A ops (Region.linearise.go .any ops fuel (t / (Region.ready .any ops listed).length) (listed.setIfInBounds i true) []) ((mkA n s).put o.dst v) (ov L h) (TS lo n Q) := by
        intro v L h ha hk
        have e : (mkA n s).put o.dst v = mkA n ⟨putE s.e o.dst v, s.D, L, h⟩ := put_mkA ⟨s.e, s.D, L, h⟩ o.dst v hdo
        rw [e]
        exact ih _ _ _ hk ⟨ha, undef_put (s := s) hdo ok.undef⟩
      rcases x.2 i hmem o ho with ⟨a, b⟩ | ⟨a, b⟩
      · refine WR_skip ho (wantd_iff ops s o false ok.undef a) ?_
        exact key ok.apart b
      · refine WR_op ho (wantd_iff ops s o true ok.undef a) ?_
        rw [eval_mkA s ok.undef]
        refine wpL_mono _ _ _ _ _ _ ?_ (fun _ _ y => y.elim) (b ok.apart)
        intro nx H y
        cases nx <;> first | exact y.elim | skip
        case value u => obtain ⟨L, h, rfl, b1, _, b3⟩ := y; exact key b1 b3
        case skip => obtain ⟨L, h, rfl, b1, _, b3⟩ := y; exact key b1 b3
        case enter f args =>
          simp only [BehA] at y
          simp only [Behind]
          refine FnE.mono y fun e H' z => ?_
          cases e with
          | returned u => obtain ⟨L, h, rfl, b1, _, b3⟩ := z; exact key b1 b3
          | panicked ch => exact z.elim

/-! ### the words: what is left, as a list of numbers -/
def rdy (ops : Array Oper) (rem : List Nat) (i : Nat) : Bool :=
  match ops.toList[i]? with
  | some o => rem.contains i && o.after.toList.all fun x => !Region.binds .any x || (Nat.blt x.on ops.toList.length && !rem.contains x.on)
  | none => false
def readyR (ops : Array Oper) (rem : List Nat) : List Nat := (List.range ops.toList.length).filter (rdy ops rem)
structure Lst (ops : Array Oper) (rem : List Nat) (listed : Array Bool) : Prop where
  size : listed.size = ops.size
  nodup : rem.Nodup
  lt : ∀ i ∈ rem, i < ops.size
  at_ : ∀ i, i < ops.size → listed.getD i true = !rem.contains i
  clo : Clo ops listed

/-- What is left of a region that draws its order. -/
def WL (P : Program) (lo : Nat → Prop) (A : (Goroutine → LH → Prop) → Prop) (V : Nat → Prop) (ops : Array Oper) (mods : Nat → Bool) (rem : List Nat) (s : St) (Q : St → Prop) : Prop :=
  chkAll ops mods = true → ∀ listed, Lst ops rem listed → WA P lo A V ops mods Q rem.length listed s

theorem rdy_ready {ops : Array Oper} {rem : List Nat} {listed : Array Bool} (hl : Lst ops rem listed) (i : Nat) : rdy ops rem i = true ↔ i ∈ Region.ready .any ops listed := by
  rw [ready_iff]
  unfold rdy
  simp only [Array.getElem?_toList]
  by_cases hi : i < ops.size
  · rw [Array.getElem?_eq_getElem hi]
    simp only [Bool.and_eq_true, List.all_eq_true, Bool.or_eq_true, Bool.not_eq_true', Nat.blt_eq, Array.length_toList, Option.some.injEq, forall_eq', Array.mem_toList_iff]
    rw [hl.at_ i hi]
    constructor
    · rintro ⟨h1, h2⟩
      refine ⟨hi, by simp only [h1, Bool.not_true], fun x hx hb => ?_⟩
      rcases h2 x hx with h3 | ⟨h3, h4⟩
      · rw [h3] at hb; cases hb
      · have := hl.at_ x.on h3
        rw [h4] at this
        simp only [Array.getD_eq_getD_getElem?] at this ⊢
        have hlt : x.on < listed.size := by rw [hl.size]; exact h3
        rw [Array.getElem?_eq_getElem hlt] at this ⊢
        simpa using this
    · rintro ⟨_, h1, h2⟩
      refine ⟨by simpa using h1, fun x hx => ?_⟩
      cases hb : Region.binds .any x with
      | false => exact .inl rfl
      | true =>
        right
        have h3 := h2 x hx hb
        have hlt : x.on < listed.size := by
          simp only [Array.getD_eq_getD_getElem?] at h3
          cases hg : listed[x.on]? with
          | none => rw [hg] at h3; cases h3
          | some b => exact (Array.getElem?_eq_some_iff.1 hg).1
        have h4 : x.on < ops.size := by rw [← hl.size]; exact hlt
        refine ⟨h4, ?_⟩
        have := hl.at_ x.on h4
        simp only [Array.getD_eq_getD_getElem?] at this h3
        rw [Array.getElem?_eq_getElem hlt] at this h3
        simp only [Option.getD_some] at this h3
        rw [h3] at this
        simpa using this.symm
  · rw [Array.getElem?_eq_none (by omega)]
    simp; omega

theorem Lst.erase {ops : Array Oper} {rem : List Nat} {listed : Array Bool} (hl : Lst ops rem listed) {i : Nat} (hi : i ∈ rem) (hr : i ∈ Region.ready .any ops listed) : Lst ops (rem.erase i) (listed.setIfInBounds i true) := by
  refine ⟨by simpa using hl.size, hl.nodup.erase i, fun j hj => hl.lt j (List.mem_of_mem_erase hj), fun j hj => ?_, hl.clo.set hr⟩
  have hlt : j < listed.size := by rw [hl.size]; exact hj
  by_cases hij : i = j
  · subst hij
    have : i ∉ rem.erase i := hl.nodup.not_mem_erase
    simp [hlt, this]
  · have h1 := hl.at_ j hj
    have h2 : (rem.erase i).contains j = rem.contains j := by
      rw [Bool.eq_iff_iff]
      simp only [List.contains_iff_mem]
      exact List.mem_erase_of_ne (Ne.symm hij)
    rw [h2, ← h1]
    simp [Array.getD_eq_getD_getElem?, Array.getElem?_setIfInBounds_ne hij]

theorem W_drawV (V : Nat → Prop) {id : Nat} {ops : Array Oper} {s : St} {Q : Out → St → Prop} [hA : Adm P main lo A] (mods : Nat → Bool) (rem : List Nat) (hm : P.follows .mixedOrders = true) (hchk : chkAll ops mods = true) (hd : dstsOk n ops = true) (hr : List.range ops.toList.length = rem)
    (x : WL P lo A V ops mods rem s (Q .normal)) : W lo A n (.region id ops true) s Q := by
  intro ok
  refine WC_regionDraw fun t => ?_
  simp only [Region.schedule, hm, Bool.true_or, if_true, Region.linearise]
  subst hr
  have := x hchk (Array.replicate ops.size false) ⟨by simp, List.nodup_range, fun i hi => by simpa using hi, fun i hi => by simp [hi], fun j p hp hj => by simp [Array.getD_eq_getD_getElem?, Array.getElem?_replicate] at hj; split at hj <;> simp at hj⟩
  simp only [List.length_range, Array.length_toList] at this
  exact WA_sound hd ops.size t _ s this ok

theorem W_draw {id : Nat} {ops : Array Oper} {s : St} {Q : Out → St → Prop} [hA : Adm P main lo A] (mods : Nat → Bool) (rem : List Nat) (hm : P.follows .mixedOrders = true) (hchk : chkAll ops mods = true) (hd : dstsOk n ops = true) (hr : List.range ops.toList.length = rem)
    (x : WL P lo A (fun _ => False) ops mods rem s (Q .normal)) : W lo A n (.region id ops true) s Q := W_drawV _ mods rem hm hchk hd hr x

theorem WL_nil {ops : Array Oper} {mods : Nat → Bool} {s : St} {Q : St → Prop} (k : Q s) : WL P lo A V ops mods [] s Q := by
  intro _ listed hl
  refine ⟨?_, k⟩
  apply List.eq_nil_iff_forall_not_mem.2
  intro i hi
  have := (rdy_ready hl i).2 hi
  unfold rdy at this
  split at this <;> simp at this

/-- TAKE number i: it stands of its own. -/
theorem WL_takeR (i : Nat) (rem' : List Nat) {ops : Array Oper} {mods : Nat → Bool} {rem : List Nat} {o : Oper} {e : Env} {D : List Deferred} {L : OL} {h : LH} {v : Value} {Q : St → Prop} (ho : ops.toList[i]? = some o) (hr : rdy ops rem i = true) (hrem : rem.erase i = rem')
    (hdet : DetR P lo V ops o ⟨e, D, L, h⟩ v) (k : WL P lo A V ops mods rem' ⟨putE e o.dst v, D, L, h⟩ Q) : WL P lo A V ops mods rem ⟨e, D, L, h⟩ Q := by
  intro hchk listed hl
  have hmem : i ∈ rem := by
    unfold rdy at hr
    rw [ho] at hr
    simp only [Bool.and_eq_true, List.contains_iff_mem] at hr
    exact hr.1
  have hlen : rem.length = (rem.erase i).length + 1 := by
    rw [List.length_erase_of_mem hmem]
    have := List.length_pos_of_mem hmem
    omega
  rw [hlen]
  subst hrem
  exact WA_take hchk (by simpa using ho) _ listed _ v hl.size hl.clo ((rdy_ready hl i).1 hr) hdet (k hchk _ (hl.erase hmem ((rdy_ready hl i).1 hr)))

theorem WL_take (i : Nat) (rem' : List Nat) {ops : Array Oper} {mods : Nat → Bool} {rem : List Nat} {o : Oper} {e : Env} {D : List Deferred} {L : OL} {h : LH} {v : Value} {Q : St → Prop} (ho : ops.toList[i]? = some o) (hr : rdy ops rem i = true) (hrem : rem.erase i = rem')
    (hdet : Det P lo ops o ⟨e, D, L, h⟩ v) (k : WL P lo A (fun _ => False) ops mods rem' ⟨putE e o.dst v, D, L, h⟩ Q) : WL P lo A (fun _ => False) ops mods rem ⟨e, D, L, h⟩ Q := WL_takeR i rem' ho hr hrem hdet.toR k
theorem WL_takeV (j : Nat) {r : Nat} {ob : Obj} (i : Nat) (rem' : List Nat) {V : Nat → Prop} {ops : Array Oper} {mods : Nat → Bool} {rem : List Nat} {o : Oper} {e : Env} {D : List Deferred} {L : OL} {h : LH} {v : Value} {Q : St → Prop} (ho : ops.toList[i]? = some o) (hr : rdy ops rem i = true) (hrem : rem.erase i = rem')
    (hj : L[j]? = some (r, ob)) (hV : V = fun b => b = r) (hdet : Det P lo ops o ⟨e, D, L.eraseIdx j, h⟩ v) (k : WL P lo A V ops mods rem' ⟨putE e o.dst v, D, L, h⟩ Q) : WL P lo A V ops mods rem ⟨e, D, L, h⟩ Q :=
  WL_takeR i rem' ho hr hrem (DetR.vol (L₁ := [(r, ob)]) (permJ hj) (fun b hb => by subst hV; subst hb; simp [keys]) hdet) k
/-- STEP: all that are ready, each in its turn. -/
theorem WL_step {ops : Array Oper} {mods : Nat → Bool} {rem : List Nat} {s : St} {Q : St → Prop} (rs : List Nat) (hrs : readyR ops rem = rs) (hne : rs.isEmpty = false)
    (k : ∀ i ∈ rs, ∀ o, ops.toList[i]? = some o → SI P lo A V ops (mods i) o s (fun s' => WL P lo A V ops mods (rem.erase i) s' Q)) : WL P lo A V ops mods rem s Q := by
  intro hchk listed hl
  subst hrs
  have hiff : ∀ i, i ∈ readyR ops rem ↔ i ∈ Region.ready .any ops listed := by
    intro i
    rw [← rdy_ready hl]
    unfold readyR
    simp only [List.mem_filter, List.mem_range, Array.length_toList, and_iff_right_iff_imp]
    intro h
    exact (ready_iff.1 ((rdy_ready hl i).1 h)).1
  have hmem' : ∀ i ∈ readyR ops rem, i ∈ rem := by
    intro i hi
    unfold readyR at hi
    have := (List.mem_filter.1 hi).2
    unfold rdy at this
    split at this
    · simp only [Bool.and_eq_true, List.contains_iff_mem] at this; exact this.1
    · cases this
  have hpos : 0 < rem.length := by
    cases h : readyR ops rem with
    | nil => rw [h] at hne; cases hne
    | cons a l => exact List.length_pos_of_mem (hmem' a (by rw [h]; simp))
  have hlen : rem.length = (rem.length - 1) + 1 := by omega
  rw [hlen]
  refine ⟨fun hr => ?_, fun i hi o ho => ?_⟩
  · cases h : readyR ops rem with
    | nil => rw [h] at hne; cases hne
    | cons a l =>
      have := (hiff a).1 (by rw [h]; simp)
      rw [hr] at this; cases this
  · have him := (hiff i).2 hi
    refine SI.mono (fun s' hs' => ?_) (k i him o (by simpa using ho))
    have := hs' hchk _ (hl.erase (hmem' i him) hi)
    rwa [List.length_erase_of_mem (hmem' i him)] at this
theorem WL_sole (i : Nat) (rem' : List Nat) {ops : Array Oper} {mods : Nat → Bool} {rem : List Nat} {o : Oper} {s : St} {Q : St → Prop} (ho : ops.toList[i]? = some o) (hrs : readyR ops rem = [i]) (hrem : rem.erase i = rem')
    (k : SI P lo A V ops (mods i) o s (fun s' => WL P lo A V ops mods rem' s' Q)) : WL P lo A V ops mods rem s Q :=
  WL_step [i] hrs rfl fun j hj p hp => by
    simp only [List.mem_singleton] at hj
    subst hj
    rw [ho] at hp
    obtain rfl := Option.some.inj hp
    subst hrem
    exact k
theorem WL_two (i j : Nat) (ri rj : List Nat) {ops : Array Oper} {mods : Nat → Bool} {rem : List Nat} {o p : Oper} {s : St} {Q : St → Prop} (ho : ops.toList[i]? = some o) (hp : ops.toList[j]? = some p) (hrs : readyR ops rem = [i, j]) (hri : rem.erase i = ri) (hrj : rem.erase j = rj)
    (k : SI P lo A V ops (mods i) o s (fun s' => WL P lo A V ops mods ri s' Q)) (k' : SI P lo A V ops (mods j) p s (fun s' => WL P lo A V ops mods rj s' Q)) : WL P lo A V ops mods rem s Q :=
  WL_step [i, j] hrs rfl fun q hq r hr => by
    simp only [List.mem_cons, List.not_mem_nil, or_false] at hq
    rcases hq with rfl | rfl
    · rw [ho] at hr
      obtain rfl := Option.some.inj hr
      subst hri
      exact k
    · rw [hp] at hr
      obtain rfl := Option.some.inj hr
      subst hrj
      exact k'

theorem SI_ex {ops : Array Oper} {md : Bool} {o : Oper} {e : Env} {D : List Deferred} {L : OL} {h : LH} {K : Value → OL → LH → Prop} {J : St → Prop} (x : Ex P lo A e L h o K) (hw : wantd ops e o.guard = some true)
    (k : ∀ v L' h', K v L' h' → (md = true ∨ (Apart lo L h → Apart lo L' h' → LEV V (ov L h) (ov L' h'))) ∧ J ⟨putE e o.dst v, D, L', h'⟩) : SI P lo A V ops md o ⟨e, D, L, h⟩ J := by
  refine .inr ⟨hw, fun ha => ?_⟩
  refine wpL_mono _ _ _ _ _ _ ?_ (fun _ _ y => y) (x ha)
  intro nx H y
  cases nx <;> first | exact y.elim | skip
  case value v => obtain ⟨L', h', rfl, hb, hk⟩ := y; have z := k v L' h' hk; exact ⟨L', h', rfl, hb, z.1.imp id (fun f => f ha hb), z.2⟩
  case skip => obtain ⟨L', h', rfl, hb, hk⟩ := y; have z := k undef L' h' hk; exact ⟨L', h', rfl, hb, z.1.imp id (fun f => f ha hb), z.2⟩
  case enter f args =>
    simp only [BehX] at y
    simp only [BehA]
    refine FnE.mono y fun r H' z => ?_
    cases r with
    | returned v => obtain ⟨L', h', rfl, hb, hk⟩ := z; have z := k v L' h' hk; exact ⟨L', h', rfl, hb, z.1.imp id (fun f => f ha hb), z.2⟩
    | panicked ch => exact z.elim
theorem LE_cons {L : OL} {h : LH} {b : Nat} {o : Obj} (hb : ov L h b = none) : LE (ov L h) (ov ((b, o) :: L) h) := by
  intro c p hc
  simp only [ov]
  split
  · rename_i e; subst e; rw [hb] at hc; cases hc
  · exact hc
end
end Go.Lu
