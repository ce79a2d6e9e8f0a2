/-
  The symbolic state: temporaries as a function, deferred calls, owned blocks, a heap. Judgements over it; structural rules.
-/
import Derived.Test.YtmjmhaoikilagaaGreatDoorJudge
set_option linter.unusedVariables false
set_option linter.unusedSimpArgs false
set_option linter.unusedSectionVars false
namespace Go.Lu

abbrev Env := Nat → Value
structure St where
  e : Env
  D : List Deferred
  L : OL
  h : LH

def upd (e : Env) (d : Nat) (v : Value) : Env := fun t => cond (Nat.beq t d) v (e t)
def putE (e : Env) (d : Option Nat) (v : Value) : Env :=
  match d with
  | some d => upd e d v
  | none => e
def ev (e : Env) : Operand → Value
  | .tmp t => e t
  | .const v => v
  | .global g => .pointer (some ⟨g, 0, none⟩)
  | .func f => .func (.func f) #[] #[]
def evs (e : Env) : List Operand → List Value
  | [] => []
  | x :: xs => ev e x :: evs e xs

def mkA (n : Nat) (s : St) : Act := ⟨(Array.ofFn fun i : Fin n => s.e i), s.D⟩

structure Ok (lo : Nat → Prop) (n : Nat) (s : St) : Prop where
  apart : Apart lo s.L s.h
  undef : ∀ t, n ≤ t → s.e t = undef

def TS (lo : Nat → Prop) (n : Nat) (Q : Out → St → Prop) : Out → Act → LH → Prop := fun o a H => ∃ s, a = mkA n s ∧ H = ov s.L s.h ∧ Ok lo n s ∧ Q o s

/-- The judgement for code. -/
def W (lo : Nat → Prop) (A : (Goroutine → LH → Prop) → Prop) (n : Nat) (c : Code) (s : St) (Q : Out → St → Prop) : Prop :=
  Ok lo n s → WC A c (mkA n s) (ov s.L s.h) (TS lo n Q)
/-- The judgement for what is left of a region that is carried out in the text's order. -/
def WS (lo : Nat → Prop) (A : (Goroutine → LH → Prop) → Prop) (n : Nat) (ops : Array Oper) (rest : List Oper) (s : St) (Q : Out → St → Prop) : Prop :=
  ∀ i, ops.toList.drop i = rest → Ok lo n s → WR A ops (List.range' i (ops.size - i)) (mkA n s) (ov s.L s.h) (TS lo n Q)

def dstOk (n : Nat) : Option Nat → Bool
  | some d => Nat.blt d n
  | none => true
def dstOf (ops : Array Oper) (j : Nat) : Option Nat := (ops.toList[j]?).bind (·.dst)
def wantd (ops : Array Oper) (e : Env) : Option (Nat × Bool) → Option Bool
  | none => some true
  | some (j, b) => match dstOf ops j with
    | some d => match e d with
      | .bool t => some (t == b)
      | _ => some false
    | none => some false

section
variable {P : Program} {main : Bool} {lo : Nat → Prop} {A : (Goroutine → LH → Prop) → Prop} {n : Nat}

theorem get_mkA (s : St) (t : Nat) (ok : ∀ t, n ≤ t → s.e t = undef) : (mkA n s).tmps.getD t undef = s.e t := by
  unfold mkA
  simp only [Array.getD_eq_getD_getElem?, Array.getElem?_ofFn]
  by_cases h : t < n
  · simp [h]
  · simp [h, ok t (by omega)]
theorem eval_mkA (s : St) (ok : ∀ t, n ≤ t → s.e t = undef) : (mkA n s).eval = ev s.e := by
  funext x
  cases x with
  | tmp t => exact get_mkA s t ok
  | _ => rfl
theorem put_mkA (s : St) (d : Option Nat) (v : Value) (hd : dstOk n d = true) : (mkA n s).put d v = mkA n { s with e := putE s.e d v } := by
  cases d with
  | none => rfl
  | some d =>
    simp only [dstOk, Nat.blt_eq] at hd
    have key : ((Array.ofFn fun i : Fin n => s.e i).setIfInBounds d v) = Array.ofFn fun i : Fin n => upd s.e d v i := ?_
    · simp only [mkA, Act.put, putE, key]
    apply Array.ext_getElem?
    intro i
    simp only [Array.getElem?_setIfInBounds, Array.getElem?_ofFn, Array.size_ofFn, upd]
    by_cases e : d = i
    · subst e; simp [hd]
    · have : Nat.beq i d = false := by
        cases hb : Nat.beq i d with
        | false => rfl
        | true => exact absurd (Nat.eq_of_beq_eq_true hb).symm e
      simp [e, this]
theorem undef_put {s : St} {d : Option Nat} {v : Value} (hd : dstOk n d = true) (ok : ∀ t, n ≤ t → s.e t = undef) : ∀ t, n ≤ t → putE s.e d v t = undef := by
  intro t ht
  cases d with
  | none => exact ok t ht
  | some d =>
    simp only [dstOk, Nat.blt_eq] at hd
    unfold putE upd
    have : Nat.beq t d = false := by
      cases hb : Nat.beq t d with
      | false => rfl
      | true => have := Nat.eq_of_beq_eq_true hb; omega
    simp only [this, cond_false]
    exact ok t ht

theorem wantd_iff (ops : Array Oper) (s : St) (o : Oper) (b : Bool) (ok : ∀ t, n ≤ t → s.e t = undef) (h : wantd ops s.e o.guard = some b) : Region.wanted o (yielded ops (mkA n s).tmps) = b := by
  unfold wantd at h
  unfold Region.wanted
  cases hg : o.guard with
  | none => rw [hg] at h; simpa using h
  | some g =>
    obtain ⟨j, want⟩ := g
    rw [hg] at h
    simp only [yielded]
    simp only [dstOf, Array.getElem?_toList] at h
    cases hj : (ops[j]?).bind (·.dst) with
    | none =>
      simp only [hj] at h
      simp [hj]
      simpa using h
    | some d =>
      simp only [hj] at h
      simp only [hj, Option.bind_some]
      have hget := get_mkA s d ok
      simp only [Array.getD_eq_getD_getElem?] at hget
      cases hv : (mkA n s).tmps[d]? with
      | none =>
        rw [hv] at hget
        simp only [Option.getD_none] at hget
        rw [← hget] at h
        simp only [undef] at h
        simpa using h
      | some v =>
        rw [hv] at hget
        simp only [Option.getD_some] at hget
        rw [← hget] at h
        cases v <;> simp_all

variable [hA : Adm P main lo A]
include hA

theorem W.mono {c : Code} {s : St} {Q Q' : Out → St → Prop} (x : W lo A n c s Q) (hq : ∀ o s, Q o s → Q' o s) : W lo A n c s Q' :=
  fun ok => (x ok).mono fun o a h ⟨s, e1, e2, e3, e4⟩ => ⟨s, e1, e2, e3, hq _ _ e4⟩

theorem W_skip {s : St} {Q : Out → St → Prop} (x : Q .normal s) : W lo A n .skip s Q := fun ok => WC_skip ⟨s, rfl, rfl, ok, x⟩
theorem W_exit {id : Nat} {s : St} {Q : Out → St → Prop} (x : Q (.exit id) s) : W lo A n (.exit id) s Q := fun ok => WC_exit ⟨s, rfl, rfl, ok, x⟩
theorem W_ret {s : St} {Q : Out → St → Prop} (x : Q .ret s) : W lo A n .ret s Q := fun ok => WC_ret ⟨s, rfl, rfl, ok, x⟩

def ThenS (next : St → Prop) (Q : Out → St → Prop) : Out → St → Prop
  | .normal, s => next s
  | o, s => Q o s
omit hA in
theorem then_TS {next : St → Prop} {Q : Out → St → Prop} {o : Out} {a : Act} {H : LH} (x : TS lo n (ThenS next Q) o a H) :
    Then (fun a h => ∃ s, a = mkA n s ∧ h = ov s.L s.h ∧ Ok lo n s ∧ next s) (TS lo n Q) o a H := by
  obtain ⟨s, e1, e2, e3, e4⟩ := x
  cases o <;> exact ⟨s, e1, e2, e3, e4⟩

theorem W_seq {x y : Code} {s : St} {Q : Out → St → Prop} (hx : W lo A n x s (ThenS (fun s => W lo A n y s Q) Q)) : W lo A n (.seq x y) s Q := by
  intro ok
  refine WC_seq ((hx ok).mono fun o a h z => ?_)
  have := then_TS z
  cases o with
  | normal =>
    obtain ⟨s', rfl, rfl, e3, e4⟩ := this
    exact e4 e3
  | _ => exact this

theorem W_cond {c : Operand} {x y : Code} {t : Bool} {s : St} {Q : Out → St → Prop} (hc : ev s.e c = .bool t) (hx : W lo A n (cond t x y) s Q) : W lo A n (.cond c x y) s Q := by
  intro ok
  refine WC_cond (t := t) (by rw [eval_mkA s ok.undef]; exact hc) ?_
  cases t <;> exact hx ok
theorem W_if {c : Operand} {x y : Code} {s : St} {Q : Out → St → Prop} (hc : ev s.e c = .bool true) (hx : W lo A n x s Q) : W lo A n (.cond c x y) s Q := W_cond hc hx
theorem W_else {c : Operand} {x y : Code} {s : St} {Q : Out → St → Prop} (hc : ev s.e c = .bool false) (hx : W lo A n y s Q) : W lo A n (.cond c x y) s Q := W_cond hc hx

def InBlockS (id : Nat) (Q : Out → St → Prop) : Out → St → Prop
  | .exit id', s => if id' = id then Q .normal s else Q (.exit id') s
  | o, s => Q o s
theorem W_block {id : Nat} {c : Code} {s : St} {Q : Out → St → Prop} (x : W lo A n c s (InBlockS id Q)) : W lo A n (.block id c) s Q := by
  intro ok
  refine WC_block ((x ok).mono fun o a h ⟨s', e1, e2, e3, e4⟩ => ?_)
  cases o with
  | exit id' =>
    simp only [InBlockS] at e4
    simp only [InBlock]
    split
    · rename_i e; rw [if_pos e] at e4; exact ⟨s', e1, e2, e3, e4⟩
    · rename_i e; rw [if_neg e] at e4; exact ⟨s', e1, e2, e3, e4⟩
  | _ => exact ⟨s', e1, e2, e3, e4⟩

theorem W_loop {ι : Type} {c : Code} (I : ι → St → Prop) (μ : ι → Nat) (i₀ : ι) {s : St} {Q : Out → St → Prop} (h₀ : I i₀ s)
    (round : ∀ i s, I i s → W lo A n c s (ThenS (fun s' => ∃ j, I j s' ∧ μ j < μ i) Q)) : W lo A n (.loop c) s Q := by
  intro ok
  refine WC_loop (fun i a h => ∃ s, a = mkA n s ∧ h = ov s.L s.h ∧ Ok lo n s ∧ I i s) μ (i₀ := i₀) ⟨s, rfl, rfl, ok, h₀⟩ fun i a h ⟨s', e1, e2, e3, e4⟩ => ?_
  subst e1 e2
  refine (round i s' e4 e3).mono fun o a h z => ?_
  have := then_TS z
  cases o with
  | normal =>
    obtain ⟨s'', f1, f2, f3, j, f4, f5⟩ := this
    exact ⟨j, ⟨s'', f1, f2, f3, f4⟩, f5⟩
  | _ => exact this

theorem W_region {id : Nat} {ops : Array Oper} {s : St} {Q : Out → St → Prop} (x : WS lo A n ops ops.toList s Q) : W lo A n (.region id ops false) s Q := by
  intro ok
  refine WC_region ?_
  have := x 0 rfl ok
  simpa [List.range_eq_range'] using this

theorem WS_nil {ops : Array Oper} {s : St} {Q : Out → St → Prop} (x : Q .normal s) : WS lo A n ops [] s Q := by
  intro i hi ok
  have : ops.size - i = 0 := by
    have := congrArg List.length hi
    simpa using this
  rw [this]
  exact WR_nil ⟨s, rfl, rfl, ok, x⟩

omit hA in
theorem drop_cons {ops : Array Oper} {i : Nat} {o : Oper} {rest : List Oper} (h : ops.toList.drop i = o :: rest) :
    ops[i]? = some o ∧ ops.toList.drop (i + 1) = rest ∧ List.range' i (ops.size - i) = i :: List.range' (i + 1) (ops.size - (i + 1)) := by
  have hl := congrArg List.length h
  simp at hl
  refine ⟨?_, ?_, ?_⟩
  · have := congrArg (·[0]?) h
    simpa using this
  · have := congrArg (List.drop 1) h
    simpa [List.drop_drop] using this
  · have : ops.size - i = (ops.size - (i + 1)) + 1 := by omega
    rw [this, List.range'_succ]

/-- A guarded operation that is not carried out. -/
theorem WS_skip {ops : Array Oper} {o : Oper} {rest : List Oper} {s : St} {Q : Out → St → Prop} (hw : wantd ops s.e o.guard = some false) (hd : dstOk n o.dst = true)
    (x : WS lo A n ops rest { s with e := putE s.e o.dst undef } Q) : WS lo A n ops (o :: rest) s Q := by
  intro i hi ok
  obtain ⟨h1, h2, h3⟩ := drop_cons hi
  rw [h3]
  refine WR_skip h1 (wantd_iff ops s o false ok.undef hw) ?_
  rw [put_mkA s _ _ hd]
  exact x (i + 1) h2 ⟨ok.apart, undef_put hd ok.undef⟩

/-- What is asked behind an operation. -/
def BehS (P : Program) (lo : Nat → Prop) (A : (Goroutine → LH → Prop) → Prop) (n : Nat) (d : Option Nat) (s : St) (K : St → Prop) (Q : Out → St → Prop) : Next → LH → Prop
  | .value v, H => ∃ L h, H = ov L h ∧ Apart lo L h ∧ K ⟨putE s.e d v, s.D, L, h⟩
  | .skip, H => ∃ L h, H = ov L h ∧ Apart lo L h ∧ K ⟨putE s.e d undef, s.D, L, h⟩
  | .defer x, H => ∃ L h, H = ov L h ∧ Apart lo L h ∧ K ⟨putE s.e d undef, x :: s.D, L, h⟩
  | .enter f args, H => FnE P A f args H fun
      | .returned v, H' => ∃ L h, H' = ov L h ∧ Apart lo L h ∧ K ⟨putE s.e d v, s.D, L, h⟩
      | .panicked ch, H' => ∃ L h, H' = ov L h ∧ Apart lo L h ∧ Q (.panic ch) ⟨s.e, s.D, L, h⟩
  | _, _ => False
def PanS (lo : Nat → Prop) (s : St) (Q : Out → St → Prop) : Value → LH → Prop := fun v H => ∃ L h, H = ov L h ∧ Apart lo L h ∧ Q (.panic [{ v, recovered := false }]) ⟨s.e, s.D, L, h⟩

theorem WS_step {ops : Array Oper} {o : Oper} {rest : List Oper} {s : St} {Q : Out → St → Prop} (hw : wantd ops s.e o.guard = some true) (hd : dstOk n o.dst = true)
    (x : Ok lo n s → wpL P lo (execOp (ev s.e) o) (ov s.L s.h) (BehS P lo A n o.dst s (fun s => WS lo A n ops rest s Q) Q) (PanS lo s Q)) : WS lo A n ops (o :: rest) s Q := by
  intro i hi ok
  obtain ⟨h1, h2, h3⟩ := drop_cons hi
  rw [h3]
  refine WR_op h1 (wantd_iff ops s o true ok.undef hw) ?_
  rw [eval_mkA s ok.undef]
  have key : ∀ {v : Value} {D : List Deferred} {L : OL} {h : LH}, Apart lo L h → WS lo A n ops rest ⟨putE s.e o.dst v, D, L, h⟩ Q →
      WR A ops (List.range' (i + 1) (ops.size - (i + 1))) (({ mkA n s with defers := D } : Act).put o.dst v) (ov L h) (TS lo n Q) := by
    intro v D L h ha hk
    have e : ({ mkA n s with defers := D } : Act).put o.dst v = mkA n ⟨putE s.e o.dst v, D, L, h⟩ := put_mkA ⟨s.e, D, L, h⟩ o.dst v hd
    rw [e]
    exact hk (i + 1) h2 ⟨ha, undef_put (s := s) hd ok.undef⟩
  have pan : ∀ {ch : List PanicEntry} {L : OL} {h : LH}, Apart lo L h → Q (.panic ch) ⟨s.e, s.D, L, h⟩ → TS lo n Q (.panic ch) (mkA n s) (ov L h) :=
    fun {ch L h} ha hq => ⟨⟨s.e, s.D, L, h⟩, rfl, rfl, ⟨ha, ok.undef⟩, hq⟩
  refine wpL_mono _ _ _ _ _ _ ?_ ?_ (x ok)
  · intro nx H hn
    cases nx <;> first | exact hn.elim | skip
    case value v => obtain ⟨L, h, rfl, ha, hk⟩ := hn; exact key ha hk
    case skip => obtain ⟨L, h, rfl, ha, hk⟩ := hn; exact key ha hk
    case defer d => obtain ⟨L, h, rfl, ha, hk⟩ := hn; exact key ha hk
    case enter f args =>
      simp only [BehS] at hn
      simp only [Behind]
      refine FnE.mono hn fun e H' hy => ?_
      cases e with
      | returned v => obtain ⟨L, h, rfl, ha, hk⟩ := hy; exact key ha hk
      | panicked ch => obtain ⟨L, h, rfl, ha, hk⟩ := hy; exact pan ha hk
  · rintro v H ⟨L, h, rfl, ha, hk⟩
    exact pan ha hk

/-! ### a function from its body -/
def argE (args : List Value) : Env := fun t => args.getD t undef

/-- What is asked at the end of a body, in the state. -/
def EndS (P : Program) (lo : Nat → Prop) (fn : Func) (n : Nat) (R : End → LH → Prop) : Out → St → Prop
  | .normal, s | .ret, s => Ok lo n s → s.D = [] ∧ wpL P lo (results fn (mkA n s).tmps) (ov s.L s.h) (fun v h' => ∃ h'', LE h'' h' ∧ R (.returned v) h'') (fun _ _ => False)
  | .panic ch, s => Ok lo n s → s.D = [] ∧ ∃ h'', LE h'' (ov s.L s.h) ∧ R (.panicked ch) h''
  | .exit _, _ => False

theorem FnE_bodyL {f : FuncId} {fn : Func} {c : Code} {args : List Value} {L : OL} {h : LH} {R : End → LH → Prop} (hap : Apart lo L h) (hf : P.funcs[f]? = some fn) (hn : fn.ntmps = n) (hl : Nat.ble args.length n = true) (hc : fn.body = some c)
    (x : W lo A n c ⟨argE args, [], L, h⟩ (EndS P lo fn n R)) : FnE P A f args.toArray (ov L h) R := by
  refine FnE_enter hf hc ?_
  have e : (⟨args.toArray ++ Array.replicate (fn.ntmps - args.toArray.size) undef, []⟩ : Act) = mkA n ⟨argE args, [], L, h⟩ := by
    unfold mkA argE
    congr 1
    rw [Nat.ble_eq] at hl
    apply Array.ext
    · simp [hn]; omega
    · intro i h1 h2
      simp only [Array.getElem_ofFn]
      by_cases hi : i < args.length
      · simp [Array.getElem_append, hi, List.getD_eq_getElem?_getD]
      · simp [Array.getElem_append, hi, List.getD_eq_getElem?_getD]
  rw [e]
  refine (x ⟨hap, fun t ht => ?_⟩).mono fun o a H ⟨s, e1, e2, e3, e4⟩ => ?_
  · rw [Nat.ble_eq] at hl
    simp only [argE, List.getD_eq_getElem?_getD]
    rw [List.getElem?_eq_none (by omega)]; rfl
  · subst e1 e2
    cases o with
    | normal => exact e4 e3
    | ret => exact e4 e3
    | panic ch => exact e4 e3
    | exit id => exact e4

theorem FnE_body {f : FuncId} {fn : Func} {c : Code} {args : List Value} {h : LH} {R : End → LH → Prop} (hf : P.funcs[f]? = some fn) (hn : fn.ntmps = n) (hl : Nat.ble args.length n = true) (hc : fn.body = some c)
    (x : W lo A n c ⟨argE args, [], [], h⟩ (EndS P lo fn n R)) : FnE P A f args.toArray h R :=
  FnE_bodyL (L := []) ⟨by simp [keys], fun b hb => by simp [keys] at hb, fun b hb => by simp [keys] at hb⟩ hf hn hl hc x

end
end Go.Lu
