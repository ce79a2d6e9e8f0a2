/-
  The judgements over the local-heap engine: what a goroutine's own steps come to, in whatever company; contracts of functions; the rules for code.
-/
import Derived.Test.YtmjmhaoikilagaaGreatDoorCore
set_option linter.unusedVariables false
set_option linter.unusedSimpArgs false
set_option linter.unusedSectionVars false
namespace Go.Lu
open Go.Conc (G stepG_skip stepG_seq stepG_cond stepG_block stepG_loop stepG_inLoop stepG_inBlock stepG_exit stepG_region stepG_region_end stepG_end stepG_oper)

/-- 'S' is kept backwards by every own step, in every world that holds the local heap. -/
def Closed (P : Program) (main : Bool) (lo : Nat → Prop) (S : Goroutine → LH → Prop) : Prop :=
  ∀ g h, g.status = .running → (∀ w, Inc lo h w → ∃ g' w' es h', stepG P main g w = .go g' w' es ∧ StepOk lo h w h' w' es.toList ∧ S g' h') → S g h

/-! ### owned blocks beside a heap -/
abbrev OL := List (Nat × Obj)
def keys (L : OL) : List Nat := L.map (·.1)
def ov : OL → LH → LH
  | [], h => h
  | (b, o) :: L, h => fun c => if c = b then some o else ov L h c
/-- The owned blocks are none of the heap's, and none twice, and may be written. -/
structure Apart (lo : Nat → Prop) (L : OL) (h : LH) : Prop where
  nodup : (keys L).Nodup
  out : ∀ b ∈ keys L, h b = none
  lo : ∀ b ∈ keys L, ¬ lo b

/-- The heap has only grown. -/
def LE (h h' : LH) : Prop := ∀ b o, h b = some o → h' b = some o
theorem LE.refl (h : LH) : LE h h := fun _ _ x => x
theorem LE.trans {h h' h'' : LH} (a : LE h h') (b : LE h' h'') : LE h h'' := fun _ _ x => b _ _ (a _ _ x)

/-- Contracts hold for every 'S' of a class 'A'; the class is of closed predicates, and is kept by framing. -/
class Adm (P : outParam Program) (main : outParam Bool) (lo : outParam (Nat → Prop)) (A : (Goroutine → LH → Prop) → Prop) : Prop where
  closed : ∀ S, A S → Closed P main lo S
  frame : ∀ S L, A S → A (fun g h => Apart lo L h → S g (ov L h))
  mono : ∀ S, A S → ∀ g h h', LE h h' → S g h → S g h'

inductive End where
  | returned (v : Value)
  | panicked (chain : List PanicEntry)

/-- THE CONTRACT OF A FUNCTION. -/
def FnE (P : Program) (A : (Goroutine → LH → Prop) → Prop) (f : FuncId) (args : Array Value) (h : LH) (R : End → LH → Prop) : Prop :=
  ∀ S, A S → ∀ (c : Frame) (cs : List Frame), c.mode = .run →
    (∀ v h', R (.returned v) h' → S (G (c.finish v) cs) h') →
    (∀ ch h', R (.panicked ch) h' → S (G (c.raise ch) cs) h') →
    S (G (Frame.enter P f args .normal) (c :: cs)) h

/-- .. of one that returns. -/
def retOnly (Q : Value → LH → Prop) : End → LH → Prop
  | .returned v, h => Q v h
  | .panicked _, _ => False
def Fn (P : Program) (A : (Goroutine → LH → Prop) → Prop) (f : FuncId) (args : Array Value) (h : LH) (Q : Value → LH → Prop) : Prop :=
  FnE P A f args h (retOnly Q)

theorem FnE.mono {P : Program} {A : (Goroutine → LH → Prop) → Prop} {f : FuncId} {args : Array Value} {h : LH} {R R' : End → LH → Prop}
    (x : FnE P A f args h R) (hr : ∀ e h', R e h' → R' e h') : FnE P A f args h R' :=
  fun S hS c cs hc k1 k2 => x S hS c cs hc (fun v h' y => k1 v h' (hr _ _ y)) (fun v h' y => k2 v h' (hr _ _ y))
theorem Fn.mono {P : Program} {A : (Goroutine → LH → Prop) → Prop} {f : FuncId} {args : Array Value} {h : LH} {Q Q' : Value → LH → Prop}
    (x : Fn P A f args h Q) (hr : ∀ v h', Q v h' → Q' v h') : Fn P A f args h Q' :=
  FnE.mono x fun e h' y => by cases e with
    | returned v => exact hr _ _ y
    | panicked ch => exact y

inductive Out where
  | normal
  | exit (id : Nat)
  | ret
  | panic (chain : List PanicEntry)

/-- What is asked of the continuation. -/
structure Kont (S : Goroutine → LH → Prop) (b : Frame) (k : List Item) (cs : List Frame) (Q : Out → Act → LH → Prop) : Prop where
  normal : ∀ a h, Q .normal a h → S (G (b.at a k) cs) h
  exit : ∀ id a h, Q (.exit id) a h → ∃ k', exitTo id k = some k' ∧ S (G (b.at a k') cs) h
  ret : ∀ a h todo, Q .ret a h → S (G { b.at a todo with mode := .returning } cs) h
  panic : ∀ ch a h todo, Q (.panic ch) a h → S (G { b.at a todo with mode := .panicking ch } cs) h

def WC (A : (Goroutine → LH → Prop) → Prop) (c : Code) (a : Act) (h : LH) (Q : Out → Act → LH → Prop) : Prop :=
  ∀ S, A S → ∀ b k cs, b.kind ≠ .early → Kont S b k cs Q → S (G (b.at a (.code c :: k)) cs) h

def WR (A : (Goroutine → LH → Prop) → Prop) (ops : Array Oper) (is : List Nat) (a : Act) (h : LH) (Q : Out → Act → LH → Prop) : Prop :=
  ∀ S, A S → ∀ b k cs, b.kind ≠ .early → Kont S b k cs Q → S (G (b.at a (.inRegion ops is :: k)) cs) h

section
variable {P : Program} {main : Bool} {lo : Nat → Prop} {A : (Goroutine → LH → Prop) → Prop}

theorem WC.mono {c : Code} {a : Act} {h : LH} {Q Q' : Out → Act → LH → Prop} (x : WC A c a h Q) (hq : ∀ o a h, Q o a h → Q' o a h) : WC A c a h Q' :=
  fun S hS b k cs hb hk => x S hS b k cs hb ⟨fun a h y => hk.normal a h (hq _ _ _ y), fun id a h y => hk.exit id a h (hq _ _ _ y), fun a h t y => hk.ret a h t (hq _ _ _ y), fun ch a h t y => hk.panic ch a h t (hq _ _ _ y)⟩

variable [hA : Adm P main lo A]
include hA

theorem ctl {S : Goroutine → LH → Prop} (hS : A S) {g g' : Goroutine} {h : LH} (hr : g.status = .running)
    (hst : ∀ w, stepG P main g w = .go g' w) (x : S g' h) : S g h :=
  hA.closed S hS g h hr fun w hw => ⟨g', w, #[], h, hst w, .refl hw, x⟩

theorem WC_skip {a : Act} {h : LH} {Q : Out → Act → LH → Prop} (x : Q .normal a h) : WC A .skip a h Q :=
  fun S hS b k cs _ hk => ctl hS rfl (fun w => stepG_skip) (hk.normal _ _ x)

theorem WC_exit {id : Nat} {a : Act} {h : LH} {Q : Out → Act → LH → Prop} (x : Q (.exit id) a h) : WC A (.exit id) a h Q := by
  intro S hS b k cs _ hk
  obtain ⟨k', hk', y⟩ := hk.exit _ _ _ x
  exact ctl hS rfl (fun w => stepG_exit hk') y

omit hA in
theorem stepG_ret {b : Frame} {a : Act} {k : List Item} {cs : List Frame} {w : World} :
    stepG P main (G (b.at a (.code .ret :: k)) cs) w = .go (G { b.at a (.code .ret :: k) with mode := .returning } cs) w := by simp [G, stepG, stepG.exec, Frame.at]

theorem WC_ret {a : Act} {h : LH} {Q : Out → Act → LH → Prop} (x : Q .ret a h) : WC A .ret a h Q :=
  fun S hS b k cs _ hk => ctl hS rfl (fun w => stepG_ret) (hk.ret _ _ _ x)

/-- After the first, the second. -/
def Then (next : Act → LH → Prop) (Q : Out → Act → LH → Prop) : Out → Act → LH → Prop
  | .normal, a, h => next a h
  | o, a, h => Q o a h

theorem WC_seq {x y : Code} {a : Act} {h : LH} {Q : Out → Act → LH → Prop} (hx : WC A x a h (Then (fun a h => WC A y a h Q) Q)) : WC A (.seq x y) a h Q := by
  intro S hS b k cs hb hk
  refine ctl hS rfl (fun w => stepG_seq) (hx S hS b (.code y :: k) cs hb ⟨?_, ?_, ?_, ?_⟩)
  · intro a h z; exact z S hS b k cs hb hk
  · intro id a h z; obtain ⟨k', e, y⟩ := hk.exit _ _ _ z; exact ⟨k', by simpa [exitTo] using e, y⟩
  · intro a h t z; exact hk.ret _ _ _ z
  · intro ch a h t z; exact hk.panic _ _ _ _ z

theorem WC_cond {c : Operand} {x y : Code} {t : Bool} {a : Act} {h : LH} {Q : Out → Act → LH → Prop} (hc : a.eval c = .bool t) (hx : WC A (if t then x else y) a h Q) :
    WC A (.cond c x y) a h Q :=
  fun S hS b k cs hb hk => ctl hS rfl (fun w => stepG_cond hc) (hx S hS b k cs hb hk)

/-- Within a block: the exit to it is its normal end. -/
def InBlock (id : Nat) (Q : Out → Act → LH → Prop) : Out → Act → LH → Prop
  | .exit id', a, h => if id' = id then Q .normal a h else Q (.exit id') a h
  | o, a, h => Q o a h

theorem WC_block {id : Nat} {c : Code} {a : Act} {h : LH} {Q : Out → Act → LH → Prop} (x : WC A c a h (InBlock id Q)) : WC A (.block id c) a h Q := by
  intro S hS b k cs hb hk
  refine ctl hS rfl (fun w => stepG_block) (x S hS b (.inBlock id :: k) cs hb ⟨?_, ?_, ?_, ?_⟩)
  · intro a h z; exact ctl hS rfl (fun w => stepG_inBlock) (hk.normal _ _ z)
  · intro id' a h z
    by_cases hid : id' = id
    · subst hid
      simp only [InBlock, if_true] at z
      exact ⟨k, by simp [exitTo], hk.normal _ _ z⟩
    · simp only [InBlock, if_neg hid] at z
      have : (id == id') = false := by simp; exact fun h => hid h.symm
      obtain ⟨k', e, y⟩ := hk.exit _ _ _ z
      exact ⟨k', by simp [exitTo, this, e], y⟩
  · intro a h t z; exact hk.ret _ _ _ z
  · intro ch a h t z; exact hk.panic _ _ _ _ z

/-- A LOOP: an invariant over whatever index, and a measure. -/
theorem WC_loop {ι : Type} {c : Code} (I : ι → Act → LH → Prop) (μ : ι → Nat) {i₀ : ι} {a : Act} {h : LH} {Q : Out → Act → LH → Prop} (h₀ : I i₀ a h)
    (round : ∀ i a h, I i a h → WC A c a h (Then (fun a' h' => ∃ j, I j a' h' ∧ μ j < μ i) Q)) : WC A (.loop c) a h Q := by
  intro S hS b k cs hb hk
  have key : ∀ n i a h, μ i = n → I i a h → S (G (b.at a (.code c :: .inLoop c :: k)) cs) h := by
    intro n
    induction n using Nat.strongRecOn with
    | _ n ih =>
      intro i a h hn hI
      refine round i a h hI S hS b (.inLoop c :: k) cs hb ⟨?_, ?_, ?_, ?_⟩
      · intro a' h' ⟨j, hj, hlt⟩
        exact ctl hS rfl (fun w => stepG_inLoop) (ih (μ j) (hn ▸ hlt) j a' h' rfl hj)
      · intro id a h z; obtain ⟨k', e, y⟩ := hk.exit _ _ _ z; exact ⟨k', by simpa [exitTo] using e, y⟩
      · intro a h t z; exact hk.ret _ _ _ z
      · intro ch a h t z; exact hk.panic _ _ _ _ z
  exact ctl hS rfl (fun w => stepG_loop) (key _ _ _ _ rfl h₀)

/-! ### regions -/
theorem WC_region {id : Nat} {ops : Array Oper} {a : Act} {h : LH} {Q : Out → Act → LH → Prop} (x : WR A ops (List.range ops.size) a h Q) : WC A (.region id ops false) a h Q :=
  fun S hS b k cs hb hk => ctl hS rfl (fun w => stepG_region) (x S hS b k cs hb hk)

omit hA in
theorem stepG_regionDraw {b : Frame} {a : Act} {k : List Item} {cs : List Frame} {w : World} {id : Nat} {ops : Array Oper} :
    stepG P main (G (b.at a (.code (.region id ops true) :: k)) cs) w = .go (G (b.at a (.inRegion ops (Region.schedule (P.follows .mixedOrders) ops (w.tape w.drawn (.order b.fn id))) :: k)) cs) { w with drawn := w.drawn + 1 } := by
  simp [G, stepG, stepG.exec, Frame.at, choose, Sem.run, Question.forced, Question.cut]

theorem WC_regionDraw {id : Nat} {ops : Array Oper} {a : Act} {h : LH} {Q : Out → Act → LH → Prop} (x : ∀ t, WR A ops (Region.schedule (P.follows .mixedOrders) ops t) a h Q) : WC A (.region id ops true) a h Q :=
  fun S hS b k cs hb hk => hA.closed S hS _ h rfl fun w hw => ⟨_, _, #[], h, stepG_regionDraw, step_at hw _, x _ S hS b k cs hb hk⟩

theorem WR_nil {ops : Array Oper} {a : Act} {h : LH} {Q : Out → Act → LH → Prop} (x : Q .normal a h) : WR A ops [] a h Q :=
  fun S hS b k cs _ hk => ctl hS rfl (fun w => stepG_region_end) (hk.normal _ _ x)

theorem WR_skip {ops : Array Oper} {i : Nat} {is : List Nat} {o : Oper} {a : Act} {h : LH} {Q : Out → Act → LH → Prop} (ho : ops[i]? = some o) (hw : Region.wanted o (yielded ops a.tmps) = false)
    (x : WR A ops is (a.put o.dst undef) h Q) : WR A ops (i :: is) a h Q := by
  intro S hS b k cs hb hk
  refine ctl (g' := G (b.at (a.put o.dst undef) (.inRegion ops is :: k)) cs) hS rfl (fun w => ?_) (x S hS b k cs hb hk)
  have hfin : (b.at a (.inRegion ops (i :: is) :: k)).finish undef = b.at (a.put o.dst undef) (.inRegion ops is :: k) := by rw [Frame.finish_at, ho]; rfl
  rw [← hfin]
  simp [G, stepG, stepG.exec, Frame.at, ho, hw]

/-- What is asked behind an operation. -/
def Behind (P : Program) (A : (Goroutine → LH → Prop) → Prop) (o : Oper) (a : Act) (next : Act → LH → Prop) (Q : Out → Act → LH → Prop) : Next → LH → Prop
  | .value v, h => next (a.put o.dst v) h
  | .skip, h => next (a.put o.dst undef) h
  | .defer d, h => next ({ a with defers := d :: a.defers }.put o.dst undef) h
  | .enter f args, h => FnE P A f args h fun
      | .returned v, h' => next (a.put o.dst v) h'
      | .panicked ch, h' => Q (.panic ch) a h'
  | _, _ => False

omit hA in
theorem evs_seen {lo : Nat → Prop} {h : LH} {P : Program} {fn : FuncId} {es : List Event} (x : ∀ e ∈ es, EvOk lo h e) : ∀ e ∈ (seen P fn es.toArray).toList, EvOk lo h e :=
  fun e he => x e (by have := Conc.mem_seen (Array.mem_toList_iff.1 he); simpa using this)

omit hA in
theorem StepOk.seen {lo : Nat → Prop} {h h' : LH} {w w' : World} {es : List Event} (x : StepOk lo h w h' w' es) (P : Program) (fn : FuncId) : StepOk lo h w h' w' (seen P fn es.toArray).toList :=
  ⟨x.inc, x.os, x.tape, x.output, x.size, x.keep, x.dom, x.newd, x.ro, evs_seen x.evs⟩

theorem WR_op {ops : Array Oper} {i : Nat} {is : List Nat} {o : Oper} {a : Act} {h : LH} {Q : Out → Act → LH → Prop} (ho : ops[i]? = some o) (hw : Region.wanted o (yielded ops a.tmps) = true)
    (x : wpL P lo (execOp a.eval o) h (Behind P A o a (fun a h => WR A ops is a h Q) Q) (fun v h' => Q (.panic [{ v, recovered := false }]) a h')) : WR A ops (i :: is) a h Q := by
  intro S hS b k cs hb hk
  refine hA.closed S hS _ h rfl fun w hw' => ?_
  obtain ⟨r, h', w', es', e1, e2, e3⟩ := wpL_sound P lo _ _ _ _ w #[] x hw'
  have hk' : (b.kind == CallKind.early) = false := by simpa using hb
  simp only [List.append_toArray, List.nil_append, Array.empty_append] at e1
  have e1r : (execOp a.eval o).run P w = r := by rw [← Sem.runT_fst P _ w #[], e1]
  have e1e : (execOp a.eval o).events P w #[] = es'.toArray := by unfold Sem.events; rw [e1]
  rcases e3 with ⟨n, rfl, hn⟩ | ⟨v, rfl, hv⟩
  · cases n <;> first | exact hn.elim | skip
    case value v =>
      refine ⟨G (b.at (a.put o.dst v) (.inRegion ops is :: k)) cs, w', seen P b.fn es'.toArray, h', ?_, e2.seen P b.fn, hn S hS b k cs hb hk⟩
      have hfin : (b.at a (.inRegion ops (i :: is) :: k)).finish v = b.at (a.put o.dst v) (.inRegion ops is :: k) := by rw [Frame.finish_at, ho]; rfl
      rw [stepG_oper ho hw, ← hfin]
      simp [stepG.apply, e1r, e1e, G, Frame.at, hk', GStep.after]
    case skip =>
      refine ⟨G (b.at (a.put o.dst undef) (.inRegion ops is :: k)) cs, w', seen P b.fn es'.toArray, h', ?_, e2.seen P b.fn, hn S hS b k cs hb hk⟩
      have hfin : (b.at a (.inRegion ops (i :: is) :: k)).finish undef = b.at (a.put o.dst undef) (.inRegion ops is :: k) := by rw [Frame.finish_at, ho]; rfl
      rw [stepG_oper ho hw, ← hfin]
      simp [stepG.apply, e1r, e1e, G, Frame.at, hk', GStep.after]
    case defer d =>
      refine ⟨G (b.at ({ a with defers := d :: a.defers }.put o.dst undef) (.inRegion ops is :: k)) cs, w', seen P b.fn es'.toArray, h', ?_, e2.seen P b.fn, hn S hS b k cs hb hk⟩
      have hfin : (b.at { a with defers := d :: a.defers } (.inRegion ops (i :: is) :: k)).finish undef = b.at ({ a with defers := d :: a.defers }.put o.dst undef) (.inRegion ops is :: k) := by rw [Frame.finish_at, ho]; rfl
      rw [stepG_oper ho hw, ← hfin]
      simp [stepG.apply, e1r, e1e, G, Frame.at, hk', GStep.after]
    case enter f args =>
      refine ⟨G (Frame.enter P f args .normal) (b.at a (.inRegion ops (i :: is) :: k) :: cs), w', seen P b.fn es'.toArray, h', ?_, e2.seen P b.fn, ?_⟩
      · rw [stepG_oper ho hw]
        simp [stepG.apply, e1r, e1e, G, Frame.at, hk', GStep.after]
      · refine hn S hS _ cs rfl (fun v h'' hv => ?_) (fun ch h'' hv => ?_)
        · have hfin : (b.at a (.inRegion ops (i :: is) :: k)).finish v = b.at (a.put o.dst v) (.inRegion ops is :: k) := by rw [Frame.finish_at, ho]; rfl
          rw [hfin]
          exact hv S hS b k cs hb hk
        · exact hk.panic ch a h'' _ hv
  · refine ⟨G { b.at a (.inRegion ops (i :: is) :: k) with mode := .panicking [{ v, recovered := false }] } cs, w', seen P b.fn es'.toArray, h', ?_, e2.seen P b.fn, hk.panic _ a h' _ hv⟩
    rw [stepG_oper ho hw]
    simp [stepG.apply, e1r, e1e, G, Frame.at, hk', GStep.after, Frame.raise]

/-! ### a function from its body -/
/-- What is asked at the end of a body. -/
def AtEnd (P : Program) (lo : Nat → Prop) (fn : Func) (R : End → LH → Prop) : Out → Act → LH → Prop
  | .normal, a, h | .ret, a, h => a.defers = [] ∧ wpL P lo (results fn a.tmps) h (fun v h' => ∃ h'', LE h'' h' ∧ R (.returned v) h'') (fun _ _ => False)
  | .panic ch, a, h => a.defers = [] ∧ ∃ h'', LE h'' h ∧ R (.panicked ch) h''
  | .exit _, _, _ => False

theorem FnE_enter {f : FuncId} {fn : Func} {c : Code} {args : Array Value} {h : LH} {R : End → LH → Prop} (hf : P.funcs[f]? = some fn) (hc : fn.body = some c)
    (x : WC A c ⟨args ++ Array.replicate (fn.ntmps - args.size) undef, []⟩ h (AtEnd P lo fn R)) : FnE P A f args h R := by
  intro S hS c' cs hc' k1 k2
  let b : Frame := { fn := f, tmps := #[], todo := [], defers := [], mode := .run, kind := .normal }
  have e : Frame.enter P f args .normal = b.at ⟨args ++ Array.replicate (fn.ntmps - args.size) undef, []⟩ [.code c] := by
    simp [Frame.enter, Frame.at, hf, hc, b]
  rw [e]
  have hret : ∀ a h todo, AtEnd P lo fn R .ret a h → S (G { b.at a todo with mode := .returning } (c' :: cs)) h := by
    rintro ⟨tmps, ds⟩ h todo ⟨hd, hx⟩
    simp only at hd hx
    subst hd
    refine hA.closed S hS _ h rfl fun w hw => ?_
    obtain ⟨r, h', w', es', e1, e2, e3⟩ := wpL_sound P lo _ _ _ _ w #[] hx hw
    simp only [List.append_toArray, List.nil_append, Array.empty_append] at e1
    have e1r : (results fn tmps).run P w = r := by rw [← Sem.runT_fst P _ w #[], e1]
    have e1e : (results fn tmps).events P w #[] = es'.toArray := by unfold Sem.events; rw [e1]
    rcases e3 with ⟨v, rfl, hv⟩ | ⟨v, rfl, hv⟩
    · obtain ⟨h'', hle, hv⟩ := hv
      refine ⟨G (c'.finish v) cs, w', seen P f es'.toArray, h', ?_, e2.seen P f, hA.mono S hS _ _ _ hle (k1 v h'' hv)⟩
      simp [G, stepG, unwind, Frame.at, b, hf, e1r, e1e, GStep.after, doReturn]
    · exact hv.elim
  refine x S hS b [] (c' :: cs) (by simp [b]) ⟨?_, ?_, ?_, ?_⟩
  · intro a h z
    exact ctl hS rfl (fun w => stepG_end) (hret a h [] z)
  · intro id a h z; exact z.elim
  · exact hret
  · rintro ch ⟨tmps, ds⟩ h todo ⟨hd, hx⟩
    simp only at hd
    subst hd
    obtain ⟨h'', hle, hx⟩ := hx
    refine ctl (g' := G (c'.raise ch) cs) hS rfl (fun w => ?_) (hA.mono S hS _ _ _ hle (k2 ch h'' hx))
    simp [G, stepG, unwind, Frame.at, b, hf, Frame.catches]

/-! ### framing -/
omit hA in
theorem ov_nil (h : LH) : ov [] h = h := rfl

theorem FnE.frame {f : FuncId} {args : Array Value} {h : LH} {R : End → LH → Prop} {L : OL} (hL : Apart lo L h) (x : FnE P A f args h R) :
    FnE P A f args (ov L h) (fun e H => ∃ h', H = ov L h' ∧ Apart lo L h' ∧ R e h') := by
  intro S hS c cs hc k1 k2
  exact x _ (hA.frame S L hS) c cs hc (fun v h' hv ha => k1 v _ ⟨h', rfl, ha, hv⟩) (fun v h' hv ha => k2 v _ ⟨h', rfl, ha, hv⟩) hL

end

/-! ### the plain class: closed predicates -/
theorem ov_key {L : OL} {h : LH} {b : Nat} (hb : b ∈ keys L) : ov L h b ≠ none := by
  induction L with
  | nil => cases hb
  | cons x L ih =>
    obtain ⟨c, o⟩ := x
    simp only [ov]
    split
    · simp
    · rename_i hne
      exact ih (by simpa [keys, hne] using hb)
theorem ov_out {L : OL} {h : LH} {b : Nat} (hb : b ∉ keys L) : ov L h b = h b := by
  induction L with
  | nil => rfl
  | cons x L ih =>
    obtain ⟨c, o⟩ := x
    simp only [keys, List.map_cons, List.mem_cons, not_or] at hb
    simp only [ov, if_neg hb.1]
    exact ih hb.2
theorem ov_in_eq {L : OL} {h h' : LH} {b : Nat} (hb : b ∈ keys L) : ov L h b = ov L h' b := by
  induction L with
  | nil => cases hb
  | cons x L ih =>
    obtain ⟨c, o⟩ := x
    simp only [ov]
    split
    · rfl
    · rename_i hne
      exact ih (by simpa [keys, hne] using hb)

theorem Closed.frame {P : Program} {main : Bool} {lo : Nat → Prop} {S : Goroutine → LH → Prop} (hS : Closed P main lo S) (L : OL) :
    Closed P main lo (fun g h => Apart lo L h → S g (ov L h)) := by
  intro g h hr hx hL
  refine hS g _ hr fun w hw => ?_
  have hw' : Inc lo h w := ⟨fun b o hb => hw.at_ b o (by
    rw [ov_out]; exact hb
    intro hk; rw [hL.out b hk] at hb; cases hb), hw.lo⟩
  obtain ⟨g', w', es, h', e1, e2, e3⟩ := hx w hw'
  have hout : ∀ b ∈ keys L, h' b = none := by
    intro b hb
    cases ho : h' b with
    | none => rfl
    | some o =>
      rcases e2.newd b (by rw [ho]; simp) with y | y
      · exact absurd (hL.out b hb) y
      · have := hw.lt (b := b) (ov_key hb); omega
  refine ⟨g', w', es, ov L h', e1, ⟨⟨fun b o hb => ?_, e2.inc.lo⟩, e2.os, e2.tape, e2.output, e2.size, fun b hb hx => ?_, fun b hb => ?_, fun b hb => ?_, fun b hb => ?_, fun e he => (e2.evs e he).mono fun b hb => ?_⟩, e3 ⟨hL.nodup, hout, hL.lo⟩⟩
  · by_cases hk : b ∈ keys L
    · have hold := hw.at_ b o (by rw [← ov_in_eq hk]; exact hb)
      rw [e2.keep b (hw.lt (ov_key hk)) (.inl (hL.out b hk))]
      exact hold
    · rw [ov_out hk] at hb
      exact e2.inc.at_ b o hb
  · by_cases hk : b ∈ keys L
    · rcases hx with hx | hx
      · exact absurd hx (ov_key hk)
      · exact absurd hx (hL.lo b hk)
    · rw [ov_out hk] at hx
      exact e2.keep b hb hx
  · by_cases hk : b ∈ keys L
    · exact ov_key hk
    · rw [ov_out hk] at hb ⊢; exact e2.dom b hb
  · by_cases hk : b ∈ keys L
    · exact .inl (ov_key hk)
    · rw [ov_out hk] at hb ⊢; exact e2.newd b hb
  · have hk : b ∉ keys L := fun hk => hL.lo b hk hb
    rw [ov_out hk, ov_out hk]; exact e2.ro b hb
  · by_cases hk : b ∈ keys L
    · exact ov_key hk
    · rw [ov_out hk]; exact hb

def MonoS (S : Goroutine → LH → Prop) : Prop := ∀ g h h', LE h h' → S g h → S g h'
theorem Apart.le {lo : Nat → Prop} {L : OL} {h h' : LH} (hle : LE h h') (ha : Apart lo L h') : Apart lo L h := by
  refine ⟨ha.nodup, fun b hb => ?_, ha.lo⟩
  cases ho : h b with
  | none => rfl
  | some o => have := ha.out b hb; rw [hle _ _ ho] at this; cases this
theorem LE_ov {L : OL} {h h' : LH} (hle : LE h h') : LE (ov L h) (ov L h') := by
  intro b o hb
  by_cases hk : b ∈ keys L
  · rw [← ov_in_eq hk]; exact hb
  · rw [ov_out hk] at hb ⊢; exact hle _ _ hb
theorem MonoS.frame {lo : Nat → Prop} {S : Goroutine → LH → Prop} (hS : MonoS S) (L : OL) : MonoS (fun g h => Apart lo L h → S g (ov L h)) :=
  fun g h h' hle x ha => hS g _ _ (LE_ov hle) (x (ha.le hle))
/-- The plain class: closed and monotone. -/
def Plain (P : Program) (main : Bool) (lo : Nat → Prop) (S : Goroutine → LH → Prop) : Prop := Closed P main lo S ∧ MonoS S
instance adm_plain (P : Program) (main : Bool) (lo : Nat → Prop) : Adm P main lo (Plain P main lo) := ⟨fun _ h => h.1, fun _ L h => ⟨h.1.frame L, h.2.frame L⟩, fun _ h => h.2⟩

end Go.Lu
