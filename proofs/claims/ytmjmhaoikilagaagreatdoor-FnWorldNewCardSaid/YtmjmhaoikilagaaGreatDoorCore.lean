/-
  The local-heap engine: a weakest precondition for the model's own operations over a local heap, sound in every world that holds that heap.
-/
import Derived.Conc.Own
import Derived.Conc.Listed
set_option linter.unusedVariables false
set_option linter.unusedSimpArgs false
set_option linter.unusedSectionVars false
namespace Go.Lu
open Go.Conc (G)

/-- A LOCAL HEAP: the blocks that a goroutine knows. -/
abbrev LH := Nat → Option Obj

def LH.set (h : LH) (b : Nat) (o : Obj) : LH := fun c => if c = b then some o else h c
def LH.cell? (h : LH) (a : Addr) : Option Value :=
  match h a.block with
  | some (.cells c _ _) => if a.spot.isSome then none else c[a.off]?
  | _ => none
def LH.frozen? (h : LH) (a : Addr) : Bool :=
  match h a.block with
  | some (.cells _ _ (lo, hi)) => lo ≤ a.off && a.off < hi
  | _ => false
def LH.shape? (h : LH) (r : Nat) : Option (TypeId × Nat) :=
  match h r with
  | some (.cells c elem _) => some (elem, c.size)
  | _ => none
def cellOf (o : Obj) (a : Addr) (v : Value) : Obj :=
  match o with
  | .cells c elem frozen => .cells (if a.spot.isSome then c else c.setIfInBounds a.off v) elem frozen
  | o => o
def LH.setCell (h : LH) (a : Addr) (v : Value) : LH := fun c => if c = a.block then (h c).map (cellOf · a v) else h c
def isCells : Obj → Bool
  | .cells .. => true
  | _ => false

/-- The world holds the local heap; the blocks that may only be read ('lo') are there already. -/
structure Inc (lo : Nat → Prop) (h : LH) (w : World) : Prop where
  at_ : ∀ b o, h b = some o → w.heap[b]? = some o
  lo : ∀ b, lo b → b < w.heap.size

def Ans (q : Question) (n : Nat) : Prop := if q.forced then n = 0 else ∃ t, n = q.cut t

def flat : Value → Bool
  | .agg _ | .tuple _ => false
  | _ => true

/-- WHAT MUST HOLD OF A LOCAL HEAP FOR AN OPERATION TO END IN 'Q' (by a value) OR 'R' (by a panic). -/
def wpL {α : Type} (P : Program) (lo : Nat → Prop) : Sem α → LH → (α → LH → Prop) → (Value → LH → Prop) → Prop
  | .pure a, h, Q, _ => Q a h
  | .load m a k, h, Q, R => m = .plain ∧ ∃ v, h.cell? a = some v ∧ wpL P lo (k v) h Q R
  | .store m a v k, h, Q, R => m = .plain ∧ flat v = true ∧ ¬ lo a.block ∧ (∃ x, h.cell? a = some x) ∧ h.frozen? a = false ∧ wpL P lo k (h.setCell a v) Q R
  | .new o k, h, Q, R => ∀ r, h r = none → ¬ lo r → wpL P lo (k r) (h.set r o) Q R
  | .shape r k, h, Q, R => (∃ o, h r = some o) ∧ wpL P lo (k (h.shape? r)) h Q R
  | .freeze _ _ _, _, _, _ => False
  | .frozen a k, h, Q, R => (∃ o, h a.block = some o) ∧ wpL P lo (k (h.frozen? a)) h Q R
  | .getObj r k, h, Q, R => ∃ o, h r = some o ∧ isCells o = false ∧ o.isChan = false ∧ wpL P lo (k o) h Q R
  | .setObj r o k, h, Q, R => ¬ lo r ∧ (∃ o', h r = some o' ∧ isCells o' = false) ∧ o.isChan = false ∧ wpL P lo k (h.set r o) Q R
  | .choose q k, h, Q, R => ∀ n, Ans q n → wpL P lo (k n) h Q R
  | .sys _ _, _, _, _ => False
  | .program k, h, Q, R => wpL P lo (k P) h Q R
  | .mark m k, h, Q, R => (m = .noRoom ∨ ∃ f, m = .extern f) ∧ wpL P lo k h Q R
  | .halt (.panic v), h, _, R => R v h
  | .halt _, _, _, _ => False

theorem wpL_bind {α β : Type} {P : Program} {lo : Nat → Prop} (s : Sem α) (f : α → Sem β) : ∀ (h : LH) (Q : β → LH → Prop) (R : Value → LH → Prop),
    wpL P lo (s.bind f) h Q R = wpL P lo s h (fun a h' => wpL P lo (f a) h' Q R) R := by
  induction s with
  | pure a => intro h Q R; rfl
  | load m a k ih => intro h Q R; simp only [Sem.bind, wpL, ih]
  | store m a v k ih => intro h Q R; simp only [Sem.bind, wpL, ih]
  | new o k ih => intro h Q R; simp only [Sem.bind, wpL, ih]
  | shape r k ih => intro h Q R; simp only [Sem.bind, wpL, ih]
  | freeze a n k ih => intro h Q R; simp only [Sem.bind, wpL]
  | frozen a k ih => intro h Q R; simp only [Sem.bind, wpL, ih]
  | getObj r k ih => intro h Q R; simp only [Sem.bind, wpL, ih]
  | setObj r o k ih => intro h Q R; simp only [Sem.bind, wpL, ih]
  | choose q k ih => intro h Q R; simp only [Sem.bind, wpL, ih]
  | sys c k ih => intro h Q R; simp only [Sem.bind, wpL]
  | program k ih => intro h Q R; simp only [Sem.bind, wpL, ih]
  | mark m k ih => intro h Q R; simp only [Sem.bind, wpL, ih]
  | halt x => intro h Q R; cases x <;> simp only [Sem.bind, wpL]

theorem wpL_bind' {α β : Type} {P : Program} {lo : Nat → Prop} (s : Sem α) (f : α → Sem β) (h : LH) (Q : β → LH → Prop) (R : Value → LH → Prop) :
    wpL P lo (s >>= f) h Q R = wpL P lo s h (fun a h' => wpL P lo (f a) h' Q R) R := wpL_bind s f h Q R
theorem wpL_pure {α : Type} {P : Program} {lo : Nat → Prop} (a : α) (h : LH) (Q : α → LH → Prop) (R : Value → LH → Prop) :
    wpL P lo (pure a) h Q R = Q a h := rfl
theorem wpL_map {α β : Type} {P : Program} {lo : Nat → Prop} (s : Sem α) (f : α → β) (h : LH) (Q : β → LH → Prop) (R : Value → LH → Prop) :
    wpL P lo (f <$> s) h Q R = wpL P lo s h (fun a h' => Q (f a) h') R := wpL_bind s (fun a => .pure (f a)) h Q R

theorem wpL_mono {α : Type} {P : Program} {lo : Nat → Prop} (s : Sem α) : ∀ (h : LH) (Q Q' : α → LH → Prop) (R R' : Value → LH → Prop),
    (∀ a h, Q a h → Q' a h) → (∀ v h, R v h → R' v h) → wpL P lo s h Q R → wpL P lo s h Q' R' := by
  induction s with
  | pure a => intro h Q Q' R R' hq hr x; exact hq _ _ x
  | load m a k ih => intro h Q Q' R R' hq hr x; obtain ⟨x1, v, x2, x3⟩ := x; exact ⟨x1, v, x2, ih _ _ _ _ _ _ hq hr x3⟩
  | store m a v k ih => intro h Q Q' R R' hq hr x; obtain ⟨x1, x2, x3, x4, x5, x6⟩ := x; exact ⟨x1, x2, x3, x4, x5, ih _ _ _ _ _ hq hr x6⟩
  | new o k ih => intro h Q Q' R R' hq hr x; exact fun r h1 h2 => ih _ _ _ _ _ _ hq hr (x r h1 h2)
  | shape r k ih => intro h Q Q' R R' hq hr x; exact ⟨x.1, ih _ _ _ _ _ _ hq hr x.2⟩
  | freeze a n k ih => intro h Q Q' R R' hq hr x; exact x
  | frozen a k ih => intro h Q Q' R R' hq hr x; exact ⟨x.1, ih _ _ _ _ _ _ hq hr x.2⟩
  | getObj r k ih => intro h Q Q' R R' hq hr x; obtain ⟨o, x1, x2, x3, x4⟩ := x; exact ⟨o, x1, x2, x3, ih _ _ _ _ _ _ hq hr x4⟩
  | setObj r o k ih => intro h Q Q' R R' hq hr x; exact ⟨x.1, x.2.1, x.2.2.1, ih _ _ _ _ _ hq hr x.2.2.2⟩
  | choose q k ih => intro h Q Q' R R' hq hr x; exact fun n hn => ih _ _ _ _ _ _ hq hr (x n hn)
  | sys c k ih => intro h Q Q' R R' hq hr x; exact x
  | program k ih => intro h Q Q' R R' hq hr x; exact ih _ _ _ _ _ _ hq hr x
  | mark m k ih => intro h Q Q' R R' hq hr x; exact ⟨x.1, ih _ _ _ _ _ hq hr x.2⟩
  | halt y => intro h Q Q' R R' hq hr x; cases y <;> first | exact hr _ _ x | exact x

/-! ### what a step does to the world -/
def EvOk (lo : Nat → Prop) (h : LH) (e : Event) : Prop :=
  match e.loc with
  | .cell a => e.sync = false ∧ h a.block ≠ none ∧ (e.write = true → ¬ lo a.block)
  | .obj r => e.sync = false ∧ h r ≠ none ∧ (e.write = true → ¬ lo r)
  | .mark .noRoom | .mark (.extern _) => True
  | _ => False

structure StepOk (lo : Nat → Prop) (h : LH) (w : World) (h' : LH) (w' : World) (es : List Event) : Prop where
  inc : Inc lo h' w'
  os : w'.os = w.os
  tape : w'.tape = w.tape
  output : w'.output = w.output
  size : w.heap.size ≤ w'.heap.size
  keep : ∀ b, b < w.heap.size → (h b = none ∨ lo b) → w'.heap[b]? = w.heap[b]?
  dom : ∀ b, h b ≠ none → h' b ≠ none
  newd : ∀ b, h' b ≠ none → h b ≠ none ∨ w.heap.size ≤ b
  ro : ∀ b, lo b → h' b = h b
  evs : ∀ e ∈ es, EvOk lo h' e

theorem EvOk.mono {lo : Nat → Prop} {h h' : LH} (hd : ∀ b, h b ≠ none → h' b ≠ none) {e : Event} (x : EvOk lo h e) : EvOk lo h' e := by
  obtain ⟨loc, wr, sy⟩ := e
  cases loc with
  | cell a => exact ⟨x.1, hd _ x.2.1, x.2.2⟩
  | obj r => exact ⟨x.1, hd _ x.2.1, x.2.2⟩
  | output => exact x
  | goroutines => exact x
  | mark m => cases m <;> exact x

theorem StepOk.refl {lo : Nat → Prop} {h : LH} {w : World} (hi : Inc lo h w) : StepOk lo h w h w [] :=
  ⟨hi, rfl, rfl, rfl, Nat.le_refl _, fun _ _ _ => rfl, fun _ x => x, fun _ x => .inl x, fun _ _ => rfl, fun e he => by cases he⟩

theorem StepOk.trans {lo : Nat → Prop} {h h₁ h₂ : LH} {w w₁ w₂ : World} {es es' : List Event} (a : StepOk lo h w h₁ w₁ es) (b : StepOk lo h₁ w₁ h₂ w₂ es') :
    StepOk lo h w h₂ w₂ (es ++ es') := by
  refine ⟨b.inc, b.os.trans a.os, b.tape.trans a.tape, b.output.trans a.output, Nat.le_trans a.size b.size, ?_, fun c x => b.dom c (a.dom c x), ?_, fun c x => (b.ro c x).trans (a.ro c x), ?_⟩
  · intro c hc hx
    rw [b.keep c (Nat.lt_of_lt_of_le hc a.size) ?_, a.keep c hc hx]
    rcases hx with hx | hx
    · by_cases hn : h₁ c = none
      · exact .inl hn
      · rcases a.newd c hn with y | y
        · exact absurd hx y
        · omega
    · exact .inr hx
  · intro c hc
    rcases b.newd c hc with y | y
    · exact a.newd c y
    · exact .inr (Nat.le_trans a.size y)
  · intro e he
    rcases List.mem_append.1 he with y | y
    · exact (a.evs e y).mono b.dom
    · exact b.evs e y

/-! ### soundness -/
theorem Inc.cell {lo : Nat → Prop} {h : LH} {w : World} (hi : Inc lo h w) {a : Addr} {v : Value} (hc : h.cell? a = some v) : w.cell? a = some v := by
  unfold LH.cell? at hc
  unfold World.cell?
  cases hb : h a.block with
  | none => rw [hb] at hc; cases hc
  | some o => rw [hi.at_ _ _ hb]; rw [hb] at hc; exact hc
theorem Inc.frozen {lo : Nat → Prop} {h : LH} {w : World} (hi : Inc lo h w) {a : Addr} {o : Obj} (hc : h a.block = some o) : w.frozen? a = h.frozen? a := by
  unfold LH.frozen? World.frozen?
  rw [hc, hi.at_ _ _ hc]
  cases o <;> rfl
theorem Inc.shape {lo : Nat → Prop} {h : LH} {w : World} (hi : Inc lo h w) {r : Nat} {o : Obj} (hc : h r = some o) : w.shape? r = h.shape? r := by
  unfold LH.shape? World.shape?
  rw [hc, hi.at_ _ _ hc]
  cases o <;> rfl
theorem cell_some {h : LH} {a : Addr} {v : Value} (hc : h.cell? a = some v) : ∃ c e f, h a.block = some (.cells c e f) := by
  unfold LH.cell? at hc
  split at hc
  · exact ⟨_, _, _, ‹_›⟩
  · cases hc
theorem Inc.lt {lo : Nat → Prop} {h : LH} {w : World} (hi : Inc lo h w) {b : Nat} (hb : h b ≠ none) : b < w.heap.size := by
  cases ho : h b with
  | none => exact absurd ho hb
  | some o => exact (Array.getElem?_eq_some_iff.1 (hi.at_ _ _ ho)).1

theorem step_at {lo : Nat → Prop} {h : LH} {w : World} (hi : Inc lo h w) (d : Nat) : StepOk lo h w h { w with drawn := d } [] :=
  ⟨⟨hi.at_, hi.lo⟩, rfl, rfl, rfl, Nat.le_refl _, fun _ _ _ => rfl, fun _ x => x, fun _ x => .inl x, fun _ _ => rfl, fun e he => by cases he⟩

theorem step_ev {lo : Nat → Prop} {h : LH} {w : World} (hi : Inc lo h w) {e : Event} (he : EvOk lo h e) : StepOk lo h w h w [e] :=
  ⟨hi, rfl, rfl, rfl, Nat.le_refl _, fun _ _ _ => rfl, fun _ x => x, fun _ x => .inl x, fun _ _ => rfl, fun e' h' => by simp at h'; subst h'; exact he⟩

theorem step_new {lo : Nat → Prop} {h : LH} {w : World} (hi : Inc lo h w) (o : Obj) : StepOk lo h w (h.set w.heap.size o) { w with heap := w.heap.push o } [] := by
  refine ⟨⟨fun b x hb => ?_, fun b hb => ?_⟩, rfl, rfl, rfl, ?_, fun b hb _ => ?_, fun b hb => ?_, fun b hb => ?_, fun b hb => ?_, fun e he => by cases he⟩
  · unfold LH.set at hb
    split at hb
    · rename_i e; subst e; simp [← Option.some.inj hb]
    · have := hi.at_ b x hb
      have hl := (Array.getElem?_eq_some_iff.1 this).1
      simp only [Array.getElem?_push]
      rw [if_neg (by omega)]; exact this
  · have := hi.lo b hb; simp; omega
  · simp
  · simp only [Array.getElem?_push]
    rw [if_neg (by omega)]
  · unfold LH.set; split
    · simp
    · exact hb
  · unfold LH.set at hb; split at hb
    · right; omega
    · exact .inl hb
  · unfold LH.set; rw [if_neg]; have := hi.lo b hb; omega

theorem step_setObj {lo : Nat → Prop} {h : LH} {w : World} (hi : Inc lo h w) {r : Nat} {o o' : Obj} (hr : h r = some o') (hlo : ¬ lo r) :
    StepOk lo h w (h.set r o) { w with heap := w.heap.setIfInBounds r o } [] := by
  have hl : r < w.heap.size := hi.lt (by rw [hr]; simp)
  refine ⟨⟨fun b x hb => ?_, fun b hb => ?_⟩, rfl, rfl, rfl, ?_, fun b hb hx => ?_, fun b hb => ?_, fun b hb => ?_, fun b hb => ?_, fun e he => by cases he⟩
  · unfold LH.set at hb
    split at hb
    · rename_i e; subst e; simp [hl, Option.some.inj hb]
    · rename_i e; simp only [Array.getElem?_setIfInBounds_ne (Ne.symm e)]; exact hi.at_ b x hb
  · have := hi.lo b hb; simpa using this
  · simp
  · have : b ≠ r := by
      rintro rfl
      rcases hx with hx | hx
      · rw [hr] at hx; cases hx
      · exact hlo hx
    simp only [Array.getElem?_setIfInBounds_ne (Ne.symm this)]
  · unfold LH.set; split
    · simp
    · exact hb
  · unfold LH.set at hb; split at hb
    · rename_i e; left; rw [e, hr]; simp
    · exact .inl hb
  · unfold LH.set; rw [if_neg]; rintro rfl; exact hlo hb

theorem heap_modify (w : World) (a : Addr) (v : Value) : (w.setCell a v).heap = w.heap.modify a.block (cellOf · a v) := rfl

theorem step_setCell {lo : Nat → Prop} {h : LH} {w : World} (hi : Inc lo h w) {a : Addr} {x v : Value} (hr : h.cell? a = some x) (hlo : ¬ lo a.block) :
    StepOk lo h w (h.setCell a v) (w.setCell a v) [] := by
  obtain ⟨c, e, f, hb⟩ := cell_some hr
  have hl : a.block < w.heap.size := hi.lt (by rw [hb]; simp)
  refine ⟨⟨fun b y hy => ?_, fun b hb' => ?_⟩, rfl, rfl, rfl, ?_, fun b hb' hx => ?_, fun b hb' => ?_, fun b hb' => ?_, fun b hb' => ?_, fun e he => by cases he⟩
  · unfold LH.setCell at hy
    rw [heap_modify, Array.getElem?_modify]
    split at hy
    · rename_i e'; subst e'
      rw [if_pos rfl, hi.at_ _ _ hb]
      rw [hb] at hy; exact hy
    · rename_i e'; rw [if_neg (Ne.symm e')]; exact hi.at_ _ _ hy
  · have := hi.lo b hb'; rw [heap_modify]; simpa using this
  · rw [heap_modify]; simp
  · rw [heap_modify, Array.getElem?_modify, if_neg]
    rintro rfl
    rcases hx with hx | hx
    · rw [hb] at hx; cases hx
    · exact hlo hx
  · unfold LH.setCell; split
    · rename_i e'; subst e'; rw [hb]; simp
    · exact hb'
  · unfold LH.setCell at hb'; split at hb'
    · rename_i e'; subst e'; left; rw [hb]; simp
    · exact .inl hb'
  · unfold LH.setCell; rw [if_neg]; rintro rfl; exact hlo hb'

/-- HOW AN OPERATION ENDS. -/
def Ends {α : Type} (r : Result α) (w' : World) (h' : LH) (Q : α → LH → Prop) (R : Value → LH → Prop) : Prop :=
  (∃ a, r = .ok a w' ∧ Q a h') ∨ (∃ v, r = .halt (.panic v) w' ∧ R v h')

theorem push_app (es : Array Event) (e : Event) (l : List Event) : es.push e ++ l.toArray = es ++ (e :: l).toArray := by
  apply Array.ext'; simp

theorem wpL_sound {α : Type} (P : Program) (lo : Nat → Prop) (s : Sem α) : ∀ (h : LH) (Q : α → LH → Prop) (R : Value → LH → Prop) (w : World) (es : Array Event),
    wpL P lo s h Q R → Inc lo h w →
    ∃ r h' w' es', s.runT P w es = (r, es ++ es'.toArray) ∧ StepOk lo h w h' w' es' ∧ Ends r w' h' Q R := by
  induction s with
  | pure a => intro h Q R w es x hi; exact ⟨.ok a w, h, w, [], by simp [Sem.runT], .refl hi, .inl ⟨a, rfl, x⟩⟩
  | load m a k ih =>
    intro h Q R w es x hi
    obtain ⟨rfl, v, hc, x⟩ := x
    obtain ⟨r, h', w', es', e1, e2, e3⟩ := ih v h Q R w (es.push ⟨.cell a, false, false⟩) x hi
    refine ⟨r, h', w', ⟨.cell a, false, false⟩ :: es', ?_, ?_, e3⟩
    · simp only [Sem.runT, hi.cell hc]
      rw [← push_app]; exact e1
    · obtain ⟨c, e, f, hb⟩ := cell_some hc
      exact (step_ev hi (e := ⟨.cell a, false, false⟩) ⟨rfl, by simp [hb], fun z => by cases z⟩).trans e2
  | store m a v k ih =>
    intro h Q R w es x hi
    obtain ⟨rfl, hf, hlo, ⟨y, hc⟩, hz, x⟩ := x
    have hst := step_setCell (v := v) hi hc hlo
    obtain ⟨c, e, f, hb⟩ := cell_some hc
    have hfz : w.frozen? a = false := by rw [hi.frozen hb]; exact hz
    obtain ⟨r, h', w', es', e1, e2, e3⟩ := ih _ Q R _ (es.push ⟨.cell a, true, false⟩) x hst.inc
    refine ⟨r, h', w', ⟨.cell a, true, false⟩ :: es', ?_, ?_, e3⟩
    · rw [← push_app]
      have : Sem.runT P (.store .plain a v k) w es = Sem.runT P k (w.setCell a v) (es.push ⟨.cell a, true, false⟩) := by
        cases v <;> first | (simp only [Sem.runT, hi.cell hc, hfz]; rfl) | (simp [flat] at hf)
      rw [this]; exact e1
    · exact (step_ev hi (e := ⟨.cell a, true, false⟩) ⟨rfl, by simp [hb], fun _ => hlo⟩).trans (hst.trans e2)
  | new o k ih =>
    intro h Q R w es x hi
    have hn : h w.heap.size = none := by
      cases ho : h w.heap.size with
      | none => rfl
      | some o => have := hi.lt (b := w.heap.size) (by rw [ho]; simp); omega
    have hst := step_new hi o
    obtain ⟨r, h', w', es', e1, e2, e3⟩ := ih w.heap.size _ Q R _ es (x _ hn (fun hl => Nat.lt_irrefl _ (hi.lo _ hl))) hst.inc
    exact ⟨r, h', w', es', by simp only [Sem.runT]; exact e1, hst.trans e2, e3⟩
  | shape r k ih =>
    intro h Q R w es x hi
    obtain ⟨⟨o, ho⟩, x⟩ := x
    obtain ⟨r', h', w', es', e1, e2, e3⟩ := ih _ _ Q R w es x hi
    exact ⟨r', h', w', es', by simp only [Sem.runT, hi.shape ho]; exact e1, e2, e3⟩
  | freeze a n k ih => intro h Q R w es x hi; exact x.elim
  | frozen a k ih =>
    intro h Q R w es x hi
    obtain ⟨⟨o, ho⟩, x⟩ := x
    obtain ⟨r', h', w', es', e1, e2, e3⟩ := ih _ _ Q R w es x hi
    exact ⟨r', h', w', es', by simp only [Sem.runT, hi.frozen ho]; exact e1, e2, e3⟩
  | getObj r k ih =>
    intro h Q R w es x hi
    obtain ⟨o, ho, hnc, hch, x⟩ := x
    obtain ⟨r', h', w', es', e1, e2, e3⟩ := ih o _ Q R w (es.push ⟨.obj r, false, o.isChan⟩) x hi
    refine ⟨r', h', w', ⟨.obj r, false, o.isChan⟩ :: es', ?_, (step_ev hi (e := ⟨.obj r, false, o.isChan⟩) ⟨hch, by simp [ho], fun z => by cases z⟩).trans e2, e3⟩
    rw [← push_app]
    have hw := hi.at_ _ _ ho
    cases o <;> first | (simp only [Sem.runT, hw]; exact e1) | (simp [isCells] at hnc)
  | setObj r o k ih =>
    intro h Q R w es x hi
    obtain ⟨hlo, ⟨o', ho, hnc⟩, hch, x⟩ := x
    have hst := step_setObj (o := o) hi ho hlo
    obtain ⟨r', h', w', es', e1, e2, e3⟩ := ih _ Q R _ (es.push ⟨.obj r, true, o.isChan⟩) x hst.inc
    refine ⟨r', h', w', ⟨.obj r, true, o.isChan⟩ :: es', ?_, (step_ev hi (e := ⟨.obj r, true, o.isChan⟩) ⟨hch, by simp [ho], fun _ => hlo⟩).trans (hst.trans e2), e3⟩
    rw [← push_app]
    have hw := hi.at_ _ _ ho
    cases o' <;> first | (simp only [Sem.runT, hw]; exact e1) | (simp [isCells] at hnc)
  | choose q k ih =>
    intro h Q R w es x hi
    by_cases hq : q.forced = true
    · obtain ⟨r', h', w', es', e1, e2, e3⟩ := ih 0 _ Q R w es (x 0 (by simp [Ans, hq])) hi
      exact ⟨r', h', w', es', by simp only [Sem.runT, hq, if_true]; exact e1, e2, e3⟩
    · have hst := step_at hi (w.drawn + 1)
      obtain ⟨r', h', w', es', e1, e2, e3⟩ := ih (q.cut (w.tape w.drawn q)) _ Q R { w with drawn := w.drawn + 1 } es (x _ (by simp only [Ans, if_neg hq]; exact ⟨_, rfl⟩)) hst.inc
      exact ⟨r', h', w', es', by simp only [Sem.runT, if_neg hq]; exact e1, hst.trans e2, e3⟩
  | sys c k ih => intro h Q R w es x hi; exact x.elim
  | program k ih =>
    intro h Q R w es x hi
    obtain ⟨r', h', w', es', e1, e2, e3⟩ := ih P _ Q R w es x hi
    exact ⟨r', h', w', es', by simp only [Sem.runT]; exact e1, e2, e3⟩
  | mark m k ih =>
    intro h Q R w es x hi
    obtain ⟨hm, x⟩ := x
    obtain ⟨r', h', w', es', e1, e2, e3⟩ := ih _ Q R w (es.push ⟨.mark m, false, true⟩) x hi
    refine ⟨r', h', w', ⟨.mark m, false, true⟩ :: es', ?_, (step_ev hi (e := ⟨.mark m, false, true⟩) ?_).trans e2, e3⟩
    · rw [← push_app]; simp only [Sem.runT]; exact e1
    · rcases hm with rfl | ⟨f, rfl⟩ <;> exact trivial
  | halt y =>
    intro h Q R w es x hi
    cases y with
    | panic v => exact ⟨.halt (.panic v) w, h, w, [], by simp [Sem.runT], .refl hi, .inr ⟨_, rfl, x⟩⟩
    | _ => exact False.elim x

end Go.Lu
