/-
  Goroutines side by side, each with a heap of its own: what is held of the world and of the trace, and how a step keeps it.
-/
import Derived.Test.YtmjmhaoikilagaaGreatDoorJudge
import Derived.Conc.Beside
import Derived.Conc.CrowdTrace
set_option linter.unusedVariables false
set_option linter.unusedSimpArgs false
set_option linter.unusedSectionVars false
namespace Go.Lu
open Go.Conc Go.ConcN

def blk : Loc → Option Nat
  | .cell a => some a.block
  | .obj r => some r
  | _ => none
theorem blk_mem {l : Loc} (h : l.isMemory = true) : ∃ b, blk l = some b := by cases l <;> simp_all [Loc.isMemory, blk]
theorem blk_low {l : Loc} {b B : Nat} (h : blk l = some b) (hl : l.low B) : b < B := by
  cases l <;> simp_all [blk, Loc.low]

/-- The touch of a thing done, by its place. -/
theorem touch_low {B : Nat} {x : MemAct} {a : Touch} {b : Nat} (h : x.low B) (ht : x.touch? = some a) (hb : blk a.loc = some b) : b < B := by
  cases x with
  | access e =>
    simp only [MemAct.touch?, Option.some.injEq] at ht
    subst ht
    exact blk_low hb h
  | mark m =>
    cases m <;> simp only [MemAct.touch?, Option.some.injEq, reduceCtorEq] at ht
    all_goals
      subst ht
      simp only [blk, Option.some.injEq] at hb
      subst hb
      exact h
  | _ => simp [MemAct.touch?] at ht
theorem seen_touch {B : Nat} {t : Trace} (h : ∀ op ∈ t, op.act.low B) {i : Nat} {a : Touch} (ha : touchAt t i = some a) {b : Nat} (hb : blk a.loc = some b) : b < B := by
  obtain ⟨x, hx, hxa⟩ := touch_of ha
  exact touch_low (h x (mem_of_getElem? hx)) hxa hb

/-- One value turned. -/
def up {α : Type} (f : Nat → α) (g : Nat) (x : α) : Nat → α := fun k => if k = g then x else f k
theorem up_same {α : Type} (f : Nat → α) (g : Nat) (x : α) : up f g x g = x := by simp [up]
theorem up_ne {α : Type} (f : Nat → α) {g k : Nat} (x : α) (h : k ≠ g) : up f g x k = f k := by simp [up, h]

structure MH (lo : Nat → Nat → Prop) (H : Nat → LH) (w : World) : Prop where
  inc : ∀ g, Inc (lo g) (H g) w
  apart : ∀ g g' b, g ≠ g' → H g b ≠ none → H g' b ≠ none → lo g b ∧ lo g' b

structure MT (Sb : Nat → Prop) (bw : Nat) (lo : Nat → Nat → Prop) (H : Nat → LH) (B : Nat) (t : Trace) : Prop where
  clean : ∀ said, ¬ Race said t
  own : ∀ g b l, H g b ≠ none → ¬ lo g b → blk l = some b → Perm t g l
  rd : ∀ g b l, H g b ≠ none → lo g b → blk l = some b → PermW t g l
  quiet : ∀ i a, touchAt t i = some a → blk a.loc = some bw → a.kind ≠ .plain ∧ (a.kind = .said → t.g? i = some 0)
  free : ∀ g b, Sb b → H g b = none
  low : ∀ b, Sb b → b < B
  bw : Sb bw
  seen : ∀ op ∈ t, op.act.low B

section
variable {Sb : Nat → Prop} {bw : Nat} {lo : Nat → Nat → Prop} {H : Nat → LH} {w w' : World} {t : Trace} {g : Nat} {h' : LH} {es : List Event} {B : Nat}

theorem MH.step (m : MH lo H w) (x : StepOk (lo g) (H g) w h' w' es) : MH lo (up H g h') w' := by
  have olds : ∀ k b, k ≠ g → H k b ≠ none → h' b ≠ none → H g b ≠ none := fun k b hk hb hb' => by
    rcases x.newd b hb' with y | y
    · exact y
    · have := (m.inc k).lt hb; omega
  refine ⟨fun k => ?_, fun k k' b hkk hb hb' => ?_⟩
  · by_cases hk : k = g
    · subst hk; rw [up_same]; exact x.inc
    · rw [up_ne _ _ hk]
      refine ⟨fun b o hb => ?_, fun b hb => Nat.lt_of_lt_of_le ((m.inc k).lo b hb) x.size⟩
      have hb' : H k b ≠ none := by rw [hb]; simp
      rw [x.keep b ((m.inc k).lt hb') ?_]
      · exact (m.inc k).at_ b o hb
      · cases hg : H g b with
        | none => exact .inl rfl
        | some o' => exact .inr (m.apart g k b (Ne.symm hk) (by rw [hg]; simp) hb').1
  · by_cases hk : k = g
    · subst hk
      rw [up_same] at hb
      rw [up_ne _ _ (Ne.symm hkk)] at hb'
      exact m.apart k k' b hkk (olds k' b (Ne.symm hkk) hb' hb) hb'
    · rw [up_ne _ _ hk] at hb
      by_cases hk' : k' = g
      · subst hk'
        rw [up_same] at hb'
        exact m.apart k k' b hkk hb (olds k b hkk hb hb')
      · rw [up_ne _ _ hk'] at hb'
        exact m.apart k k' b hkk hb hb'

/-- What an entry of an own step touches. -/
theorem evOk_touch {l : Nat → Prop} {h : LH} {e : Event} (x : EvOk l h e) {a : Touch} (ha : (MemAct.ofEvent e).touch? = some a) :
    ∃ b, blk a.loc = some b ∧ h b ≠ none ∧ (a.write = true → ¬ l b) := by
  obtain ⟨loc, wr, sy⟩ := e
  cases loc with
  | cell ad =>
    obtain ⟨x1, x2, x3⟩ := x
    simp only [MemAct.ofEvent, MemAct.touch?, Option.some.injEq] at ha
    subst ha
    exact ⟨_, rfl, x2, x3⟩
  | obj r =>
    obtain ⟨x1, x2, x3⟩ := x
    simp only at x1
    subst x1
    have e : MemAct.ofEvent ⟨.obj r, wr, false⟩ = .access ⟨.obj r, wr, false⟩ := by cases wr <;> rfl
    rw [e] at ha
    simp only [MemAct.touch?, Option.some.injEq] at ha
    subst ha
    exact ⟨_, rfl, x2, x3⟩
  | output => exact x.elim
  | goroutines => exact x.elim
  | mark m => cases m <;> first | exact x.elim | (simp [MemAct.ofEvent, MemAct.touch?] at ha)
theorem evOk_low {l : Nat → Prop} {h : LH} {e : Event} (x : EvOk l h e) {B : Nat} (hB : ∀ b, h b ≠ none → b < B) : (MemAct.ofEvent e).low B := by
  obtain ⟨loc, wr, sy⟩ := e
  cases loc with
  | cell ad => exact hB _ x.2.1
  | obj r =>
    have x1 := x.1
    simp only at x1
    subst x1
    have e : MemAct.ofEvent ⟨.obj r, wr, false⟩ = .access ⟨.obj r, wr, false⟩ := by cases wr <;> rfl
    rw [e]
    exact hB _ x.2.1
  | output => exact x.elim
  | goroutines => exact x.elim
  | mark m => cases m <;> first | exact x.elim | trivial
theorem evOk_still {l : Nat → Prop} {h : LH} {e : Event} (x : EvOk l h e) : e.loc ≠ .mark .disable ∧ e.loc ≠ .mark .enable := by
  obtain ⟨loc, wr, sy⟩ := e
  cases loc with
  | mark m => cases m <;> first | exact x.elim | simp
  | _ => simp

/-- AN OWN STEP OF GOROUTINE g. -/
theorem MT.step (m : MT Sb bw lo H w.heap.size t) (mh : MH lo H w) (x : StepOk (lo g) (H g) w h' w' es) (fn : FuncId) (pos : String) :
    MT Sb bw lo (up H g h') w'.heap.size (t ++ MemOp.ofEvents g fn pos es.toArray) := by
  have hops : ∀ op ∈ MemOp.ofEvents g fn pos es.toArray, op.g = g ∧ ∃ e ∈ es, op.act = .ofEvent e := fun op hop => by
    obtain ⟨e, he, rfl⟩ := Go.Conc.mem_ofEvents hop
    exact ⟨rfl, e, by simpa using he, rfl⟩
  have htch : ∀ op ∈ MemOp.ofEvents g fn pos es.toArray, ∀ a, op.act.touch? = some a → ∃ b, blk a.loc = some b ∧ h' b ≠ none ∧ (a.write = true → ¬ lo g b) := fun op hop a ha => by
    obtain ⟨_, e, he, heq⟩ := hops op hop
    rw [heq] at ha
    exact evOk_touch (x.evs e he) ha
  have olds : ∀ k b, k ≠ g → H k b ≠ none → h' b ≠ none → H g b ≠ none := fun k b hk hb hb' => by
    rcases x.newd b hb' with y | y
    · exact y
    · have := (mh.inc k).lt hb; omega
  have hnew : ∀ b, Sb b → h' b = none := fun b hs => by
    cases hb : h' b with
    | none => rfl
    | some o =>
      rcases x.newd b (by rw [hb]; simp) with y | y
      · exact absurd (m.free g b hs) y
      · have := m.low b hs; omega
  refine ⟨fun said => ?_, fun k b l hb hlo hl => ?_, fun k b l hb hlo hl => ?_, fun i a ha hab => ?_, fun k b hs => ?_, fun b hs => Nat.lt_of_lt_of_le (m.low b hs) x.size, m.bw, fun op hop => ?_⟩
  · refine noRace_append (m.clean said) (fun op hop => (hops op hop).1) fun i a ha op hop b hb hc => ?_
    obtain ⟨bb, h1, h2, h3⟩ := htch op hop b hb
    have hab : blk a.loc = some bb := by rw [hc.1]; exact h1
    rcases x.newd bb h2 with y | y
    · by_cases hl : lo g bb
      · refine m.rd g bb b.loc y hl h1 i a ha hc.1 (hc.2.2.1.resolve_right fun hw => h3 hw hl)
      · exact m.own g bb b.loc y hl h1 i a ha hc.1
    · have := seen_touch m.seen ha hab; omega
  · by_cases hk : k = g
    · subst hk
      rw [up_same] at hb
      intro i a ha hal
      obtain ⟨z, hz, hza⟩ := touch_of ha
      rcases getElem?_append_cases hz with ⟨hi, hz'⟩ | ⟨_, hzu⟩
      · have ha' : touchAt t i = some a := by rw [touchAt_of hz']; exact hza
        rcases x.newd b hb with y | y
        · exact (m.own k b l y hlo hl i a ha' hal).app _
        · have := seen_touch m.seen ha' (by rw [hal]; exact hl); omega
      · have := knows_own hz
        rwa [(hops z hzu).1] at this
    · rw [up_ne _ _ hk] at hb
      refine (m.own k b l hb hlo hl).app fun op hop a ha hal => ?_
      obtain ⟨bb, h1, h2, _⟩ := htch op hop a ha
      rw [hal, hl] at h1
      cases h1
      exact absurd (mh.apart k g b hk hb (olds k b hk hb h2)).1 hlo
  · by_cases hk : k = g
    · subst hk
      rw [up_same] at hb
      have hold : H k b ≠ none := by
        rcases x.newd b hb with y | y
        · exact y
        · have := (mh.inc k).lo b hlo; omega
      exact (m.rd k b l hold hlo hl).app fun op hop _ _ _ _ => (hops op hop).1
    · rw [up_ne _ _ hk] at hb
      refine (m.rd k b l hb hlo hl).app fun op hop a ha hal hw => ?_
      obtain ⟨bb, h1, h2, h3⟩ := htch op hop a ha
      rw [hal, hl] at h1
      cases h1
      exact absurd (mh.apart k g b hk hb (olds k b hk hb h2)).2 (h3 hw)
  · obtain ⟨z, hz, hza⟩ := touch_of ha
    rcases getElem?_append_cases hz with ⟨hi, hz'⟩ | ⟨_, hzu⟩
    · obtain ⟨q1, q2⟩ := m.quiet i a (by rw [touchAt_of hz']; exact hza) hab
      exact ⟨q1, fun hs => by rw [g?_old hi]; exact q2 hs⟩
    · obtain ⟨bb, h1, h2, _⟩ := htch z hzu a hza
      rw [hab] at h1
      cases h1
      exact absurd (hnew bw m.bw) h2
  · by_cases hk : k = g
    · subst hk; rw [up_same]; exact hnew b hs
    · rw [up_ne _ _ hk]; exact m.free k b hs
  · rcases Array.mem_append.1 hop with hop | hop
    · exact MemAct.low_mono x.size (m.seen op hop)
    · obtain ⟨_, e, he, heq⟩ := hops op hop
      rw [heq]
      exact evOk_low (x.evs e he) fun b hb => x.inc.lt hb

/-- OPERATIONS OF GOROUTINE g THAT TOUCH THE QUIET BLOCK ALONE, NEVER PLAINLY. -/
theorem MT.still (m : MT Sb bw lo H B t) {u : Trace} (hu : ∀ op ∈ u, op.g = g ∧ op.act.low B ∧ ∀ a, op.act.touch? = some a → blk a.loc = some bw ∧ a.kind ≠ .plain ∧ (a.kind = .said → g = 0)) :
    MT Sb bw lo H B (t ++ u) := by
  have never : ∀ k b l, H k b ≠ none → blk l = some b → ∀ op ∈ u, ∀ a, op.act.touch? = some a → a.loc = l → False := fun k b l hb hl op hop a ha hal => by
    have := ((hu op hop).2.2 a ha).1
    rw [hal, hl] at this
    cases this
    exact hb (m.free k bw m.bw)
  refine ⟨fun said => ?_, fun k b l hb hlo hl => (m.own k b l hb hlo hl).app fun op hop a ha hal => (never k b l hb hl op hop a ha hal).elim,
    fun k b l hb hlo hl => (m.rd k b l hb hlo hl).app fun op hop a ha hal _ => (never k b l hb hl op hop a ha hal).elim, fun i a ha hab => ?_, m.free, m.low, m.bw, fun op hop => ?_⟩
  · refine noRace_append (m.clean said) (fun op hop => (hu op hop).1) fun i a ha op hop b hb hc => ?_
    obtain ⟨h1, h2, h3⟩ := (hu op hop).2.2 b hb
    obtain ⟨q1, q2⟩ := m.quiet i a ha (by rw [hc.1]; exact h1)
    rcases hc.2.2.2 with y | y | ⟨_, y1, y2⟩
    · exact absurd y q1
    · exact absurd y h2
    · have hg0 := h3 y2
      have := q2 y1
      obtain ⟨z, hz, hzg⟩ := Option.map_eq_some_iff.1 this
      have hk := knows_own hz
      rwa [hzg, ← hg0] at hk
  · obtain ⟨z, hz, hza⟩ := touch_of ha
    rcases getElem?_append_cases hz with ⟨hi, hz'⟩ | ⟨_, hzu⟩
    · obtain ⟨q1, q2⟩ := m.quiet i a (by rw [touchAt_of hz']; exact hza) hab
      exact ⟨q1, fun hs => by rw [g?_old hi]; exact q2 hs⟩
    · obtain ⟨h1, h2, h3⟩ := (hu z hzu).2.2 a hza
      exact ⟨h2, fun hs => by have := h3 hs; have hg := (hu z hzu).1; simp [Trace.g?, hz, hg, this]⟩
  · rcases Array.mem_append.1 hop with hop | hop
    · exact m.seen op hop
    · exact (hu op hop).2.1

theorem MT.mono (m : MT Sb bw lo H B t) {B' : Nat} (h : B ≤ B') : MT Sb bw lo H B' t := ⟨m.clean, m.own, m.rd, m.quiet, m.free, fun b hs => Nat.lt_of_lt_of_le (m.low b hs) h, m.bw, fun op hop => MemAct.low_mono h (m.seen op hop)⟩

/-- The world changes in blocks that no party knows. -/
theorem MH.aside (m : MH lo H w) (hs : w.heap.size ≤ w'.heap.size) (hk : ∀ g b, H g b ≠ none → w'.heap[b]? = w.heap[b]?) : MH lo H w' :=
  ⟨fun g => ⟨fun b o hb => by rw [hk g b (by rw [hb]; simp)]; exact (m.inc g).at_ b o hb, fun b hb => Nat.lt_of_lt_of_le ((m.inc g).lo b hb) hs⟩, m.apart⟩

/-- What all may read from now on. -/
def dom (h : LH) : Nat → Prop := fun b => h b ≠ none
/-- A go STATEMENT: goroutine c begins with all that goroutine 0 knows; nobody writes that any more. -/
theorem MT.fork (m : MT Sb bw lo H B t) {c : Nat} (hc : c ≠ 0) (hcn : ∀ b, H c b = none) {x y : MemOp} (hx : x.g = 0 ∧ x.act = .go c) (hy : y.g = c ∧ y.act = .start) (h0 : Deaf t 0 = 0) (hk : Deaf t c = 0) :
    MT Sb bw (up (up lo 0 (dom (H 0))) c (dom (H 0))) (up H c (H 0)) B (t ++ #[x, y]) := by
  have hnt : ∀ op ∈ #[x, y], ∀ b, op.act.touch? = some b → False := by
    intro op hop b hb
    simp only [List.mem_toArray, List.mem_cons, List.not_mem_nil, or_false] at hop
    rcases hop with rfl | rfl
    · rw [hx.2] at hb; cases hb
    · rw [hy.2] at hb; cases hb
  have old : ∀ {i : Nat} {a : Touch}, touchAt (t ++ #[x, y]) i = some a → i < t.size ∧ touchAt t i = some a := by
    intro i a ha
    obtain ⟨z, hz, hza⟩ := touch_of ha
    rcases getElem?_append_cases hz with ⟨hi, hz'⟩ | ⟨_, hzu⟩
    · exact ⟨hi, by rw [touchAt_of hz']; exact hza⟩
    · exact (hnt z hzu a hza).elim
  have all0 : ∀ b l, H 0 b ≠ none → blk l = some b → PermW t 0 l := fun b l hb hl => by
    by_cases hl0 : lo 0 b
    · exact m.rd 0 b l hb hl0 hl
    · exact .of (m.own 0 b l hb hl0 hl)
  refine ⟨fun said => ?_, fun k b l hb hlo hl => ?_, fun k b l hb hlo hl => ?_, fun i a ha hab => ?_, fun k b hs => ?_, m.low, m.bw, fun op hop => ?_⟩
  · have e : t ++ #[x, y] = (t ++ #[x]) ++ #[y] := by apply Array.ext'; simp
    rw [e]
    refine noRace_append (g := c) (noRace_append (g := 0) (m.clean said) (fun op hop => by simp at hop; rw [hop]; exact hx.1) (fun i a _ op hop b hb _ => (hnt op (by simp at hop ⊢; exact .inl hop) b hb).elim))
      (fun op hop => by simp at hop; rw [hop]; exact hy.1) (fun i a _ op hop b hb _ => (hnt op (by simp at hop ⊢; exact .inr hop) b hb).elim)
  · by_cases hkc : k = c
    · subst hkc
      rw [up_same] at hb hlo
      exact absurd hb hlo
    · rw [up_ne _ _ hkc] at hb hlo
      by_cases hk0 : k = 0
      · subst hk0; rw [up_same] at hlo; exact absurd hb hlo
      · rw [up_ne _ _ hk0] at hlo
        exact (m.own k b l hb hlo hl).app fun op hop a ha _ => (hnt op hop a ha).elim
  · by_cases hkc : k = c
    · subst hkc
      rw [up_same] at hb
      exact fun i a ha e hw => fork_knows hx hy h0 hk (all0 b l hb hl i a (old ha).2 e hw)
    · rw [up_ne _ _ hkc] at hb hlo
      by_cases hk0 : k = 0
      · subst hk0
        exact (all0 b l hb hl).app fun op hop a ha _ _ => (hnt op hop a ha).elim
      · rw [up_ne _ _ hk0] at hlo
        exact (m.rd k b l hb hlo hl).app fun op hop a ha _ _ => (hnt op hop a ha).elim
  · obtain ⟨hi, ha'⟩ := old ha
    obtain ⟨q1, q2⟩ := m.quiet i a ha' hab
    exact ⟨q1, fun hs => by rw [g?_old hi]; exact q2 hs⟩
  · by_cases hkc : k = c
    · subst hkc; rw [up_same]; exact m.free 0 b hs
    · rw [up_ne _ _ hkc]; exact m.free k b hs
  · rcases Array.mem_append.1 hop with hop | hop
    · exact m.seen op hop
    · simp only [List.mem_toArray, List.mem_cons, List.not_mem_nil, or_false] at hop
      rcases hop with rfl | rfl
      · rw [hx.2]; trivial
      · rw [hy.2]; trivial
theorem MH.fork (m : MH lo H w) {c : Nat} (hc : c ≠ 0) (hcn : ∀ b, H c b = none) : MH (up (up lo 0 (dom (H 0))) c (dom (H 0))) (up H c (H 0)) w := by
  refine ⟨fun k => ?_, fun k k' b hkk hb hb' => ?_⟩
  · by_cases hkc : k = c
    · subst hkc; rw [up_same, up_same]; exact ⟨(m.inc 0).at_, fun b hb => (m.inc 0).lt hb⟩
    · rw [up_ne _ _ hkc, up_ne _ _ hkc]
      by_cases hk0 : k = 0
      · subst hk0; rw [up_same]; exact ⟨(m.inc 0).at_, fun b hb => (m.inc 0).lt hb⟩
      · rw [up_ne _ _ hk0]; exact m.inc k
  · have key : ∀ k, up H c (H 0) k b ≠ none → ∀ k', k ≠ k' → up H c (H 0) k' b ≠ none → up (up lo 0 (dom (H 0))) c (dom (H 0)) k b := by
      intro k hb k' hkk hb'
      by_cases hkc : k = c
      · subst hkc; rw [up_same] at hb ⊢; exact hb
      · rw [up_ne _ _ hkc] at hb ⊢
        by_cases hk0 : k = 0
        · subst hk0; rw [up_same]; exact hb
        · rw [up_ne _ _ hk0]
          by_cases hkc' : k' = c
          · rw [hkc', up_same] at hb'
            exact (m.apart k 0 b hk0 hb hb').1
          · rw [up_ne _ _ hkc'] at hb'
            exact (m.apart k k' b hkk hb hb').1
    exact ⟨key k hb k' hkk hb', key k' hb' k (Ne.symm hkk) hb⟩
end
end Go.Lu
