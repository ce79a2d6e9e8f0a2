/-
  Certificates: what a goroutine surely comes to by own steps; and what goroutine 0 comes to beside leavers.
-/
import Derived.Test.YtmjmhaoikilagaaGreatDoorPh2
import Derived.Test.YtmjmhaoikilagaaGreatDoorMulti
import Derived.Conc.CrowdSit
import Derived.Conc.CrowdComm
set_option linter.unusedVariables false
set_option linter.unusedSimpArgs false
set_option linter.unusedSectionVars false
namespace Go.Lu
open Go.Conc Go.ConcN
open Go.ConcR (KK wgBlock WgAt stA smA rd wr mk Payload DC0)

inductive Tree where
  | node (f : World → Tree) : Tree
  | leaf : Tree
def Tree.lt (a b : Tree) : Prop := ∃ f w, b = .node f ∧ a = f w
theorem Tree.wf : WellFounded Tree.lt := ⟨fun t => by
  induction t with
  | node f ih => exact ⟨_, fun a ⟨f', w, e, ea⟩ => by cases e; subst ea; exact ih w⟩
  | leaf => exact ⟨_, fun a ⟨f', w, e, ea⟩ => by cases e⟩⟩

/-- Within the tree, own steps that end in 'T'; 'K': what is known of the world besides. -/
def ReachT (P : Program) (main : Bool) (lo : Nat → Prop) (K : World → Prop) (T : Goroutine → LH → Prop) : Tree → Goroutine → LH → Prop
  | .leaf, g, h => T g h
  | .node f, g, h => T g h ∨ (g.status = .running ∧ ∀ w, Inc lo h w → K w → ∃ g' w' es h', stepG P main g w = .go g' w' es ∧ StepOk lo h w h' w' es.toList ∧ ReachT P main lo K T (f w) g' h')
def Reach (P : Program) (main : Bool) (lo : Nat → Prop) (K : World → Prop) (T : Goroutine → LH → Prop) (g : Goroutine) (h : LH) : Prop := ∃ τ, ReachT P main lo K T τ g h

theorem Inc.le {lo : Nat → Prop} {h h' : LH} {w : World} (hi : Inc lo h' w) (hle : LE h h') : Inc lo h w := ⟨fun b o hb => hi.at_ b o (hle b o hb), hi.lo⟩

section
variable {P : Program} {main : Bool} {lo : Nat → Prop} {K : World → Prop} {T T' : Goroutine → LH → Prop} {g : Goroutine} {h : LH}

theorem Reach.done (x : T g h) : Reach P main lo K T g h := ⟨.leaf, x⟩
theorem Reach.step (hr : g.status = .running) (x : ∀ w, Inc lo h w → K w → ∃ g' w' es h', stepG P main g w = .go g' w' es ∧ StepOk lo h w h' w' es.toList ∧ Reach P main lo K T g' h') : Reach P main lo K T g h := by
  have : ∀ w, ∃ τ, Inc lo h w → K w → ∃ g' w' es h', stepG P main g w = .go g' w' es ∧ StepOk lo h w h' w' es.toList ∧ ReachT P main lo K T τ g' h' := fun w => by
    by_cases hw : Inc lo h w ∧ K w
    · obtain ⟨g', w', es, h', e1, e2, τ, e3⟩ := x w hw.1 hw.2
      exact ⟨τ, fun _ _ => ⟨g', w', es, h', e1, e2, e3⟩⟩
    · exact ⟨.leaf, fun h1 h2 => (hw ⟨h1, h2⟩).elim⟩
  obtain ⟨f, hf⟩ := Classical.axiomOfChoice this
  exact ⟨.node f, .inr ⟨hr, hf⟩⟩
theorem Reach.closed : Closed P main lo (Reach P main lo K T) := fun g h hr x => Reach.step hr fun w hw _ => x w hw
theorem ReachT.mono (hT : MonoS T) : ∀ (τ : Tree) {g : Goroutine} {h h' : LH}, LE h h' → ReachT P main lo K T τ g h → ReachT P main lo K T τ g h'
  | .leaf, g, h, h', hle, x => hT g h h' hle x
  | .node f, g, h, h', hle, x => by
    rcases x with x | ⟨hr, x⟩
    · exact .inl (hT g h h' hle x)
    · refine .inr ⟨hr, fun w hw hK => ?_⟩
      obtain ⟨g', w', es, h₁, e1, e2, e3⟩ := x w (hw.le hle) hK
      exact ⟨g', w', es, joinH h h' h₁, e1, joinH_ok hle hw e2, ReachT.mono hT (f w) (joinH_le hle hw e2) e3⟩
theorem Reach.mono (hT : MonoS T) : MonoS (Reach P main lo K T) := fun g h h' hle ⟨τ, x⟩ => ⟨τ, ReachT.mono hT τ hle x⟩
theorem Reach.plain (hT : MonoS T) : Plain P main lo (Reach P main lo K T) := ⟨Reach.closed, Reach.mono hT⟩
theorem Reach.bind (x : Reach P main lo K T g h) (k : ∀ g h, T g h → Reach P main lo K T' g h) : Reach P main lo K T' g h := by
  obtain ⟨τ, x⟩ := x
  induction τ generalizing g h with
  | leaf => exact k g h x
  | node f ih =>
    rcases x with x | ⟨hr, x⟩
    · exact k g h x
    · refine Reach.step hr fun w hw hK => ?_
      obtain ⟨g', w', es, h', e1, e2, e3⟩ := x w hw hK
      exact ⟨g', w', es, h', e1, e2, ih w e3⟩
/-- A walk of the kit's that leaves the world as it is. -/
theorem Reach.of_goes {Stop : Goroutine → World → Prop} : ∀ (m : Nat) {g : Goroutine} {h : LH}, (∀ w, K w → Goes P main (fun w w₁ => K w → K w₁) DC0 Stop m g w) → (∀ g, (∀ w, K w → Stop g w) → T g h) → Reach P main lo K T g h := by
  intro m
  induction m with
  | zero =>
    intro g h x hT
    exact Reach.done (hT g fun w hw => x w hw w id)
  | succ m ih =>
    intro g h x hT
    by_cases hall : ∀ w, K w → Stop g w
    · exact Reach.done (hT g hall)
    · obtain ⟨w0, hw0⟩ := Classical.not_forall.1 hall
      obtain ⟨hk0, hn⟩ := Classical.not_imp.1 hw0
      rcases x w0 hk0 with y | ⟨hr, y⟩
      · exact absurd (y w0 id) hn
      · refine Reach.step hr fun w hw hK => ?_
        have hs := y w fun _ => hK
        cases hgo : stepG P main g w with
        | go g' w' es =>
          rw [hgo, goes_go] at hs
          obtain ⟨⟨rfl, rfl⟩, hG⟩ := hs
          refine ⟨g', _, #[], h, rfl, .refl hw, ih (fun w'' hK'' => Goes.rely (fun a b c h1 h2 k => h2 (h1 k)) hG fun _ => hK'') hT⟩
        | _ => rw [hgo] at hs; exact hs.elim
end

/-! ### goroutine 0 beside leavers -/
def ShB (Sb : Nat → Prop) : Loc → Prop := fun l => ∃ b, blk l = some b ∧ Sb b

/-- The run comes to its end, well. -/
def RunEnds (P : Program) (Post : Value → World → Prop) (m : Machine) (t : Trace) : Prop :=
  ∃ N last o w' t', runNT P (N + 1) m t = (.ended o w', t') ∧ runN P N m = .next last ∧ step P last = .ended o w' ∧ Good P Post last o w' t'
theorem RunEnds.step {P : Program} {Post : Value → World → Prop} {m m' : Machine} {t ops : Trace} (hs : stepT P m = (.next m', ops)) (h : RunEnds P Post m' (t ++ ops)) : RunEnds P Post m t := by
  obtain ⟨N, last, o, w', t', h1, h2, h3, h4⟩ := h
  exact ⟨N + 1, last, o, w', t', by rw [runNT_succ_next hs]; exact h1, by rw [runN_succ_next hs]; exact h2, h3, h4⟩

/-- The world stands as it was at the start, below what was there. -/
structure Base (W0 w : World) : Prop where
  os : w.os = W0.os
  tape : w.tape = W0.tape
  output : w.output = W0.output
  size : W0.heap.size ≤ w.heap.size
  block : ∀ b, b < W0.heap.size → w.heap[b]? = W0.heap[b]?

structure Frm (P : Program) (W0 : World) (g : Goroutine) (h : LH) (gs : Array Goroutine) (w : World) (t : Trace) (q : Nat → Nat) (Sb : Nat → Prop) : Prop where
  g0 : gs[0]? = some g
  lv : Leavers P t gs q
  past : Past (ShB Sb) w.heap.size t
  inc : Inc (· < W0.heap.size) h w
  sb : ∀ b, Sb b → b < w.heap.size ∧ h b = none
  base : Base W0 w
  gle : ∀ op ∈ t, op.g < gs.size

def S0 (P : Program) (Post : Value → World → Prop) (W0 : World) (g : Goroutine) (h : LH) : Prop :=
  ∀ gs w sl t q Sb, Frm P W0 g h gs w t q Sb → RunEnds P Post (crowd gs w sl) t

section
variable {P : Program} {Post : Value → World → Prop} {W0 : World} {g g' : Goroutine} {h h' : LH} {gs : Array Goroutine} {w w' : World} {t : Trace} {q : Nat → Nat} {Sb : Nat → Prop} {es : List Event}

theorem Base.step {lo : Nat → Prop} (b : Base W0 w) (hlo : ∀ c, c < W0.heap.size → lo c) (x : StepOk lo h w h' w' es) : Base W0 w' :=
  ⟨x.os.trans b.os, x.tape.trans b.tape, x.output.trans b.output, Nat.le_trans b.size x.size, fun c hc => (x.keep c (Nat.lt_of_lt_of_le hc b.size) (.inr (hlo c hc))).trans (b.block c hc)⟩
theorem Base.at (b : Base W0 w) (d : Nat) : Base W0 (w.at d) := ⟨b.os, b.tape, b.output, b.size, b.block⟩
theorem Inc.at {lo : Nat → Prop} (hi : Inc lo h w) (d : Nat) : Inc lo h (w.at d) := ⟨hi.at_, hi.lo⟩

theorem evL_of {lo : Nat → Prop} (x : StepOk lo h w h' w' es) (hsb : ∀ b, Sb b → b < w.heap.size ∧ h b = none) : ∀ e ∈ es, EvL (ShB Sb) w'.heap.size e := by
  intro e he
  have hev := x.evs e he
  refine ⟨fun a ha ⟨b, hb, hs⟩ => ?_, (evOk_still hev).1, (evOk_still hev).2, evOk_low hev fun b hb => x.inc.lt hb⟩
  obtain ⟨b', h1, h2, _⟩ := evOk_touch hev ha
  rw [hb] at h1
  cases h1
  obtain ⟨z1, z2⟩ := hsb b hs
  rcases x.newd b h2 with y | y
  · exact absurd z2 y
  · omega

/-- A leaver slips. -/
theorem Frm.slip (f : Frm P W0 g h gs w t q Sb) (hrun : g.status = .running) {i k : Nat} {x x' : Goroutine} {es : Array Event} (hpos : 0 < i) (hi : gs[i]? = some x) (hqi : q i = k + 1) (hm : ∀ e ∈ es, Event.mute e = true) (hq' : QuitsD P k (deafBehind (Deaf t i) es) x') (fn : FuncId) (pos : String) (d : Nat) :
    Frm P W0 g h ((gs.map (woken P x x' (w.at d))).setIfInBounds i x') (w.at d) (t ++ MemOp.ofEvents i fn pos es) (ConcN.upd q i k) Sb := by
  have hlt : i < gs.size := (Array.getElem?_eq_some_iff.1 hi).1
  refine ⟨?_, ⟨fun j y hj hy => ?_, fun j hj => ?_⟩, f.past.mute (by omega) hm, f.inc.at d, f.sb, f.base.at d, fun op hop => ?_⟩
  · have hne : i ≠ 0 := by omega
    rw [Array.getElem?_setIfInBounds_ne hne, Array.getElem?_map, f.g0]
    simp [woken_run hrun]
  · by_cases hji : i = j
    · subst hji
      rw [Array.getElem?_setIfInBounds_self_of_lt (by simpa using hlt)] at hy
      obtain rfl := Option.some.inj hy
      rw [ConcN.upd_same, Deaf_own]
      exact hq'
    · rw [Array.getElem?_setIfInBounds_ne hji, Array.getElem?_map] at hy
      obtain ⟨z, hz, rfl⟩ := Option.map_eq_some_iff.1 hy
      have hqj := f.lv.old j z hj hz
      rw [woken_quitsD hqj, ConcN.upd_ne q k (Ne.symm hji), Deaf_other t hji _ (fun op hop => by obtain ⟨e, _, rfl⟩ := Go.Conc.mem_ofEvents hop; rfl)]
      exact hqj
  · rw [Deaf_other t (g' := i) (by simp at hj; omega) _ (fun op hop => by obtain ⟨e, _, rfl⟩ := Go.Conc.mem_ofEvents hop; rfl)]
    exact f.lv.above j (by simpa using hj)
  · simp only [Array.size_setIfInBounds, Array.size_map]
    rcases Array.mem_append.1 hop with hop | hop
    · exact f.gle op hop
    · obtain ⟨e, _, rfl⟩ := Go.Conc.mem_ofEvents hop; exact hlt

theorem Frm.awake (f : Frm P W0 g h gs w t q Sb) (hrun : g.status = .running) : ∀ x ∈ gs, awake x := by
  intro x hx
  obtain ⟨i, hi, rfl⟩ := Array.mem_iff_getElem.1 hx
  rcases Nat.eq_zero_or_pos i with rfl | hpos
  · have : gs[0] = g := by have := f.g0; rw [Array.getElem?_eq_getElem hi] at this; exact Option.some.inj this
    rw [this]; exact awake_of (.inl hrun)
  · exact awake_of ((f.lv.old i _ hpos (Array.getElem?_eq_getElem hi)).status.elim .inl fun x => .inr (.inr x))

/-- Goroutine 0 will be let step: the leavers cannot go on for ever. -/
theorem S0.pick (hrun : g.status = .running)
    (hs : ∀ gs w sl t q Sb, Frm P W0 g h gs w t q Sb → (∃ v w' ops, runT P (crowd gs w sl) 0 = (.ended (.done v) w', ops) ∧ Post v w' ∧ (∀ said, ¬ Race said (t ++ ops)) ∧ (t ++ ops).HandedOver ∧ ∀ op ∈ ops, op.g = 0) ∨ ∃ m' ops, runT P (crowd gs w sl) 0 = (.next m', ops) ∧ RunEnds P Post m' (t ++ ops)) :
    S0 P Post W0 g h := by
  have fin : ∀ gs w sl t q Sb, Frm P W0 g h gs w t q Sb → ∀ v w' ops, stepT P (crowd gs w sl) = (.ended (.done v) w', ops) → Post v w' → (∀ said, ¬ Race said (t ++ ops)) → (t ++ ops).HandedOver → (∀ op ∈ ops, op.g = 0) → RunEnds P Post (crowd gs w sl) t := by
    intro gs w sl t q Sb f v w' ops h1 h2 h3 h4 h5
    refine ⟨0, _, _, w', t ++ ops, by simp [runNT, h1], rfl, by simp [step, h1], v, rfl, h2, h3, h4, ⟨fun x hx => ?_, rfl⟩, fun j x hx hj => ?_⟩
    · obtain ⟨j, hj⟩ := List.mem_iff_getElem?.1 hx
      rw [List.getElem?_drop] at hj
      exact ⟨_, (f.lv.old (1 + j) x (by omega) (by simpa [crowd] using hj)).leaves⟩
    · have hq := f.lv.old j x (by omega) hx
      refine ⟨q j, ?_⟩
      have e : (t ++ ops).deaf j (t ++ ops).size = Deaf t j := Deaf_other t (g := j) (g' := 0) (by omega) _ h5
      rw [e]
      exact hq.hears _
  have key : ∀ (M : Nat) gs w sl t q Sb, sumTo gs.size q ≤ M → Frm P W0 g h gs w t q Sb → RunEnds P Post (crowd gs w sl) t := by
    intro M
    induction M with
    | zero =>
      intro gs w sl t q Sb hM f
      obtain ⟨i, x, d, sl', hi, hg, hst⟩ := crowd_pick (P := P) (w := w) (sl := sl) (f.awake hrun) ⟨0, g, f.g0, hrun⟩
      rcases Nat.eq_zero_or_pos i with rfl | hpos
      · have f' : Frm P W0 g h gs (w.at d) t q Sb := ⟨f.g0, f.lv, f.past, f.inc.at d, f.sb, f.base.at d, f.gle⟩
        rcases hs gs (w.at d) sl' t q Sb f' with ⟨v, w', ops, h1, h2, h3, h4, h5⟩ | ⟨m', ops, h1, h2⟩
        · exact fin gs w sl t q Sb f v w' ops (hst.trans h1) h2 h3 h4 h5
        · exact RunEnds.step (hst.trans h1) h2
      · have hq := f.lv.old i x hpos hi
        have hlt : i < gs.size := (Array.getElem?_eq_some_iff.1 hi).1
        have hz : q i = 0 := by
          have := le_sumTo (f := q) hlt
          omega
        rw [hz] at hq
        rw [hq.1] at hg; cases hg
    | succ M ih =>
      intro gs w sl t q Sb hM f
      obtain ⟨i, x, d, sl', hi, hg, hst⟩ := crowd_pick (P := P) (w := w) (sl := sl) (f.awake hrun) ⟨0, g, f.g0, hrun⟩
      rcases Nat.eq_zero_or_pos i with rfl | hpos
      · have f' : Frm P W0 g h gs (w.at d) t q Sb := ⟨f.g0, f.lv, f.past, f.inc.at d, f.sb, f.base.at d, f.gle⟩
        rcases hs gs (w.at d) sl' t q Sb f' with ⟨v, w', ops, h1, h2, h3, h4, h5⟩ | ⟨m', ops, h1, h2⟩
        · exact fin gs w sl t q Sb f v w' ops (hst.trans h1) h2 h3 h4 h5
        · exact RunEnds.step (hst.trans h1) h2
      · have hq := f.lv.old i x hpos hi
        have hi0 : (i == 0) = false := by simp; omega
        have hlt : i < gs.size := (Array.getElem?_eq_some_iff.1 hi).1
        cases hqi : q i with
        | zero => rw [hqi] at hq; rw [hq.1] at hg; cases hg
        | succ k =>
          rw [hqi] at hq
          rcases hq with ⟨hf, _⟩ | ⟨_, x', es, hm, hstp, hq'⟩
          · rw [hf] at hg; cases hg
          have hrunT := runT_crowd_go (P := P) (sl := sl') (i := i) hi (by rw [hi0]; exact hstp (w.at d))
          have hsz : ((gs.map (woken P x x' (w.at d))).setIfInBounds i x').size = gs.size := by simp
          have hsum : sumTo gs.size (ConcN.upd q i k) + (k + 1) = sumTo gs.size q + k := by
            have := sumTo_upd q k id hlt
            simpa [hqi] using this
          exact RunEnds.step (hst.trans hrunT) (ih _ _ _ _ _ _ (by rw [hsz]; omega) (f.slip hrun hpos hi hqi hm hq' _ _ d))
  intro gs w sl t q Sb f
  exact key _ gs w sl t q Sb (Nat.le_refl _) f

/-- Goroutine 0's own step, listing its own accesses. -/
theorem Frm.own (f : Frm P W0 g h gs w t q Sb) {es : Array Event} (x : StepOk (· < W0.heap.size) h w h' w' es.toList) (fn : FuncId) (pos : String) :
    Frm P W0 g' h' ((gs.map (woken P g g' w')).setIfInBounds 0 g') w' (t ++ MemOp.ofEvents 0 fn pos es) q Sb := by
  have hlt : 0 < gs.size := (Array.getElem?_eq_some_iff.1 f.g0).1
  refine ⟨by simp [hlt], ⟨fun j y hj hy => ?_, fun j hj => ?_⟩, (f.past.mono x.size).own (fun e he => evL_of x f.sb e (by simpa using he)), x.inc, fun b hb => ?_, f.base.step (fun _ h => h) x, fun op hop => ?_⟩
  · have hne : 0 ≠ j := by omega
    rw [Array.getElem?_setIfInBounds_ne hne, Array.getElem?_map] at hy
    obtain ⟨z, hz, rfl⟩ := Option.map_eq_some_iff.1 hy
    have hq := f.lv.old j z hj hz
    rw [woken_quitsD hq, Deaf_other t (by omega) _ (fun op hop => by obtain ⟨e, _, rfl⟩ := Go.Conc.mem_ofEvents hop; rfl)]
    exact hq
  · rw [Deaf_other t (g' := 0) (by simp at hj; omega) _ (fun op hop => by obtain ⟨e, _, rfl⟩ := Go.Conc.mem_ofEvents hop; rfl)]
    exact f.lv.above j (by simpa using hj)
  · obtain ⟨z1, z2⟩ := f.sb b hb
    refine ⟨Nat.lt_of_lt_of_le z1 x.size, ?_⟩
    cases hh : h' b with
    | none => rfl
    | some o =>
      rcases x.newd b (by rw [hh]; simp) with y | y
      · exact absurd z2 y
      · omega
  · simp only [Array.size_setIfInBounds, Array.size_map]
    rcases Array.mem_append.1 hop with hop | hop
    · exact f.gle op hop
    · obtain ⟨e, _, rfl⟩ := Go.Conc.mem_ofEvents hop; exact hlt

theorem S0.closed : Closed P true (· < W0.heap.size) (S0 P Post W0) := by
  intro g h hrun x
  refine S0.pick hrun fun gs w sl t q Sb f => .inr ?_
  obtain ⟨g', w', es, h', e1, e2, e3⟩ := x w f.inc
  refine ⟨_, _, runT_crowd_go (P := P) (sl := sl) (i := 0) f.g0 (show stepG P (0 == 0) g w = _ from e1), ?_⟩
  exact e3 _ _ _ _ _ _ (f.own e2 _ _)
theorem S0.mono : MonoS (S0 P Post W0) := fun g h h' hle x gs w sl t q Sb f =>
  x gs w sl t q Sb ⟨f.g0, f.lv, f.past, f.inc.le hle, fun b hb => by
    obtain ⟨z1, z2⟩ := f.sb b hb
    refine ⟨z1, ?_⟩
    cases hh : h b with
    | none => rfl
    | some o => exact (by rw [hle b o hh] at z2; cases z2), f.base, f.gle⟩
theorem S0.plain : Plain P true (· < W0.heap.size) (S0 P Post W0) := ⟨S0.closed, S0.mono⟩

/-- Goroutine 0 stands at the step that ends the run. -/
theorem S0.ret {v : Value} (hrun : g.status = .running) (hend : ∀ w, Inc (· < W0.heap.size) h w → stepG P true g w = .ended (.done v) w #[]) (hpost : ∀ w, Inc (· < W0.heap.size) h w → Base W0 w → Post v w) : S0 P Post W0 g h := by
  refine S0.pick hrun fun gs w sl t q Sb f => .inl ?_
  have hrunT := runT_many_ended (P := P) (sl := sl) (i := 0) f.g0 (show stepG P (0 == 0) g w = _ from hend w f.inc)
  have hP' := f.past.own (fn := g.frame.fn) (pos := g.frame.place) (es := #[]) (by simp)
  exact ⟨_, _, _, hrunT, hpost w f.inc f.base, hP'.clean, hP'.over, fun op hop => by obtain ⟨e, _, rfl⟩ := Go.Conc.mem_ofEvents hop; rfl⟩
end
end Go.Lu
