/-
  The trace of a phase: who knows what, and what is handed over by the release marks and one acquire.
-/
import Derived.Test.YtmjmhaoikilagaaGreatDoorPh1
set_option linter.unusedVariables false
set_option linter.unusedSimpArgs false
set_option linter.unusedSectionVars false
namespace Go.Lu
open Go.Conc Go.ConcN

theorem g?_lt {t : Trace} {i g : Nat} (h : t.g? i = some g) : i < t.size := by
  obtain ⟨z, hz, _⟩ := Option.map_eq_some_iff.1 h
  exact lt_size_of_getElem? hz
/-- n0: the first worker's number; rel: where a worker has said its release; Sh: the places that are touched by atomics alone. -/
structure PT (A : Addr) (n0 : Nat) (rel : Nat → Option Nat) (Sh : Loc → Prop) (t : Trace) : Prop where
  known : ∀ i a, touchAt t i = some a → a.loc.isMemory = true → Knows t 0 i ∨ (Sh a.loc ∧ a.kind = .atomic) ∨ ∃ k, n0 ≤ k ∧ t.g? i = some k ∧ ∀ r, rel k = some r → i ≤ r
  over : ∀ i g, t.g? i = some g → g ≠ 0 → t.counts i → (∃ j, t.g? j = some 0 ∧ HappensBefore t i j) ∨ (n0 ≤ g ∧ ∀ r, rel g = some r → i ≤ r)
  said : ∀ k r, rel k = some r → t.act? r = some (.mark (.releaseMerge A)) ∧ t.g? r = some k ∧ t.heard r
  norel : NoRelease A t

section
variable {A : Addr} {n0 : Nat} {rel : Nat → Option Nat} {Sh : Loc → Prop} {t u : Trace} {g : Nat}

theorem PT.init {Shun : Loc → Prop} {B : Nat} (h : Past Shun B t) (hA : B ≤ A.block) (hS : ∀ l, Shun l → Sh l) : PT A n0 (fun _ => none) Sh t := by
  refine ⟨fun i a ha hm => ?_, fun i g hg h0 hc => .inl (h.over i g hg h0 hc), fun k r hr => (nomatch hr), fun i hi => ?_⟩
  · rcases h.known i a ha hm with x | ⟨x, y⟩
    · exact .inl x
    · exact .inr (.inl ⟨hS _ x, y⟩)
  · obtain ⟨op, ho, hoa⟩ := Option.map_eq_some_iff.1 hi
    have := h.seen op (mem_of_getElem? ho)
    rw [hoa] at this
    simp only [MemAct.low] at this
    omega

/-- g's operations are laid behind. -/
theorem PT.app (p : PT A n0 rel Sh t) (hu : ∀ op ∈ u, op.g = g ∧ op.act ≠ .mark (.release A)) (hk : ∀ op ∈ u, ∀ a, op.act.touch? = some a → a.loc.isMemory = true → g = 0 ∨ (Sh a.loc ∧ a.kind = .atomic) ∨ (n0 ≤ g ∧ rel g = none))
    (hc : g ≠ 0 → (n0 ≤ g ∧ rel g = none) ∨ ∀ i, t.size ≤ i → (t ++ u).g? i = some g → ¬ (t ++ u).counts i) : PT A n0 rel Sh (t ++ u) := by
  refine ⟨fun i a ha hm => ?_, fun i k hgi h0 hci => ?_, fun k r hr => ?_, p.norel.app fun op hop => (hu op hop).2⟩
  · obtain ⟨z, hz, hza⟩ := touch_of ha
    rcases getElem?_append_cases hz with ⟨hi, hz'⟩ | ⟨hi, hzu⟩
    · rcases p.known i a (by rw [touchAt_of hz']; exact hza) hm with x | x | ⟨k, x1, x2, x3⟩
      · exact .inl (x.app u)
      · exact .inr (.inl x)
      · exact .inr (.inr ⟨k, x1, by rw [g?_old hi]; exact x2, x3⟩)
    · have hg := (hu z hzu).1
      have hgi : (t ++ u).g? i = some g := by simp [Trace.g?, hz, hg]
      rcases hk z hzu a hza hm with x | x | ⟨x1, x2⟩
      · have := knows_own hz
        rw [hg, x] at this
        exact .inl this
      · exact .inr (.inl x)
      · exact .inr (.inr ⟨g, x1, hgi, fun r hr => by rw [x2] at hr; cases hr⟩)
  · rcases Nat.lt_or_ge i t.size with hlt | hge
    · rcases p.over i k (by rw [← g?_old (u := u) hlt]; exact hgi) h0 ((counts_old hlt).1 hci) with ⟨j, hj, hb⟩ | x
      · exact .inl ⟨j, by rw [g?_old (g?_lt hj)]; exact hj, hb_app u hb⟩
      · exact .inr x
    · have hkg : k = g := by
        obtain ⟨z, hz, hzg⟩ := Option.map_eq_some_iff.1 hgi
        rcases getElem?_append_cases hz with ⟨hi, _⟩ | ⟨_, hzu⟩
        · omega
        · rw [← hzg]; exact (hu z hzu).1
      subst hkg
      rcases hc h0 with ⟨x1, x2⟩ | x
      · exact .inr ⟨x1, fun r hr => by rw [x2] at hr; cases hr⟩
      · exact absurd hci (x i hge hgi)
  · obtain ⟨h1, h2, h3⟩ := p.said k r hr
    have hlt := lt_of_act? h1
    exact ⟨by rw [act?_old hlt]; exact h1, by rw [g?_old hlt]; exact h2, (heard_old hlt).2 h3⟩

/-- A worker says its release. -/
theorem PT.release (p : PT A n0 rel Sh t) {y : MemOp} (hg : y.g = g) (hy : y.act = .mark (.releaseMerge A)) (h0 : Deaf t g = 0) (hn : rel g = none) : PT A n0 (up rel g (some t.size)) Sh (t ++ #[y]) := by
  have hlast : (t ++ #[y])[t.size]? = some y := by rw [Array.getElem?_append_right (Nat.le_refl _)]; simp
  have hnt : ∀ b, y.act.touch? = some b → False := fun b hb => by rw [hy] at hb; cases hb
  have hle : ∀ k i, i < t.size → (∀ r, rel k = some r → i ≤ r) → ∀ r, up rel g (some t.size) k = some r → i ≤ r := fun k i hi x r hr => by
    by_cases hk : k = g
    · subst hk; rw [up_same] at hr; cases hr; omega
    · rw [up_ne _ _ hk] at hr; exact x r hr
  refine ⟨fun i a ha hm => ?_, fun i k hgi hk0 hci => ?_, fun k r hr => ?_, p.norel.app fun op hop => ?_⟩
  · obtain ⟨z, hz, hza⟩ := touch_of ha
    rcases getElem?_append_cases hz with ⟨hi, hz'⟩ | ⟨hi, hzu⟩
    · rcases p.known i a (by rw [touchAt_of hz']; exact hza) hm with x | x | ⟨k, x1, x2, x3⟩
      · exact .inl (x.app _)
      · exact .inr (.inl x)
      · exact .inr (.inr ⟨k, x1, by rw [g?_old hi]; exact x2, hle k i hi x3⟩)
    · simp at hzu; subst hzu; exact (hnt a hza).elim
  · rcases Nat.lt_or_ge i t.size with hlt | hge
    · rcases p.over i k (by rw [← g?_old (u := #[y]) hlt]; exact hgi) hk0 ((counts_old hlt).1 hci) with ⟨j, hj, hb⟩ | x
      · exact .inl ⟨j, by rw [g?_old (g?_lt hj)]; exact hj, hb_app _ hb⟩
      · exact .inr ⟨x.1, hle k i hlt x.2⟩
    · obtain ⟨a, ha, _⟩ := hci
      obtain ⟨z, hz, hza⟩ := touch_of ha
      rcases getElem?_append_cases hz with ⟨hi, _⟩ | ⟨_, hzu⟩
      · omega
      · simp at hzu; subst hzu; exact (hnt a hza).elim
  · by_cases hk : k = g
    · subst hk
      rw [up_same] at hr
      cases hr
      exact ⟨by rw [act?_of hlast, hy], by simp [Trace.g?, hg], k, by simp [Trace.g?, hg], by rw [deaf_old (Nat.le_refl _)]; exact h0⟩
    · rw [up_ne _ _ hk] at hr
      obtain ⟨h1, h2, h3⟩ := p.said k r hr
      have hlt := lt_of_act? h1
      exact ⟨by rw [act?_old hlt]; exact h1, by rw [g?_old hlt]; exact h2, (heard_old hlt).2 h3⟩
  · simp at hop; subst hop; rw [hy]; simp

/-- THE ACQUIRE: all is known, all is handed over. -/
theorem PT.acquire (p : PT A n0 rel Sh t) {y : MemOp} (hg : y.g = 0) (hy : y.act = .mark (.acquire A)) (h0 : Deaf t 0 = 0) (clean : ∀ said, ¬ Race said t) {B : Nat} (hB : ∀ op ∈ t, op.act.low B) (hA : A.block < B)
    (all : ∀ i k, n0 ≤ k → t.g? i = some k → ∃ r, rel k = some r) : Past Sh B (t ++ #[y]) := by
  have hlast : (t ++ #[y])[t.size]? = some y := by rw [Array.getElem?_append_right (Nat.le_refl _)]; simp
  have hnt : ∀ b, y.act.touch? = some b → False := fun b hb => by rw [hy] at hb; cases hb
  have hq : (t ++ #[y]).act? t.size = some (.mark (.acquire A)) := by rw [act?_of hlast, hy]
  have hg0 : (t ++ #[y]).g? t.size = some 0 := by simp [Trace.g?, hg]
  have hh : (t ++ #[y]).heard t.size := ⟨0, hg0, by rw [deaf_old (Nat.le_refl _)]; exact h0⟩
  have p' : ∀ k r, rel k = some r → HappensBefore (t ++ #[y]) r t.size := fun k r hr => by
    obtain ⟨h1, h2, h3⟩ := p.said k r hr
    have hlt := lt_of_act? h1
    refine .single (.inr ⟨.marked hlt (.inr (by rw [act?_old hlt]; exact h1)) hq (fun j _ hj => by rw [act?_old hj]; exact p.norel j), (heard_old hlt).2 h3, hh⟩)
  have bef : ∀ i k, n0 ≤ k → t.g? i = some k → (∀ r, rel k = some r → i ≤ r) → HappensBefore (t ++ #[y]) i t.size := fun i k hk hgi hr => by
    obtain ⟨r, hrr⟩ := all i k hk hgi
    obtain ⟨h1, h2, h3⟩ := p.said k r hrr
    have hlt := lt_of_act? h1
    rcases Nat.lt_or_ge i r with hl | hge
    · exact .trans (.single (.inl ⟨hl, k, by rw [g?_old (by omega)]; exact hgi, by rw [g?_old hlt]; exact h2⟩)) (p' k r hrr)
    · obtain rfl : i = r := by have := hr r hrr; omega
      exact p' k i hrr
  refine ⟨fun said => noRace_append (g := 0) (clean said) (fun op hop => by simp at hop; subst hop; exact hg) fun i a _ op hop b hb _ => ?_, fun i a ha hm => ?_, fun i k hgi hk0 hci => ?_, ?_, fun op hop => ?_⟩
  · simp at hop; subst hop; exact (hnt b hb).elim
  · obtain ⟨z, hz, hza⟩ := touch_of ha
    rcases getElem?_append_cases hz with ⟨hi, hz'⟩ | ⟨hi, hzu⟩
    · rcases p.known i a (by rw [touchAt_of hz']; exact hza) hm with x | x | ⟨k, x1, x2, x3⟩
      · exact .inl (x.app _)
      · exact .inr x
      · exact .inl ⟨t.size, y, hlast, hg, .inr (bef i k x1 x2 x3)⟩
    · simp at hzu; subst hzu; exact (hnt a hza).elim
  · rcases Nat.lt_or_ge i t.size with hlt | hge
    · have hgi' : t.g? i = some k := by rw [← g?_old (u := #[y]) hlt]; exact hgi
      rcases p.over i k hgi' hk0 ((counts_old hlt).1 hci) with ⟨j, hj, hb⟩ | ⟨x1, x2⟩
      · exact ⟨j, by rw [g?_old (g?_lt hj)]; exact hj, hb_app _ hb⟩
      · exact ⟨t.size, hg0, bef i k x1 hgi' x2⟩
    · obtain ⟨a, ha, _⟩ := hci
      obtain ⟨z, hz, hza⟩ := touch_of ha
      rcases getElem?_append_cases hz with ⟨hi, _⟩ | ⟨_, hzu⟩
      · omega
      · simp at hzu; subst hzu; exact (hnt a hza).elim
  · rw [Deaf_push, h0]
    simp only [deafStep, hy]
  · rcases Array.mem_append.1 hop with hop | hop
    · exact hB op hop
    · simp at hop; subst hop; rw [hy]; exact hA
end
end Go.Lu
