/- A law of this seat, from what goroutine 0 comes to: the row. -/
import Derived.Test.YtmjmhaoikilagaaGreatDoorV1
set_option linter.unusedVariables false
set_option linter.unusedSectionVars false
namespace Go.Proofs.YtmjmhaoikilagaaGreatDoor
open Go Go.ChangeShapes Go.WideShapes Go.ChangeAt Go.RowKit Go.Lu

theorem own : ownKnob Tryz.prog.godebug = none := by kernel_rfl
theorem laidOut : laidOutB Tryz.prog = true := by kernel_rfl
theorem cells5 : Tryz.prog.cellsOf 5 = 1 := by kernel_rfl
theorem bytes5 : Tryz.prog.bytesOf 5 = 1 := by kernel_rfl
noncomputable def theLaid : List (String × DataW Unit) := [("errors.errorType", Rows.laid_errors_errorType)]
theorem below_of {W w : World} (h : Base W w) : Below W.heap.size W w := ⟨h.os, h.tape, h.output, h.size, h.block⟩
theorem cell_heap {W : World} {b o : Nat} {v : Value} {sp} (h : W.cell? ⟨b, o, sp⟩ = some v) : sp = none ∧ (heapOf W).cell? ⟨b, o, none⟩ = some v := by
  unfold World.cell? at h
  unfold LH.cell? heapOf
  simp only at h ⊢
  split at h
  · rename_i c _ _ hc
    rw [hc]
    cases sp with
    | none => exact ⟨rfl, by simpa using h⟩
    | some x => simp at h
  · cases h

set_option maxRecDepth 100000 in
theorem lifted {f : FuncId} {fn : Func} {s : ChangeSpec} (hfn : Tryz.prog.funcs[f]? = some fn) (hp : fn.params = #[22]) (hrt : fn.resultTypes = #[4]) (hsv : s.vars = [])
    (hsf : ∀ (H : Type) (d : DataW H), s.fn H ([d] ++ []) = { results := [.lit (.bool true)], args := [d] })
    (hrun : ∀ (W : World) (Post : Value → World → Prop) (v : Value), codeOk (heapOf W) v → (∀ w, Base W w → Post (.bool true) w) → S0 Tryz.prog Post W (Go.Conc.G (Frame.enter Tryz.prog f #[v] .normal) []) (heapOf W))
    {os : Os} (started : os.Started) {H : Type} {enc : TypeId × Value → H}
    (witness : ∃ (w : World) (tape : Tape) (i : Input), w.os = os ∧ (w.forCall tape i).Shaped Tryz.prog ∧ i.vars = [] ∧ Input.okWide Tryz.prog (w.forCall tape i) .any w.heap.size f i ∧
      ((s.pre enc Tryz.prog fn [] false (w.forCall tape i).memory i.args ∧ laidMetH Tryz.prog theLaid (w.forCall tape i).memory) ∧ sizedMet enc Tryz.prog fn (OpenSpec.ofChange s) false (w.forCall tape i).memory i.args) ∧ ({} : Assume).holds Tryz.prog (lone (Frame.enter Tryz.prog f i.args .normal) [] (w.forCall tape i))) :
    ReturnsInLeavingWide {} Tryz.checked os f .any (fun w args => (s.pre enc Tryz.prog fn [] false w args ∧ laidMetH Tryz.prog theLaid w) ∧ sizedMet enc Tryz.prog fn (OpenSpec.ofChange s) false w args)
      (s.post enc Tryz.prog fn false true false false) := by
  refine returnsInLeavingWide_of_good own started witness ?_
  intro w tape i _ _ _ hok hpre _
  obtain ⟨_, _, _, fn', hfn', _, _, _, _, hval0⟩ := hok
  have e : fn' = fn := Option.some.inj (hfn'.symm.trans hfn)
  subst e
  obtain ⟨⟨⟨ds, gs, before, hw, hc⟩, hx⟩, hz⟩ := hpre
  have hW := DataW.Whole.of_heap (w' := w.forCall tape i) (by rfl) hw
  have hval1 : ∀ (j : Nat) t v, fn'.params[j]? = some t → i.args[j]? = some v → Value.okWide Tryz.prog (w.forCall tape i) .any w.heap.size t v := hval0
  have hsize : (w.forCall tape i).heap.size = w.heap.size ∨ True := .inr trivial
  obtain ⟨blocks, args, vars⟩ := i
  simp only at hW hval1 ⊢
  generalize World.forCall w tape { blocks := blocks, args := args, vars := vars } = W at hW hval1 hx hz ⊢
  have hW' := hW
  obtain ⟨p, q, hA0, hV0, rfl, hfz, hnd⟩ := hW
  rw [hsv] at hV0
  have hA : DataW.TrodAll enc Tryz.prog W 0 (fun _ => true) true fn'.params.toList args.toList ds p := hA0
  rw [hp] at hA hval1
  obtain ⟨v0, d0, hv0, rfl, h0⟩ := trodAll_one hA
  obtain rfl : args = #[v0] := by simpa using hv0
  obtain ⟨rfl, rfl⟩ := trodVars_none hV0
  obtain ⟨a0, len, cap, rfl⟩ := okWide_slice Tryz.underlying22 (hval1 0 22 v0 rfl rfl)
  have h0k := h0
  obtain ⟨fuel, hf⟩ := h0
  simp only [List.append_nil] at hW'
  have hlt : ∀ x ∈ p, x.block < W.heap.size := fun x hx => by simpa using hW'.lt x hx
  have hcode : codeOk (heapOf W) (.slice a0 len cap) := by
    rcases open_ints Tryz.underlying22 Tryz.underlying5 cells5 hf with ⟨hcs, hx⟩ | ⟨a, len', cap', zs, hcs, _, hl, hm, hz, hx, hcell, hwz⟩
    · simp [Value.cells] at hcs
      obtain ⟨rfl, rfl, rfl⟩ := hcs
      exact ⟨none, 0, 0, rfl, Nat.le_refl _, by omega, .inl rfl⟩
    · simp [Value.cells] at hcs
      obtain ⟨rfl, rfl, rfl⟩ := hcs
      simp only [if_true] at hz
      refine ⟨_, _, _, rfl, hl, by simp only [maxLen] at hm; omega, ?_⟩
      by_cases hl0 : len = 0
      · exact .inl hl0
      · right
        obtain ⟨b, o, sp⟩ := a
        have h1 := hcell 0 (by omega)
        have h2 : W.cell? ⟨b, o + 0, sp⟩ = some (.int .u8 (zs.getD 0 0)) := h1
        obtain ⟨rfl, _⟩ := cell_heap h2
        refine ⟨b, o, rfl, ⟨fun j hj => ?_⟩⟩
        have h3 : W.cell? ⟨b, o + j, none⟩ = some (.int .u8 (zs.getD j 0)) := by rw [← add_mk]; exact hcell j (by omega)
        refine ⟨zs.getD j 0, fun k v hk => ?_, ?_⟩
        · cases k with
          | zero => simp only [List.getElem?_cons_zero, Option.some.injEq] at hk; subst hk; exact (cell_heap h3).2
          | succ k => simp at hk
        · have hm1 : zs.getD j 0 ∈ zs := by
            rw [List.getD_eq_getElem?_getD, List.getElem?_eq_getElem (by omega)]
            exact List.getElem_mem _
          have := hwz _ hm1
          simp only [Lit.wf, Bool.and_eq_true, decide_eq_true_eq] at this
          have e1 : (IntKind.u8).min = 0 := by decide
          have e2 : (IntKind.u8).max = 255 := by decide
          rw [e1, e2] at this
          exact this
  have x := hrun W (fun v w' => s.post enc Tryz.prog fn' false true false false W #[.slice a0 len cap] v w') (.slice a0 len cap) hcode fun w' hb => ?_
  · obtain ⟨N, last, o, w', t', h1, h2, h3, h4⟩ := S0.start x
    exact ⟨N, last, o, w', t', h1, h2, h3, h4.mono fun v hp => ChangeSpec.post_blind hp⟩
  · have hbelow := below_of hb
    have hargs : DataW.Trod enc Tryz.prog w' 0 (fun b => decide (b < W.heap.size)) true 22 (.slice a0 len cap) d0 p :=
      Below.trod laidOut (by kernel_rfl) (of_decide_eq_true (by kernel_rfl)) h0k hbelow hlt
    refine ⟨_, _, _, [], p, [], hW', ?_, ?_, by rw [hsf, hsv]; rfl, hbelow.frame _, fun h => by cases h⟩
    · rw [hsf, hrt]
      exact trodAll_mk1 (shut_bool Tryz.underlying4 true)
    · rw [hsf, hp]
      exact trodAll_mk1 hargs
end Go.Proofs.YtmjmhaoikilagaaGreatDoor
