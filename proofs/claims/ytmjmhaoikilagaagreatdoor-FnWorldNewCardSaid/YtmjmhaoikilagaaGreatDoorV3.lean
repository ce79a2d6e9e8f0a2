/- The call of laws.FnWorldNew returns true, whatever the code: the tied card. -/
import Derived.Test.YtmjmhaoikilagaaGreatDoorV2
import Derived.Test.YtmjmhaoikilagaaGreatDoorTie
import Derived.Test.YtmjmhaoikilagaaGreatDoorCards
import Derived.SevenTiedAt
set_option linter.unusedVariables false
namespace Go
theorem Claim7.holds_tied_plain_goes (Lk : Looks) {p : Pinned} {s : OpenSpec} {c : OpenClaim} (kinds : List LaidKind) (tests : Bool) (har : Bool × String) (lk : Bool)
    (hc : c.holds p s) (hw : c.wfByText s = true) (htie : c.laidByTextAt Lk p kinds tests)
    (hst : c.start = .entering) (hnb : c.noBlocks = false ∧ c.again = false) (hm : p.checked.prog.mainIs = some (har.1, har.2.toList)) (hn : (!har.1 && har.2.isEmpty && !lk) = false)
    (hl : ∀ f fn, p.checked.prog.funcNamed c.func = some f → p.checked.prog.funcs[f]? = some fn → lk = p.checked.prog.looks [] ∧ ∀ (j : Nat) t, fn.params[j]? = some t → p.checked.prog.wantsStandIn t = false)
    (hg : true = c.goesBy p.checked.prog) :
    Claim7.holds p (.plain s) { stood := { row := c, standIns := [], harness := har, looks := lk }, kinds := [], alts := [], goes := true, laidByText := true, laidKinds := kinds, laidTests := tests, laidLooks := Lk } := by
  have h6 : ∀ r : OpenClaim, Claim7.isSixth { stood := { row := r, standIns := [], harness := har, looks := lk }, kinds := [] } = false := fun r => by simpa [Claim7.isSixth] using hn
  refine ⟨Claim7.tied_new_at Lk kinds tests (Claim7.new_of_sixth hc har lk hst hnb hm (h6 c) hl) hw, fun D hD => ?_, htie, (fun h => by cases h), hg⟩
  exact absurd (show D ∈ ([] : List (List PathCond)) from hD) List.not_mem_nil
end Go
namespace Go.Proofs.YtmjmhaoikilagaaGreatDoor
open Go Go.ChangeShapes Go.WideShapes Go.ChangeAt Go.RowKit Go.Lu

theorem door_met (os : Os) (args : Array Value) : laidMetH Tryz.prog theLaid ((World.doorLaid Tryz.prog 16 os).forCall (fun _ _ => 0) ⟨#[], args, []⟩).memory :=
  laidMetH_of_parts3 (fuel := 8) (laidMet_of_run' 8 (by kernel_rfl) (by kernel_rfl)) (by kernel_rfl) (by kernel_rfl)

theorem fnWorldNew_run (W : World) (Post : Value → World → Prop) (v : Value) (hc : codeOk (heapOf W) v) (hp : ∀ w, Base W w → Post (.bool true) w) : S0 Tryz.prog Post W (Go.Conc.G (Frame.enter Tryz.prog 3 #[v] .normal) []) (heapOf W) :=
  S0.enter1 (A := Plain Tryz.prog true (· < W.heap.size)) (n := 88) (args := [v]) S0.plain Tryz.func3 (by kernel_rfl) rfl rfl (by simp) rfl (FnWorldNew_W hc rfl) fun v' h' hv w hb => by rw [hv.1]; exact hp w hb

set_option maxRecDepth 100000 in
theorem fnWorldNew_lifted (os : Os) (started : os.Started) (H : Type) (enc : TypeId × Value → H) :
    ReturnsInLeavingWide {} Tryz.checked os 3 .any (fun w args => (Rows.fnWorldNewSpec.pre enc Tryz.prog Tryz.f3 [] false w args ∧ laidMetH Tryz.prog theLaid w) ∧ sizedMet enc Tryz.prog Tryz.f3 (OpenSpec.ofChange Rows.fnWorldNewSpec) false w args)
      (Rows.fnWorldNewSpec.post enc Tryz.prog Tryz.f3 false true false false) :=
  lifted Tryz.func3 Tryz.params3 rfl rfl (fun _ _ => rfl) fnWorldNew_run started
    (ChangeSpec.witness_shaped (enc := enc) (C := Tryz.checked) (os := os) (X := fun w _ => laidMetH Tryz.prog theLaid w) false (World.doorLaid Tryz.prog 16 os) #[.slice none 0 0] 8 rfl (World.shaped_of_RefB (by kernel_rfl) (by kernel_rfl)) (by kernel_rfl) (by kernel_rfl) (by kernel_rfl) (door_met os _))

theorem fnWorldNew_holds : Rows.FnWorldNewSaid :=
  OpenClaim.holds_of_wide_leaving 3 Tryz.f3 rfl rfl rfl rfl rfl rfl rfl ⟨rfl, rfl, rfl, rfl, rfl⟩ rfl rfl rfl rfl rfl (by kernel_rfl) Tryz.func3 (by kernel_rfl)
    (of_decide_eq_true (by kernel_rfl)) (by unfold Func.isWrapper; first | (rw [if_pos (by decide +kernel)]; kernel_rfl) | (rw [if_neg (by decide +kernel)]; exact ⟨rfl, rfl⟩))
    (fun os started H enc _ => fnWorldNew_lifted os started H enc)

theorem fnWorldNew_card : Rows.FnWorldNewCardSaid :=
  Claim7.holds_tied_plain_goes .later [.handle] true (true, "073f34cef7e89e4598702d99c502280a41ff800e94727ee142bac5c32439e004") true
    fnWorldNew_holds (by kernel_rfl) fnWorldNew_row_tie rfl ⟨rfl, rfl⟩ (by kernel_rfl) rfl
    (fun f fn hf hfn => by
      obtain rfl : f = 3 := Option.some.inj ((show Tryz.prog.funcNamed "loop.example/lucarne/laws.FnWorldNew" = some 3 by kernel_rfl).symm.trans hf) |>.symm
      obtain rfl : fn = Tryz.f3 := (Option.some.inj (Tryz.func3.symm.trans hfn)).symm
      exact ⟨by kernel_rfl, fun j t ht => by
        rw [Tryz.params3] at ht
        have h3 : t = 22 := by
          rcases j with _ | j
          · simpa using ht.symm
          · simp at ht
        subst h3
        exact (show Tryz.prog.wantsStandIn 22 = false by kernel_rfl)⟩)
    (by kernel_rfl)
#print axioms fnWorldNew_card
end Go.Proofs.YtmjmhaoikilagaaGreatDoor
