/- From a run of goroutine 0 to the row: whatever law of this seat. -/
import Derived.Test.YtmjmhaoikilagaaGreatDoorU13
import Derived.Test.YtmjmhaoikilagaaGreatDoorPh3
import Derived.Test.YtmjmhaoikilagaaGreatDoorArgs
import Derived.Test.YtmjmhaoikilagaaGreatDoorRows
import Derived.Conc.LeavingOf
import Derived.ProofKit
import Derived.LaidMore
import Derived.Stop.Joined
set_option linter.unusedVariables false
set_option linter.unusedSectionVars false
namespace Go.Lu
open Go.Conc

/-- The heap that a world holds. -/
def heapOf (W : World) : LH := fun b => W.heap[b]?
section
variable {P : Program} {Post : Value → World → Prop} {W : World}
theorem S0.start {g : Goroutine} (x : S0 P Post W g (heapOf W)) : RunEnds P Post (solo g W) #[] := by
  rw [solo_eq_crowd]
  refine x _ W none #[] (fun _ => 0) (fun _ => False) ⟨rfl, leavers_one P g, ?_, ⟨fun b o h => h, fun b h => h⟩, fun b h => h.elim, ⟨rfl, rfl, rfl, Nat.le_refl _, fun b _ => rfl⟩, by simp⟩
  exact ⟨past_nil.clean, fun i a h hm => (past_nil.known i a h hm).imp id fun h => h.1.elim, past_nil.over, past_nil.hears, by simp⟩

/-- The call that the claim speaks of: its body by a judgement; it gives back one temporary. -/
theorem S0.enter1 {A : (Goroutine → LH → Prop) → Prop} [hA : Adm P true (· < W.heap.size) A] (hS : A (S0 P Post W)) {f : FuncId} {fn : Func} {c : Code} {n t : Nat} {args : List Value} {h : LH} {K : Value → LH → Prop}
    (hf : P.funcs[f]? = some fn) (hni : P.inits.idxOf? f = none) (hc : fn.body = some c) (hn : fn.ntmps = n) (hl : args.length ≤ n) (hr : fn.results = [ResultVar.tmp t].toArray)
    (x : Lu.W (· < W.heap.size) A n c ⟨argE args, [], [], h⟩ (EndS P (· < W.heap.size) fn n (retOnly K)))
    (hK : ∀ v h', K v h' → ∀ w, Base W w → Post v w) : S0 P Post W (G (Frame.enter P f args.toArray .normal) []) h := by
  have h0 := ok_args (lo := (· < W.heap.size)) (n := n) args hl (L := []) (h := h) apart_nil
  let b : Frame := { fn := f, tmps := #[], todo := [], defers := [], mode := .run, kind := .normal }
  have e : Frame.enter P f args.toArray .normal = b.at (mkA n ⟨argE args, [], [], h⟩) [.code c] := by
    rw [← mkA_args args hl]
    simp [Frame.enter, Frame.at, hf, hc, hn, b]
  rw [e]
  have hret : ∀ a h todo, TS (· < W.heap.size) n (EndS P (· < W.heap.size) fn n (retOnly K)) .ret a h → S0 P Post W (G { b.at a todo with mode := .returning } []) h := by
    rintro a h todo ⟨s, rfl, rfl, ok, hx⟩
    obtain ⟨hd, hw⟩ := hx ok
    unfold results at hw
    rw [hr] at hw
    simp only [List.mapM_toArray, List.mapM_cons, List.mapM_nil, wpL_bind', wpL_map, wpL_pure] at hw
    obtain ⟨h'', hle, hk⟩ := hw
    refine S0.ret (v := (mkA n s).tmps.getD t undef) rfl (fun w hi => ?_) (fun w hi hb => hK _ _ hk w hb)
    have hdd : (mkA n s).defers = [] := hd
    have er : results fn (mkA n s).tmps = Sem.pure ((mkA n s).tmps.getD t undef) := by
      unfold results
      rw [hr]
      simp only [List.mapM_toArray, List.mapM_cons, List.mapM_nil]
      rfl
    have e1 : ∀ v : Value, (Sem.pure v : Sem Value).run P w = .ok v w := fun v => rfl
    have e2 : ∀ v : Value, (Sem.pure v : Sem Value).events P w #[] = #[] := fun v => rfl
    simp [G, Go.stepG, Go.unwind, Frame.at, b, hf, hdd, er, GStep.after, doReturn, seen, hni, e1, e2]
  refine x h0 _ hS b [] [] (by simp [b]) ⟨?_, ?_, hret, ?_⟩
  · intro a h z
    exact ctl hS rfl (fun w => stepG_end) (hret a h [] z)
  · rintro id a h ⟨s, _, _, _, hn⟩
    exact hn.elim
  · rintro ch a h todo ⟨s, rfl, rfl, ok, hx⟩
    obtain ⟨_, _, _, hq⟩ := hx ok
    exact hq.elim
end
end Go.Lu
