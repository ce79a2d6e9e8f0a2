/- what a frame holds when its function is entered -/
import Derived.Test.YtmjmhaoikilagaaGreatDoorState
set_option linter.unusedVariables false
set_option linter.unusedSimpArgs false
namespace Go.Lu
theorem mkA_args {n : Nat} (args : List Value) (hl : args.length ≤ n) (L : OL) (h : LH) : (⟨args.toArray ++ Array.replicate (n - args.length) undef, []⟩ : Act) = mkA n ⟨argE args, [], L, h⟩ := by
  unfold mkA argE
  congr 1
  apply Array.ext
  · simp; omega
  · intro i h1 h2
    simp only [Array.getElem_ofFn]
    by_cases hi : i < args.length
    · simp [Array.getElem_append, hi, List.getD_eq_getElem?_getD]
    · simp [Array.getElem_append, hi, List.getD_eq_getElem?_getD]
theorem ok_args {lo : Nat → Prop} {n : Nat} (args : List Value) (hl : args.length ≤ n) {L : OL} {h : LH} (ha : Apart lo L h) : Ok lo n ⟨argE args, [], L, h⟩ := by
  refine ⟨ha, fun t ht => ?_⟩
  simp only [argE, List.getD_eq_getElem?_getD]
  rw [List.getElem?_eq_none (by omega)]; rfl
theorem apart_nil {lo : Nat → Prop} {h : LH} : Apart lo [] h := ⟨by simp [keys], fun b hb => by simp [keys] at hb, fun b hb => by simp [keys] at hb⟩
end Go.Lu
