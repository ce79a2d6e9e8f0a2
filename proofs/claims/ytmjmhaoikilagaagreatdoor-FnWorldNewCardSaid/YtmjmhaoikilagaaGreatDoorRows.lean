/-
  NARROWER THAN 'FOR EVERY INPUT', by the rows' own cells (each row's printed sentence says how): FnWorldNew: laid · FnKeepTrue: laid · FnKeepGrid: laid · FnKeepTell: laid · FnKeepEdit: laid · FnKeepTwice: laid · FnKeepHear: laid · FnKeepWant: laid.
  DERIVED. THE GIVEN ROWS OF THIS SEAT. 8 by the template 'for every input the law returns true; each argument reads behind the call as it read before'; 0 by the template 'total and deterministic' (their statements: YtmjmhaoikilagaaGreatDoorTotals.lean).
  GIVEN WITH THE SEED: the statements are not yours to turn. If you find one false, say at which input.
  Laid BY PROGRAM, IN A SANDBOX (cutbox-rows.mjs): the forced cells as the released guide's own fill.sh prints them over the translation b08ce050d127fc41… (all of the seat's roots in one cut). By AI agents, Wed Nov 11 2026. No macro, syntax, notation, axiom, sorry.
-/
import Derived.Test.YtmjmhaoikilagaaGreatDoorChecked
import GoSem.Claim
import GoSem.ClaimJoined
import GoSem.ClaimMapViews
import Derived.JoinedTies
import Derived.KernelRfl
namespace Go.Proofs.YtmjmhaoikilagaaGreatDoor
/- THE CELL 'sum', in the pinned program and in every row, IS THE sha256 OF THE DUMP (.gsa) THAT YtmjmhaoikilagaaGreatDoorProg.lean LOADS. Nothing in Lean hashes anything: it is a label: what it is worth is what the hold of that sum in a sandbox is worth. -/
noncomputable def Tryz.pinned : Pinned := { name := "ytmjmhaoikilagaagreatdoor", sum := "b08ce050d127fc418a513191ded189b7f0618f47490a3d1983d9b7b0b62e8733", checked := Tryz.checked }
namespace Rows
def none {H : Type} : Left H := { results := [], args := [] }

/- WHAT THE LISTED PACKAGE-LEVEL VARIABLES READ AS WHEN THE CALL BEGINS. Each datum BY PROGRAM (the guide's laid-datum.mjs) off the statement by which the dump's own 'gosem.cut.vars' lays the variable. In a bare row this is a premise. The card (YtmjmhaoikilagaaGreatDoorCards.lean) ties it to the program's text. -/
def laid_errors_errorType {H : Type} : DataW H := .iface "internal/reflectlite.rtype" (.agg [.ptr (.lit (.string [101, 114, 114, 111, 114]))])

/-- 'laws.FnWorldNew': WHATEVER THE INPUT: true; the input reads as it did. -/
def fnWorldNewSpec : ChangeSpec := { name := "fnWorldNew", fn := fun _ => fun
  | [d] => { results := [.lit (.bool true)], args := [d] }
  | _ => none }
def fnWorldNewRow : OpenClaim := { program := "ytmjmhaoikilagaagreatdoor", sum := "b08ce050d127fc418a513191ded189b7f0618f47490a3d1983d9b7b0b62e8733", func := "loop.example/lucarne/laws.FnWorldNew", spec := "fnWorldNew", inPlace := ["(*sync.WaitGroup).Add", "internal/race.ReleaseMerge", "internal/race.Disable", "internal/race.Enable", "internal/synctest.IsInBubble", "internal/synctest.Associate[sync.WaitGroup]", "sync.fatal", "sync/atomic.OrUint64", "sync/atomic.AddUint64", "internal/race.Read", "sync/atomic.LoadUint64", "sync/atomic.StoreUint64", "internal/synctest.Disassociate[sync.WaitGroup]", "sync.runtime_Semrelease", "(*sync.WaitGroup).Done", "(*sync.WaitGroup).Wait", "internal/race.Acquire", "internal/synctest.IsAssociated[sync.WaitGroup]", "sync/atomic.CompareAndSwapUint64", "internal/race.Write", "sync.runtime_SemacquireWaitGroup", "internal/reflectlite.ValueOf", "(internal/reflectlite.Value).Type", "(internal/reflectlite.Value).IsNil", "internal/reflectlite.TypeOf", "(internal/reflectlite.Value).Elem", "(internal/reflectlite.Value).Set"], unfollowed := true, recurses := true, named := ["errors.errorType"], leaving := true, apart := false, laid := [("errors.errorType", laid_errors_errorType)] }
def FnWorldNewSaid : Prop := fnWorldNewRow.holds Tryz.pinned (OpenSpec.ofChange fnWorldNewSpec)

/-- ITS FALSE NEIGHBOUR: 'it returns false'. Refute it at one input. -/
def fnWorldNewWrong : ChangeSpec := { name := "fnWorldNew", fn := fun _ => fun
  | [d] => { results := [.lit (.bool false)], args := [d] }
  | _ => none }
def FnWorldNewWrongFalsely : Prop := fnWorldNewRow.holds Tryz.pinned (OpenSpec.ofChange fnWorldNewWrong)

/-- 'laws.FnKeepTrue': WHATEVER THE INPUT: true; the input reads as it did. -/
def fnKeepTrueSpec : ChangeSpec := { name := "fnKeepTrue", fn := fun _ => fun
  | [d] => { results := [.lit (.bool true)], args := [d] }
  | _ => none }
def fnKeepTrueRow : OpenClaim := { program := "ytmjmhaoikilagaagreatdoor", sum := "b08ce050d127fc418a513191ded189b7f0618f47490a3d1983d9b7b0b62e8733", func := "loop.example/lucarne/laws.FnKeepTrue", spec := "fnKeepTrue", inPlace := ["(*sync.WaitGroup).Add", "internal/race.ReleaseMerge", "internal/race.Disable", "internal/race.Enable", "internal/synctest.IsInBubble", "internal/synctest.Associate[sync.WaitGroup]", "sync.fatal", "sync/atomic.OrUint64", "sync/atomic.AddUint64", "internal/race.Read", "sync/atomic.LoadUint64", "sync/atomic.StoreUint64", "internal/synctest.Disassociate[sync.WaitGroup]", "sync.runtime_Semrelease", "(*sync.WaitGroup).Done", "(*sync.WaitGroup).Wait", "internal/race.Acquire", "internal/synctest.IsAssociated[sync.WaitGroup]", "sync/atomic.CompareAndSwapUint64", "internal/race.Write", "sync.runtime_SemacquireWaitGroup", "internal/reflectlite.ValueOf", "(internal/reflectlite.Value).Type", "(internal/reflectlite.Value).IsNil", "internal/reflectlite.TypeOf", "(internal/reflectlite.Value).Elem", "(internal/reflectlite.Value).Set"], unfollowed := true, recurses := true, named := ["errors.errorType"], leaving := true, apart := false, laid := [("errors.errorType", laid_errors_errorType)] }
def FnKeepTrueSaid : Prop := fnKeepTrueRow.holds Tryz.pinned (OpenSpec.ofChange fnKeepTrueSpec)

/-- ITS FALSE NEIGHBOUR: 'it returns false'. Refute it at one input. -/
def fnKeepTrueWrong : ChangeSpec := { name := "fnKeepTrue", fn := fun _ => fun
  | [d] => { results := [.lit (.bool false)], args := [d] }
  | _ => none }
def FnKeepTrueWrongFalsely : Prop := fnKeepTrueRow.holds Tryz.pinned (OpenSpec.ofChange fnKeepTrueWrong)

/-- 'laws.FnKeepGrid': WHATEVER THE INPUT: true; the input reads as it did. -/
def fnKeepGridSpec : ChangeSpec := { name := "fnKeepGrid", fn := fun _ => fun
  | [d] => { results := [.lit (.bool true)], args := [d] }
  | _ => none }
def fnKeepGridRow : OpenClaim := { program := "ytmjmhaoikilagaagreatdoor", sum := "b08ce050d127fc418a513191ded189b7f0618f47490a3d1983d9b7b0b62e8733", func := "loop.example/lucarne/laws.FnKeepGrid", spec := "fnKeepGrid", inPlace := ["(*sync.WaitGroup).Add", "internal/race.ReleaseMerge", "internal/race.Disable", "internal/race.Enable", "internal/synctest.IsInBubble", "internal/synctest.Associate[sync.WaitGroup]", "sync.fatal", "sync/atomic.OrUint64", "sync/atomic.AddUint64", "internal/race.Read", "sync/atomic.LoadUint64", "sync/atomic.StoreUint64", "internal/synctest.Disassociate[sync.WaitGroup]", "sync.runtime_Semrelease", "(*sync.WaitGroup).Done", "(*sync.WaitGroup).Wait", "internal/race.Acquire", "internal/synctest.IsAssociated[sync.WaitGroup]", "sync/atomic.CompareAndSwapUint64", "internal/race.Write", "sync.runtime_SemacquireWaitGroup", "internal/reflectlite.ValueOf", "(internal/reflectlite.Value).Type", "(internal/reflectlite.Value).IsNil", "internal/reflectlite.TypeOf", "(internal/reflectlite.Value).Elem", "(internal/reflectlite.Value).Set"], unfollowed := true, recurses := true, named := ["errors.errorType"], leaving := true, apart := false, laid := [("errors.errorType", laid_errors_errorType)] }
def FnKeepGridSaid : Prop := fnKeepGridRow.holds Tryz.pinned (OpenSpec.ofChange fnKeepGridSpec)

/-- ITS FALSE NEIGHBOUR: 'it returns false'. Refute it at one input. -/
def fnKeepGridWrong : ChangeSpec := { name := "fnKeepGrid", fn := fun _ => fun
  | [d] => { results := [.lit (.bool false)], args := [d] }
  | _ => none }
def FnKeepGridWrongFalsely : Prop := fnKeepGridRow.holds Tryz.pinned (OpenSpec.ofChange fnKeepGridWrong)

/-- 'laws.FnKeepTell': WHATEVER THE INPUT: true; the input reads as it did. -/
def fnKeepTellSpec : ChangeSpec := { name := "fnKeepTell", fn := fun _ => fun
  | [d] => { results := [.lit (.bool true)], args := [d] }
  | _ => none }
def fnKeepTellRow : OpenClaim := { program := "ytmjmhaoikilagaagreatdoor", sum := "b08ce050d127fc418a513191ded189b7f0618f47490a3d1983d9b7b0b62e8733", func := "loop.example/lucarne/laws.FnKeepTell", spec := "fnKeepTell", inPlace := ["(*sync.WaitGroup).Add", "internal/race.ReleaseMerge", "internal/race.Disable", "internal/race.Enable", "internal/synctest.IsInBubble", "internal/synctest.Associate[sync.WaitGroup]", "sync.fatal", "sync/atomic.OrUint64", "sync/atomic.AddUint64", "internal/race.Read", "sync/atomic.LoadUint64", "sync/atomic.StoreUint64", "internal/synctest.Disassociate[sync.WaitGroup]", "sync.runtime_Semrelease", "(*sync.WaitGroup).Done", "(*sync.WaitGroup).Wait", "internal/race.Acquire", "internal/synctest.IsAssociated[sync.WaitGroup]", "sync/atomic.CompareAndSwapUint64", "internal/race.Write", "sync.runtime_SemacquireWaitGroup", "internal/reflectlite.ValueOf", "(internal/reflectlite.Value).Type", "(internal/reflectlite.Value).IsNil", "internal/reflectlite.TypeOf", "(internal/reflectlite.Value).Elem", "(internal/reflectlite.Value).Set"], unfollowed := true, recurses := true, named := ["errors.errorType"], leaving := true, apart := false, laid := [("errors.errorType", laid_errors_errorType)] }
def FnKeepTellSaid : Prop := fnKeepTellRow.holds Tryz.pinned (OpenSpec.ofChange fnKeepTellSpec)

/-- ITS FALSE NEIGHBOUR: 'it returns false'. Refute it at one input. -/
def fnKeepTellWrong : ChangeSpec := { name := "fnKeepTell", fn := fun _ => fun
  | [d] => { results := [.lit (.bool false)], args := [d] }
  | _ => none }
def FnKeepTellWrongFalsely : Prop := fnKeepTellRow.holds Tryz.pinned (OpenSpec.ofChange fnKeepTellWrong)

/-- 'laws.FnKeepEdit': WHATEVER THE INPUT: true; the input reads as it did. -/
def fnKeepEditSpec : ChangeSpec := { name := "fnKeepEdit", fn := fun _ => fun
  | [d] => { results := [.lit (.bool true)], args := [d] }
  | _ => none }
def fnKeepEditRow : OpenClaim := { program := "ytmjmhaoikilagaagreatdoor", sum := "b08ce050d127fc418a513191ded189b7f0618f47490a3d1983d9b7b0b62e8733", func := "loop.example/lucarne/laws.FnKeepEdit", spec := "fnKeepEdit", inPlace := ["(*sync.WaitGroup).Add", "internal/race.ReleaseMerge", "internal/race.Disable", "internal/race.Enable", "internal/synctest.IsInBubble", "internal/synctest.Associate[sync.WaitGroup]", "sync.fatal", "sync/atomic.OrUint64", "sync/atomic.AddUint64", "internal/race.Read", "sync/atomic.LoadUint64", "sync/atomic.StoreUint64", "internal/synctest.Disassociate[sync.WaitGroup]", "sync.runtime_Semrelease", "(*sync.WaitGroup).Done", "(*sync.WaitGroup).Wait", "internal/race.Acquire", "internal/synctest.IsAssociated[sync.WaitGroup]", "sync/atomic.CompareAndSwapUint64", "internal/race.Write", "sync.runtime_SemacquireWaitGroup", "internal/reflectlite.ValueOf", "(internal/reflectlite.Value).Type", "(internal/reflectlite.Value).IsNil", "internal/reflectlite.TypeOf", "(internal/reflectlite.Value).Elem", "(internal/reflectlite.Value).Set"], unfollowed := true, recurses := true, named := ["errors.errorType"], leaving := true, apart := false, laid := [("errors.errorType", laid_errors_errorType)] }
def FnKeepEditSaid : Prop := fnKeepEditRow.holds Tryz.pinned (OpenSpec.ofChange fnKeepEditSpec)

/-- ITS FALSE NEIGHBOUR: 'it returns false'. Refute it at one input. -/
def fnKeepEditWrong : ChangeSpec := { name := "fnKeepEdit", fn := fun _ => fun
  | [d] => { results := [.lit (.bool false)], args := [d] }
  | _ => none }
def FnKeepEditWrongFalsely : Prop := fnKeepEditRow.holds Tryz.pinned (OpenSpec.ofChange fnKeepEditWrong)

/-- 'laws.FnKeepTwice': WHATEVER THE INPUT: true; the input reads as it did. -/
def fnKeepTwiceSpec : ChangeSpec := { name := "fnKeepTwice", fn := fun _ => fun
  | [d] => { results := [.lit (.bool true)], args := [d] }
  | _ => none }
def fnKeepTwiceRow : OpenClaim := { program := "ytmjmhaoikilagaagreatdoor", sum := "b08ce050d127fc418a513191ded189b7f0618f47490a3d1983d9b7b0b62e8733", func := "loop.example/lucarne/laws.FnKeepTwice", spec := "fnKeepTwice", inPlace := ["(*sync.WaitGroup).Add", "internal/race.ReleaseMerge", "internal/race.Disable", "internal/race.Enable", "internal/synctest.IsInBubble", "internal/synctest.Associate[sync.WaitGroup]", "sync.fatal", "sync/atomic.OrUint64", "sync/atomic.AddUint64", "internal/race.Read", "sync/atomic.LoadUint64", "sync/atomic.StoreUint64", "internal/synctest.Disassociate[sync.WaitGroup]", "sync.runtime_Semrelease", "(*sync.WaitGroup).Done", "(*sync.WaitGroup).Wait", "internal/race.Acquire", "internal/synctest.IsAssociated[sync.WaitGroup]", "sync/atomic.CompareAndSwapUint64", "internal/race.Write", "sync.runtime_SemacquireWaitGroup", "internal/reflectlite.ValueOf", "(internal/reflectlite.Value).Type", "(internal/reflectlite.Value).IsNil", "internal/reflectlite.TypeOf", "(internal/reflectlite.Value).Elem", "(internal/reflectlite.Value).Set"], unfollowed := true, recurses := true, named := ["errors.errorType"], leaving := true, apart := false, laid := [("errors.errorType", laid_errors_errorType)] }
def FnKeepTwiceSaid : Prop := fnKeepTwiceRow.holds Tryz.pinned (OpenSpec.ofChange fnKeepTwiceSpec)

/-- ITS FALSE NEIGHBOUR: 'it returns false'. Refute it at one input. -/
def fnKeepTwiceWrong : ChangeSpec := { name := "fnKeepTwice", fn := fun _ => fun
  | [d] => { results := [.lit (.bool false)], args := [d] }
  | _ => none }
def FnKeepTwiceWrongFalsely : Prop := fnKeepTwiceRow.holds Tryz.pinned (OpenSpec.ofChange fnKeepTwiceWrong)

/-- 'laws.FnKeepHear': WHATEVER THE INPUT: true; the input reads as it did. -/
def fnKeepHearSpec : ChangeSpec := { name := "fnKeepHear", fn := fun _ => fun
  | [d] => { results := [.lit (.bool true)], args := [d] }
  | _ => none }
def fnKeepHearRow : OpenClaim := { program := "ytmjmhaoikilagaagreatdoor", sum := "b08ce050d127fc418a513191ded189b7f0618f47490a3d1983d9b7b0b62e8733", func := "loop.example/lucarne/laws.FnKeepHear", spec := "fnKeepHear", inPlace := ["(*sync.WaitGroup).Add", "internal/race.ReleaseMerge", "internal/race.Disable", "internal/race.Enable", "internal/synctest.IsInBubble", "internal/synctest.Associate[sync.WaitGroup]", "sync.fatal", "sync/atomic.OrUint64", "sync/atomic.AddUint64", "internal/race.Read", "sync/atomic.LoadUint64", "sync/atomic.StoreUint64", "internal/synctest.Disassociate[sync.WaitGroup]", "sync.runtime_Semrelease", "(*sync.WaitGroup).Done", "(*sync.WaitGroup).Wait", "internal/race.Acquire", "internal/synctest.IsAssociated[sync.WaitGroup]", "sync/atomic.CompareAndSwapUint64", "internal/race.Write", "sync.runtime_SemacquireWaitGroup", "internal/reflectlite.ValueOf", "(internal/reflectlite.Value).Type", "(internal/reflectlite.Value).IsNil", "internal/reflectlite.TypeOf", "(internal/reflectlite.Value).Elem", "(internal/reflectlite.Value).Set"], unfollowed := true, recurses := true, named := ["errors.errorType"], leaving := true, apart := false, laid := [("errors.errorType", laid_errors_errorType)] }
def FnKeepHearSaid : Prop := fnKeepHearRow.holds Tryz.pinned (OpenSpec.ofChange fnKeepHearSpec)

/-- ITS FALSE NEIGHBOUR: 'it returns false'. Refute it at one input. -/
def fnKeepHearWrong : ChangeSpec := { name := "fnKeepHear", fn := fun _ => fun
  | [d] => { results := [.lit (.bool false)], args := [d] }
  | _ => none }
def FnKeepHearWrongFalsely : Prop := fnKeepHearRow.holds Tryz.pinned (OpenSpec.ofChange fnKeepHearWrong)

/-- 'laws.FnKeepWant': WHATEVER THE INPUT: true; the input reads as it did. -/
def fnKeepWantSpec : ChangeSpec := { name := "fnKeepWant", fn := fun _ => fun
  | [d] => { results := [.lit (.bool true)], args := [d] }
  | _ => none }
def fnKeepWantRow : OpenClaim := { program := "ytmjmhaoikilagaagreatdoor", sum := "b08ce050d127fc418a513191ded189b7f0618f47490a3d1983d9b7b0b62e8733", func := "loop.example/lucarne/laws.FnKeepWant", spec := "fnKeepWant", inPlace := ["(*sync.WaitGroup).Add", "internal/race.ReleaseMerge", "internal/race.Disable", "internal/race.Enable", "internal/synctest.IsInBubble", "internal/synctest.Associate[sync.WaitGroup]", "sync.fatal", "sync/atomic.OrUint64", "sync/atomic.AddUint64", "internal/race.Read", "sync/atomic.LoadUint64", "sync/atomic.StoreUint64", "internal/synctest.Disassociate[sync.WaitGroup]", "sync.runtime_Semrelease", "(*sync.WaitGroup).Done", "(*sync.WaitGroup).Wait", "internal/race.Acquire", "internal/synctest.IsAssociated[sync.WaitGroup]", "sync/atomic.CompareAndSwapUint64", "internal/race.Write", "sync.runtime_SemacquireWaitGroup", "internal/reflectlite.ValueOf", "(internal/reflectlite.Value).Type", "(internal/reflectlite.Value).IsNil", "internal/reflectlite.TypeOf", "(internal/reflectlite.Value).Elem", "(internal/reflectlite.Value).Set"], unfollowed := true, recurses := true, named := ["errors.errorType"], leaving := true, apart := false, laid := [("errors.errorType", laid_errors_errorType)] }
def FnKeepWantSaid : Prop := fnKeepWantRow.holds Tryz.pinned (OpenSpec.ofChange fnKeepWantSpec)

/-- ITS FALSE NEIGHBOUR: 'it returns false'. Refute it at one input. -/
def fnKeepWantWrong : ChangeSpec := { name := "fnKeepWant", fn := fun _ => fun
  | [d] => { results := [.lit (.bool false)], args := [d] }
  | _ => none }
def FnKeepWantWrongFalsely : Prop := fnKeepWantRow.holds Tryz.pinned (OpenSpec.ofChange fnKeepWantWrong)

/- THE SECOND FORM. 'bulk': how many values and letters a reading holds, each counted each time it is reached (what is shared counts as often as it is met; a slice's spare places count too). A statement '..UptoSaid' is the law's where the arguments, and the package variables that the reading takes, are together of bulk at most 1048576: NARROWER than '..Said'. Prove '..Said' where nothing that the law and all that it calls make is longer than what came in: it says more and counts as full. Else prove '..UptoSaid'. A law counts once. -/
mutual
def uptoBulk {H : Type} : DataW H → Nat
  | .lit (.string bytes) => bytes.length + 1
  | .lit _ => 1
  | .nil => 1
  | .ptr d => uptoBulk d + 1
  | .slice elems spare => uptoBulkAll elems + uptoBulkAll spare + 1
  | .agg parts => uptoBulkAll parts + 1
  | .iface _ d => uptoBulk d + 1
  | .map entries => uptoBulkEntries entries + 1
  | .held _ => 1
def uptoBulkAll {H : Type} : List (DataW H) → Nat
  | [] => 0
  | d :: r => uptoBulk d + uptoBulkAll r
def uptoBulkEntries {H : Type} : List (Lit × DataW H) → Nat
  | [] => 0
  | x :: r => uptoBulkEntry x + uptoBulkEntries r
def uptoBulkEntry {H : Type} : Lit × DataW H → Nat
  | (.string bytes, d) => bytes.length + uptoBulk d + 1
  | (_, d) => uptoBulk d + 1
 end
def uptoSmall : (H : Type) → List (DataW H) → Bool := fun _ ds => decide (uptoBulkAll ds ≤ 1048576)
def OpenSpec.upto (s : _root_.Go.ChangeSpec) : _root_.Go.OpenSpec := { _root_.Go.OpenSpec.ofChange s with cond := some uptoSmall }

/-- 'laws.FnWorldNew', WHERE WHAT IT READS IS OF BULK AT MOST 1048576: true; the input reads as it did. -/
def fnWorldNewUptoRow : OpenClaim := { program := "ytmjmhaoikilagaagreatdoor", sum := "b08ce050d127fc418a513191ded189b7f0618f47490a3d1983d9b7b0b62e8733", func := "loop.example/lucarne/laws.FnWorldNew", spec := "fnWorldNew", inPlace := ["(*sync.WaitGroup).Add", "internal/race.ReleaseMerge", "internal/race.Disable", "internal/race.Enable", "internal/synctest.IsInBubble", "internal/synctest.Associate[sync.WaitGroup]", "sync.fatal", "sync/atomic.OrUint64", "sync/atomic.AddUint64", "internal/race.Read", "sync/atomic.LoadUint64", "sync/atomic.StoreUint64", "internal/synctest.Disassociate[sync.WaitGroup]", "sync.runtime_Semrelease", "(*sync.WaitGroup).Done", "(*sync.WaitGroup).Wait", "internal/race.Acquire", "internal/synctest.IsAssociated[sync.WaitGroup]", "sync/atomic.CompareAndSwapUint64", "internal/race.Write", "sync.runtime_SemacquireWaitGroup", "internal/reflectlite.ValueOf", "(internal/reflectlite.Value).Type", "(internal/reflectlite.Value).IsNil", "internal/reflectlite.TypeOf", "(internal/reflectlite.Value).Elem", "(internal/reflectlite.Value).Set"], unfollowed := true, recurses := true, named := ["errors.errorType"], leaving := true, apart := false, laid := [("errors.errorType", laid_errors_errorType)], narrowed := true }
def FnWorldNewUptoSaid : Prop := fnWorldNewUptoRow.holds Tryz.pinned (OpenSpec.upto fnWorldNewSpec)

/-- 'laws.FnKeepTrue', WHERE WHAT IT READS IS OF BULK AT MOST 1048576: true; the input reads as it did. -/
def fnKeepTrueUptoRow : OpenClaim := { program := "ytmjmhaoikilagaagreatdoor", sum := "b08ce050d127fc418a513191ded189b7f0618f47490a3d1983d9b7b0b62e8733", func := "loop.example/lucarne/laws.FnKeepTrue", spec := "fnKeepTrue", inPlace := ["(*sync.WaitGroup).Add", "internal/race.ReleaseMerge", "internal/race.Disable", "internal/race.Enable", "internal/synctest.IsInBubble", "internal/synctest.Associate[sync.WaitGroup]", "sync.fatal", "sync/atomic.OrUint64", "sync/atomic.AddUint64", "internal/race.Read", "sync/atomic.LoadUint64", "sync/atomic.StoreUint64", "internal/synctest.Disassociate[sync.WaitGroup]", "sync.runtime_Semrelease", "(*sync.WaitGroup).Done", "(*sync.WaitGroup).Wait", "internal/race.Acquire", "internal/synctest.IsAssociated[sync.WaitGroup]", "sync/atomic.CompareAndSwapUint64", "internal/race.Write", "sync.runtime_SemacquireWaitGroup", "internal/reflectlite.ValueOf", "(internal/reflectlite.Value).Type", "(internal/reflectlite.Value).IsNil", "internal/reflectlite.TypeOf", "(internal/reflectlite.Value).Elem", "(internal/reflectlite.Value).Set"], unfollowed := true, recurses := true, named := ["errors.errorType"], leaving := true, apart := false, laid := [("errors.errorType", laid_errors_errorType)], narrowed := true }
def FnKeepTrueUptoSaid : Prop := fnKeepTrueUptoRow.holds Tryz.pinned (OpenSpec.upto fnKeepTrueSpec)

/-- 'laws.FnKeepGrid', WHERE WHAT IT READS IS OF BULK AT MOST 1048576: true; the input reads as it did. -/
def fnKeepGridUptoRow : OpenClaim := { program := "ytmjmhaoikilagaagreatdoor", sum := "b08ce050d127fc418a513191ded189b7f0618f47490a3d1983d9b7b0b62e8733", func := "loop.example/lucarne/laws.FnKeepGrid", spec := "fnKeepGrid", inPlace := ["(*sync.WaitGroup).Add", "internal/race.ReleaseMerge", "internal/race.Disable", "internal/race.Enable", "internal/synctest.IsInBubble", "internal/synctest.Associate[sync.WaitGroup]", "sync.fatal", "sync/atomic.OrUint64", "sync/atomic.AddUint64", "internal/race.Read", "sync/atomic.LoadUint64", "sync/atomic.StoreUint64", "internal/synctest.Disassociate[sync.WaitGroup]", "sync.runtime_Semrelease", "(*sync.WaitGroup).Done", "(*sync.WaitGroup).Wait", "internal/race.Acquire", "internal/synctest.IsAssociated[sync.WaitGroup]", "sync/atomic.CompareAndSwapUint64", "internal/race.Write", "sync.runtime_SemacquireWaitGroup", "internal/reflectlite.ValueOf", "(internal/reflectlite.Value).Type", "(internal/reflectlite.Value).IsNil", "internal/reflectlite.TypeOf", "(internal/reflectlite.Value).Elem", "(internal/reflectlite.Value).Set"], unfollowed := true, recurses := true, named := ["errors.errorType"], leaving := true, apart := false, laid := [("errors.errorType", laid_errors_errorType)], narrowed := true }
def FnKeepGridUptoSaid : Prop := fnKeepGridUptoRow.holds Tryz.pinned (OpenSpec.upto fnKeepGridSpec)

/-- 'laws.FnKeepTell', WHERE WHAT IT READS IS OF BULK AT MOST 1048576: true; the input reads as it did. -/
def fnKeepTellUptoRow : OpenClaim := { program := "ytmjmhaoikilagaagreatdoor", sum := "b08ce050d127fc418a513191ded189b7f0618f47490a3d1983d9b7b0b62e8733", func := "loop.example/lucarne/laws.FnKeepTell", spec := "fnKeepTell", inPlace := ["(*sync.WaitGroup).Add", "internal/race.ReleaseMerge", "internal/race.Disable", "internal/race.Enable", "internal/synctest.IsInBubble", "internal/synctest.Associate[sync.WaitGroup]", "sync.fatal", "sync/atomic.OrUint64", "sync/atomic.AddUint64", "internal/race.Read", "sync/atomic.LoadUint64", "sync/atomic.StoreUint64", "internal/synctest.Disassociate[sync.WaitGroup]", "sync.runtime_Semrelease", "(*sync.WaitGroup).Done", "(*sync.WaitGroup).Wait", "internal/race.Acquire", "internal/synctest.IsAssociated[sync.WaitGroup]", "sync/atomic.CompareAndSwapUint64", "internal/race.Write", "sync.runtime_SemacquireWaitGroup", "internal/reflectlite.ValueOf", "(internal/reflectlite.Value).Type", "(internal/reflectlite.Value).IsNil", "internal/reflectlite.TypeOf", "(internal/reflectlite.Value).Elem", "(internal/reflectlite.Value).Set"], unfollowed := true, recurses := true, named := ["errors.errorType"], leaving := true, apart := false, laid := [("errors.errorType", laid_errors_errorType)], narrowed := true }
def FnKeepTellUptoSaid : Prop := fnKeepTellUptoRow.holds Tryz.pinned (OpenSpec.upto fnKeepTellSpec)

/-- 'laws.FnKeepEdit', WHERE WHAT IT READS IS OF BULK AT MOST 1048576: true; the input reads as it did. -/
def fnKeepEditUptoRow : OpenClaim := { program := "ytmjmhaoikilagaagreatdoor", sum := "b08ce050d127fc418a513191ded189b7f0618f47490a3d1983d9b7b0b62e8733", func := "loop.example/lucarne/laws.FnKeepEdit", spec := "fnKeepEdit", inPlace := ["(*sync.WaitGroup).Add", "internal/race.ReleaseMerge", "internal/race.Disable", "internal/race.Enable", "internal/synctest.IsInBubble", "internal/synctest.Associate[sync.WaitGroup]", "sync.fatal", "sync/atomic.OrUint64", "sync/atomic.AddUint64", "internal/race.Read", "sync/atomic.LoadUint64", "sync/atomic.StoreUint64", "internal/synctest.Disassociate[sync.WaitGroup]", "sync.runtime_Semrelease", "(*sync.WaitGroup).Done", "(*sync.WaitGroup).Wait", "internal/race.Acquire", "internal/synctest.IsAssociated[sync.WaitGroup]", "sync/atomic.CompareAndSwapUint64", "internal/race.Write", "sync.runtime_SemacquireWaitGroup", "internal/reflectlite.ValueOf", "(internal/reflectlite.Value).Type", "(internal/reflectlite.Value).IsNil", "internal/reflectlite.TypeOf", "(internal/reflectlite.Value).Elem", "(internal/reflectlite.Value).Set"], unfollowed := true, recurses := true, named := ["errors.errorType"], leaving := true, apart := false, laid := [("errors.errorType", laid_errors_errorType)], narrowed := true }
def FnKeepEditUptoSaid : Prop := fnKeepEditUptoRow.holds Tryz.pinned (OpenSpec.upto fnKeepEditSpec)

/-- 'laws.FnKeepTwice', WHERE WHAT IT READS IS OF BULK AT MOST 1048576: true; the input reads as it did. -/
def fnKeepTwiceUptoRow : OpenClaim := { program := "ytmjmhaoikilagaagreatdoor", sum := "b08ce050d127fc418a513191ded189b7f0618f47490a3d1983d9b7b0b62e8733", func := "loop.example/lucarne/laws.FnKeepTwice", spec := "fnKeepTwice", inPlace := ["(*sync.WaitGroup).Add", "internal/race.ReleaseMerge", "internal/race.Disable", "internal/race.Enable", "internal/synctest.IsInBubble", "internal/synctest.Associate[sync.WaitGroup]", "sync.fatal", "sync/atomic.OrUint64", "sync/atomic.AddUint64", "internal/race.Read", "sync/atomic.LoadUint64", "sync/atomic.StoreUint64", "internal/synctest.Disassociate[sync.WaitGroup]", "sync.runtime_Semrelease", "(*sync.WaitGroup).Done", "(*sync.WaitGroup).Wait", "internal/race.Acquire", "internal/synctest.IsAssociated[sync.WaitGroup]", "sync/atomic.CompareAndSwapUint64", "internal/race.Write", "sync.runtime_SemacquireWaitGroup", "internal/reflectlite.ValueOf", "(internal/reflectlite.Value).Type", "(internal/reflectlite.Value).IsNil", "internal/reflectlite.TypeOf", "(internal/reflectlite.Value).Elem", "(internal/reflectlite.Value).Set"], unfollowed := true, recurses := true, named := ["errors.errorType"], leaving := true, apart := false, laid := [("errors.errorType", laid_errors_errorType)], narrowed := true }
def FnKeepTwiceUptoSaid : Prop := fnKeepTwiceUptoRow.holds Tryz.pinned (OpenSpec.upto fnKeepTwiceSpec)

/-- 'laws.FnKeepHear', WHERE WHAT IT READS IS OF BULK AT MOST 1048576: true; the input reads as it did. -/
def fnKeepHearUptoRow : OpenClaim := { program := "ytmjmhaoikilagaagreatdoor", sum := "b08ce050d127fc418a513191ded189b7f0618f47490a3d1983d9b7b0b62e8733", func := "loop.example/lucarne/laws.FnKeepHear", spec := "fnKeepHear", inPlace := ["(*sync.WaitGroup).Add", "internal/race.ReleaseMerge", "internal/race.Disable", "internal/race.Enable", "internal/synctest.IsInBubble", "internal/synctest.Associate[sync.WaitGroup]", "sync.fatal", "sync/atomic.OrUint64", "sync/atomic.AddUint64", "internal/race.Read", "sync/atomic.LoadUint64", "sync/atomic.StoreUint64", "internal/synctest.Disassociate[sync.WaitGroup]", "sync.runtime_Semrelease", "(*sync.WaitGroup).Done", "(*sync.WaitGroup).Wait", "internal/race.Acquire", "internal/synctest.IsAssociated[sync.WaitGroup]", "sync/atomic.CompareAndSwapUint64", "internal/race.Write", "sync.runtime_SemacquireWaitGroup", "internal/reflectlite.ValueOf", "(internal/reflectlite.Value).Type", "(internal/reflectlite.Value).IsNil", "internal/reflectlite.TypeOf", "(internal/reflectlite.Value).Elem", "(internal/reflectlite.Value).Set"], unfollowed := true, recurses := true, named := ["errors.errorType"], leaving := true, apart := false, laid := [("errors.errorType", laid_errors_errorType)], narrowed := true }
def FnKeepHearUptoSaid : Prop := fnKeepHearUptoRow.holds Tryz.pinned (OpenSpec.upto fnKeepHearSpec)

/-- 'laws.FnKeepWant', WHERE WHAT IT READS IS OF BULK AT MOST 1048576: true; the input reads as it did. -/
def fnKeepWantUptoRow : OpenClaim := { program := "ytmjmhaoikilagaagreatdoor", sum := "b08ce050d127fc418a513191ded189b7f0618f47490a3d1983d9b7b0b62e8733", func := "loop.example/lucarne/laws.FnKeepWant", spec := "fnKeepWant", inPlace := ["(*sync.WaitGroup).Add", "internal/race.ReleaseMerge", "internal/race.Disable", "internal/race.Enable", "internal/synctest.IsInBubble", "internal/synctest.Associate[sync.WaitGroup]", "sync.fatal", "sync/atomic.OrUint64", "sync/atomic.AddUint64", "internal/race.Read", "sync/atomic.LoadUint64", "sync/atomic.StoreUint64", "internal/synctest.Disassociate[sync.WaitGroup]", "sync.runtime_Semrelease", "(*sync.WaitGroup).Done", "(*sync.WaitGroup).Wait", "internal/race.Acquire", "internal/synctest.IsAssociated[sync.WaitGroup]", "sync/atomic.CompareAndSwapUint64", "internal/race.Write", "sync.runtime_SemacquireWaitGroup", "internal/reflectlite.ValueOf", "(internal/reflectlite.Value).Type", "(internal/reflectlite.Value).IsNil", "internal/reflectlite.TypeOf", "(internal/reflectlite.Value).Elem", "(internal/reflectlite.Value).Set"], unfollowed := true, recurses := true, named := ["errors.errorType"], leaving := true, apart := false, laid := [("errors.errorType", laid_errors_errorType)], narrowed := true }
def FnKeepWantUptoSaid : Prop := fnKeepWantUptoRow.holds Tryz.pinned (OpenSpec.upto fnKeepWantSpec)

end Rows
end Go.Proofs.YtmjmhaoikilagaaGreatDoor
