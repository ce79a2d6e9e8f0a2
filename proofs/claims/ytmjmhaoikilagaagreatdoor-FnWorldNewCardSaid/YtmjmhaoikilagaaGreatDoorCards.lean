/-
  DERIVED. GIVEN WITH THE SEED: THE CARDS: each row of YtmjmhaoikilagaaGreatDoorRows.lean that lists a variable, with what it lists TIED to the program's text (the seventh form; the later family's looks); each row that meets fmt, with fmt's text TOLD by the authors' own Lean function (tested against real Go, not proved from fmt's source: count such statements apart). THE CARD IS WHAT COUNTS. Prove the row's statement (the work); the ties are given (YtmjmhaoikilagaaGreatDoorTie.lean); close each card by the builder's one call (the guide's Derived/Test/ToyasCard.lean, 'card_holds'). Laid BY PROGRAM, IN A SANDBOX (cutbox-door.mjs). By AI agents, Wed Nov 11 2026. No macro, syntax, notation, axiom, sorry.
-/
import Derived.Test.YtmjmhaoikilagaaGreatDoorRows
import GoSem.ClaimSeven
namespace Go.Proofs.YtmjmhaoikilagaaGreatDoor
namespace Rows

/-- THE TIED CARD OF 'laws.FnWorldNew'. -/
def fnWorldNewCard : Claim7 := { stood := { row := fnWorldNewRow, standIns := [], harness := (true, "073f34cef7e89e4598702d99c502280a41ff800e94727ee142bac5c32439e004"), looks := true }, kinds := [], alts := [], goes := true, laidByText := true, laidKinds := [.handle], laidTests := true, laidLooks := .later }
def FnWorldNewCardSaid : Prop := Claim7.holds Tryz.pinned (.plain (OpenSpec.ofChange fnWorldNewSpec)) fnWorldNewCard

/-- THE TIED CARD OF 'laws.FnKeepTrue'. -/
def fnKeepTrueCard : Claim7 := { stood := { row := fnKeepTrueRow, standIns := [], harness := (true, "073f34cef7e89e4598702d99c502280a41ff800e94727ee142bac5c32439e004"), looks := true }, kinds := [], alts := [], goes := true, laidByText := true, laidKinds := [.handle], laidTests := true, laidLooks := .later }
def FnKeepTrueCardSaid : Prop := Claim7.holds Tryz.pinned (.plain (OpenSpec.ofChange fnKeepTrueSpec)) fnKeepTrueCard

/-- THE TIED CARD OF 'laws.FnKeepGrid'. -/
def fnKeepGridCard : Claim7 := { stood := { row := fnKeepGridRow, standIns := [], harness := (true, "073f34cef7e89e4598702d99c502280a41ff800e94727ee142bac5c32439e004"), looks := true }, kinds := [], alts := [], goes := true, laidByText := true, laidKinds := [.handle], laidTests := true, laidLooks := .later }
def FnKeepGridCardSaid : Prop := Claim7.holds Tryz.pinned (.plain (OpenSpec.ofChange fnKeepGridSpec)) fnKeepGridCard

/-- THE TIED CARD OF 'laws.FnKeepTell'. -/
def fnKeepTellCard : Claim7 := { stood := { row := fnKeepTellRow, standIns := [], harness := (true, "073f34cef7e89e4598702d99c502280a41ff800e94727ee142bac5c32439e004"), looks := true }, kinds := [], alts := [], goes := true, laidByText := true, laidKinds := [.handle], laidTests := true, laidLooks := .later }
def FnKeepTellCardSaid : Prop := Claim7.holds Tryz.pinned (.plain (OpenSpec.ofChange fnKeepTellSpec)) fnKeepTellCard

/-- THE TIED CARD OF 'laws.FnKeepEdit'. -/
def fnKeepEditCard : Claim7 := { stood := { row := fnKeepEditRow, standIns := [], harness := (true, "073f34cef7e89e4598702d99c502280a41ff800e94727ee142bac5c32439e004"), looks := true }, kinds := [], alts := [], goes := true, laidByText := true, laidKinds := [.handle], laidTests := true, laidLooks := .later }
def FnKeepEditCardSaid : Prop := Claim7.holds Tryz.pinned (.plain (OpenSpec.ofChange fnKeepEditSpec)) fnKeepEditCard

/-- THE TIED CARD OF 'laws.FnKeepTwice'. -/
def fnKeepTwiceCard : Claim7 := { stood := { row := fnKeepTwiceRow, standIns := [], harness := (true, "073f34cef7e89e4598702d99c502280a41ff800e94727ee142bac5c32439e004"), looks := true }, kinds := [], alts := [], goes := true, laidByText := true, laidKinds := [.handle], laidTests := true, laidLooks := .later }
def FnKeepTwiceCardSaid : Prop := Claim7.holds Tryz.pinned (.plain (OpenSpec.ofChange fnKeepTwiceSpec)) fnKeepTwiceCard

/-- THE TIED CARD OF 'laws.FnKeepHear'. -/
def fnKeepHearCard : Claim7 := { stood := { row := fnKeepHearRow, standIns := [], harness := (true, "073f34cef7e89e4598702d99c502280a41ff800e94727ee142bac5c32439e004"), looks := true }, kinds := [], alts := [], goes := true, laidByText := true, laidKinds := [.handle], laidTests := true, laidLooks := .later }
def FnKeepHearCardSaid : Prop := Claim7.holds Tryz.pinned (.plain (OpenSpec.ofChange fnKeepHearSpec)) fnKeepHearCard

/-- THE TIED CARD OF 'laws.FnKeepWant'. -/
def fnKeepWantCard : Claim7 := { stood := { row := fnKeepWantRow, standIns := [], harness := (true, "073f34cef7e89e4598702d99c502280a41ff800e94727ee142bac5c32439e004"), looks := true }, kinds := [], alts := [], goes := true, laidByText := true, laidKinds := [.handle], laidTests := true, laidLooks := .later }
def FnKeepWantCardSaid : Prop := Claim7.holds Tryz.pinned (.plain (OpenSpec.ofChange fnKeepWantSpec)) fnKeepWantCard

/-- THE SECOND FORM's CARD OF 'laws.FnWorldNew'. -/
def fnWorldNewUptoCard : Claim7 := { stood := { row := fnWorldNewUptoRow, standIns := [], harness := (true, "073f34cef7e89e4598702d99c502280a41ff800e94727ee142bac5c32439e004"), looks := true }, kinds := [], alts := [], goes := true, laidByText := true, laidKinds := [.handle], laidTests := true, laidLooks := .later }
def FnWorldNewUptoCardSaid : Prop := Claim7.holds Tryz.pinned (.plain (OpenSpec.upto fnWorldNewSpec)) fnWorldNewUptoCard

/-- THE SECOND FORM's CARD OF 'laws.FnKeepTrue'. -/
def fnKeepTrueUptoCard : Claim7 := { stood := { row := fnKeepTrueUptoRow, standIns := [], harness := (true, "073f34cef7e89e4598702d99c502280a41ff800e94727ee142bac5c32439e004"), looks := true }, kinds := [], alts := [], goes := true, laidByText := true, laidKinds := [.handle], laidTests := true, laidLooks := .later }
def FnKeepTrueUptoCardSaid : Prop := Claim7.holds Tryz.pinned (.plain (OpenSpec.upto fnKeepTrueSpec)) fnKeepTrueUptoCard

/-- THE SECOND FORM's CARD OF 'laws.FnKeepGrid'. -/
def fnKeepGridUptoCard : Claim7 := { stood := { row := fnKeepGridUptoRow, standIns := [], harness := (true, "073f34cef7e89e4598702d99c502280a41ff800e94727ee142bac5c32439e004"), looks := true }, kinds := [], alts := [], goes := true, laidByText := true, laidKinds := [.handle], laidTests := true, laidLooks := .later }
def FnKeepGridUptoCardSaid : Prop := Claim7.holds Tryz.pinned (.plain (OpenSpec.upto fnKeepGridSpec)) fnKeepGridUptoCard

/-- THE SECOND FORM's CARD OF 'laws.FnKeepTell'. -/
def fnKeepTellUptoCard : Claim7 := { stood := { row := fnKeepTellUptoRow, standIns := [], harness := (true, "073f34cef7e89e4598702d99c502280a41ff800e94727ee142bac5c32439e004"), looks := true }, kinds := [], alts := [], goes := true, laidByText := true, laidKinds := [.handle], laidTests := true, laidLooks := .later }
def FnKeepTellUptoCardSaid : Prop := Claim7.holds Tryz.pinned (.plain (OpenSpec.upto fnKeepTellSpec)) fnKeepTellUptoCard

/-- THE SECOND FORM's CARD OF 'laws.FnKeepEdit'. -/
def fnKeepEditUptoCard : Claim7 := { stood := { row := fnKeepEditUptoRow, standIns := [], harness := (true, "073f34cef7e89e4598702d99c502280a41ff800e94727ee142bac5c32439e004"), looks := true }, kinds := [], alts := [], goes := true, laidByText := true, laidKinds := [.handle], laidTests := true, laidLooks := .later }
def FnKeepEditUptoCardSaid : Prop := Claim7.holds Tryz.pinned (.plain (OpenSpec.upto fnKeepEditSpec)) fnKeepEditUptoCard

/-- THE SECOND FORM's CARD OF 'laws.FnKeepTwice'. -/
def fnKeepTwiceUptoCard : Claim7 := { stood := { row := fnKeepTwiceUptoRow, standIns := [], harness := (true, "073f34cef7e89e4598702d99c502280a41ff800e94727ee142bac5c32439e004"), looks := true }, kinds := [], alts := [], goes := true, laidByText := true, laidKinds := [.handle], laidTests := true, laidLooks := .later }
def FnKeepTwiceUptoCardSaid : Prop := Claim7.holds Tryz.pinned (.plain (OpenSpec.upto fnKeepTwiceSpec)) fnKeepTwiceUptoCard

/-- THE SECOND FORM's CARD OF 'laws.FnKeepHear'. -/
def fnKeepHearUptoCard : Claim7 := { stood := { row := fnKeepHearUptoRow, standIns := [], harness := (true, "073f34cef7e89e4598702d99c502280a41ff800e94727ee142bac5c32439e004"), looks := true }, kinds := [], alts := [], goes := true, laidByText := true, laidKinds := [.handle], laidTests := true, laidLooks := .later }
def FnKeepHearUptoCardSaid : Prop := Claim7.holds Tryz.pinned (.plain (OpenSpec.upto fnKeepHearSpec)) fnKeepHearUptoCard

/-- THE SECOND FORM's CARD OF 'laws.FnKeepWant'. -/
def fnKeepWantUptoCard : Claim7 := { stood := { row := fnKeepWantUptoRow, standIns := [], harness := (true, "073f34cef7e89e4598702d99c502280a41ff800e94727ee142bac5c32439e004"), looks := true }, kinds := [], alts := [], goes := true, laidByText := true, laidKinds := [.handle], laidTests := true, laidLooks := .later }
def FnKeepWantUptoCardSaid : Prop := Claim7.holds Tryz.pinned (.plain (OpenSpec.upto fnKeepWantSpec)) fnKeepWantUptoCard
end Rows
end Go.Proofs.YtmjmhaoikilagaaGreatDoor
