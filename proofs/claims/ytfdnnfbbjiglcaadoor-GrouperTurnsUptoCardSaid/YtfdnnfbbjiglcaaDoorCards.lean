/-
  DERIVED. GIVEN WITH THE SEED: THE CARDS: each row of YtfdnnfbbjiglcaaDoorRows.lean that lists a variable, with what it lists TIED to the program's text (the seventh form; the later family's looks); each row that meets fmt, with fmt's text TOLD by the authors' own Lean function (tested against real Go, not proved from fmt's source: count such statements apart). THE CARD IS WHAT COUNTS. Prove the row's statement (the work); the ties are given (YtfdnnfbbjiglcaaDoorTie.lean); close each card by the builder's one call (the guide's Derived/Test/ToyasCard.lean, 'card_holds'). Laid BY PROGRAM, IN A SANDBOX (cutbox-door.mjs). By AI agents, Wed Nov 11 2026. No macro, syntax, notation, axiom, sorry.
-/
import Derived.Test.YtfdnnfbbjiglcaaDoorRows
import GoSem.ClaimSeven
namespace Go.Proofs.YtfdnnfbbjiglcaaDoor
namespace Rows

/-- THE TIED CARD OF 'tabellionlaw33.GrouperSays'. -/
def grouperSaysCard : Claim7 := { stood := { row := grouperSaysRow, standIns := [], harness := (true, "8ce11b97498ff47d7eead8ac77d12a4c56c731e2f73380e37d5365667365ef30"), looks := false }, kinds := [], alts := [], laidByText := true, laidKinds := [.data, .data, .data], laidTests := true, laidLooks := .later }
def GrouperSaysCardSaid : Prop := Claim7.holds Tryd.pinned (.plain (OpenSpec.ofChange grouperSaysSpec)) grouperSaysCard

/-- THE TIED CARD OF 'tabellionlaw33.GrouperWhole'. -/
def grouperWholeCard : Claim7 := { stood := { row := grouperWholeRow, standIns := [], harness := (true, "8ce11b97498ff47d7eead8ac77d12a4c56c731e2f73380e37d5365667365ef30"), looks := false }, kinds := [], alts := [], laidByText := true, laidKinds := [.data, .data, .data], laidTests := true, laidLooks := .later }
def GrouperWholeCardSaid : Prop := Claim7.holds Tryd.pinned (.plain (OpenSpec.ofChange grouperWholeSpec)) grouperWholeCard

/-- THE TIED CARD OF 'tabellionlaw33.GrouperTurns'. -/
def grouperTurnsCard : Claim7 := { stood := { row := grouperTurnsRow, standIns := [], harness := (true, "8ce11b97498ff47d7eead8ac77d12a4c56c731e2f73380e37d5365667365ef30"), looks := false }, kinds := [], alts := [], laidByText := true, laidKinds := [.data, .data, .data], laidTests := true, laidLooks := .later }
def GrouperTurnsCardSaid : Prop := Claim7.holds Tryd.pinned (.plain (OpenSpec.ofChange grouperTurnsSpec)) grouperTurnsCard

/-- THE SECOND FORM's CARD OF 'tabellionlaw33.GrouperSays'. -/
def grouperSaysUptoCard : Claim7 := { stood := { row := grouperSaysUptoRow, standIns := [], harness := (true, "8ce11b97498ff47d7eead8ac77d12a4c56c731e2f73380e37d5365667365ef30"), looks := false }, kinds := [], alts := [], laidByText := true, laidKinds := [.data, .data, .data], laidTests := true, laidLooks := .later }
def GrouperSaysUptoCardSaid : Prop := Claim7.holds Tryd.pinned (.plain (OpenSpec.upto grouperSaysSpec)) grouperSaysUptoCard

/-- THE SECOND FORM's CARD OF 'tabellionlaw33.GrouperWhole'. -/
def grouperWholeUptoCard : Claim7 := { stood := { row := grouperWholeUptoRow, standIns := [], harness := (true, "8ce11b97498ff47d7eead8ac77d12a4c56c731e2f73380e37d5365667365ef30"), looks := false }, kinds := [], alts := [], laidByText := true, laidKinds := [.data, .data, .data], laidTests := true, laidLooks := .later }
def GrouperWholeUptoCardSaid : Prop := Claim7.holds Tryd.pinned (.plain (OpenSpec.upto grouperWholeSpec)) grouperWholeUptoCard

/-- THE SECOND FORM's CARD OF 'tabellionlaw33.GrouperTurns'. -/
def grouperTurnsUptoCard : Claim7 := { stood := { row := grouperTurnsUptoRow, standIns := [], harness := (true, "8ce11b97498ff47d7eead8ac77d12a4c56c731e2f73380e37d5365667365ef30"), looks := false }, kinds := [], alts := [], laidByText := true, laidKinds := [.data, .data, .data], laidTests := true, laidLooks := .later }
def GrouperTurnsUptoCardSaid : Prop := Claim7.holds Tryd.pinned (.plain (OpenSpec.upto grouperTurnsSpec)) grouperTurnsUptoCard
end Rows
end Go.Proofs.YtfdnnfbbjiglcaaDoor
