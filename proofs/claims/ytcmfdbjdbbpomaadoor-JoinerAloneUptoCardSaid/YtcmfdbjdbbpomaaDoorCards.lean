/-
  DERIVED. GIVEN WITH THE SEED: THE CARDS: each row of YtcmfdbjdbbpomaaDoorRows.lean that lists a variable, with what it lists TIED to the program's text (the seventh form; the later family's looks); each row that meets fmt, with fmt's text TOLD by the authors' own Lean function (tested against real Go, not proved from fmt's source: count such statements apart). THE CARD IS WHAT COUNTS. Prove the row's statement (the work); the ties are given (YtcmfdbjdbbpomaaDoorTie.lean); close each card by the builder's one call (the guide's Derived/Test/ToyasCard.lean, 'card_holds'). Laid BY PROGRAM, IN A SANDBOX (cutbox-door.mjs). By AI agents, Wed Nov 11 2026. No macro, syntax, notation, axiom, sorry.
-/
import Derived.Test.YtcmfdbjdbbpomaaDoorRows
import GoSem.ClaimSeven
namespace Go.Proofs.YtcmfdbjdbbpomaaDoor
namespace Rows

/-- THE TIED CARD OF 'tabellionlaw32.JoinerSays'. -/
def joinerSaysCard : Claim7 := { stood := { row := joinerSaysRow, standIns := [], harness := (true, "a8d3cfd0882094500683aaab18d24d101b9721b86150b55bb23035fab7ad390a"), looks := false }, kinds := [], alts := [], laidByText := true, laidKinds := [.data, .data, .data], laidTests := true, laidLooks := .later }
def JoinerSaysCardSaid : Prop := Claim7.holds Tryd.pinned (.plain (OpenSpec.ofChange joinerSaysSpec)) joinerSaysCard

/-- THE TIED CARD OF 'tabellionlaw32.JoinerAlone'. -/
def joinerAloneCard : Claim7 := { stood := { row := joinerAloneRow, standIns := [], harness := (true, "a8d3cfd0882094500683aaab18d24d101b9721b86150b55bb23035fab7ad390a"), looks := false }, kinds := [], alts := [], laidByText := true, laidKinds := [.data, .data, .data], laidTests := true, laidLooks := .later }
def JoinerAloneCardSaid : Prop := Claim7.holds Tryd.pinned (.plain (OpenSpec.ofChange joinerAloneSpec)) joinerAloneCard

/-- THE TIED CARD OF 'tabellionlaw32.JoinerTurns'. -/
def joinerTurnsCard : Claim7 := { stood := { row := joinerTurnsRow, standIns := [], harness := (true, "a8d3cfd0882094500683aaab18d24d101b9721b86150b55bb23035fab7ad390a"), looks := false }, kinds := [], alts := [], laidByText := true, laidKinds := [.data, .data, .data], laidTests := true, laidLooks := .later }
def JoinerTurnsCardSaid : Prop := Claim7.holds Tryd.pinned (.plain (OpenSpec.ofChange joinerTurnsSpec)) joinerTurnsCard

/-- THE SECOND FORM's CARD OF 'tabellionlaw32.JoinerSays'. -/
def joinerSaysUptoCard : Claim7 := { stood := { row := joinerSaysUptoRow, standIns := [], harness := (true, "a8d3cfd0882094500683aaab18d24d101b9721b86150b55bb23035fab7ad390a"), looks := false }, kinds := [], alts := [], laidByText := true, laidKinds := [.data, .data, .data], laidTests := true, laidLooks := .later }
def JoinerSaysUptoCardSaid : Prop := Claim7.holds Tryd.pinned (.plain (OpenSpec.upto joinerSaysSpec)) joinerSaysUptoCard

/-- THE SECOND FORM's CARD OF 'tabellionlaw32.JoinerAlone'. -/
def joinerAloneUptoCard : Claim7 := { stood := { row := joinerAloneUptoRow, standIns := [], harness := (true, "a8d3cfd0882094500683aaab18d24d101b9721b86150b55bb23035fab7ad390a"), looks := false }, kinds := [], alts := [], laidByText := true, laidKinds := [.data, .data, .data], laidTests := true, laidLooks := .later }
def JoinerAloneUptoCardSaid : Prop := Claim7.holds Tryd.pinned (.plain (OpenSpec.upto joinerAloneSpec)) joinerAloneUptoCard

/-- THE SECOND FORM's CARD OF 'tabellionlaw32.JoinerTurns'. -/
def joinerTurnsUptoCard : Claim7 := { stood := { row := joinerTurnsUptoRow, standIns := [], harness := (true, "a8d3cfd0882094500683aaab18d24d101b9721b86150b55bb23035fab7ad390a"), looks := false }, kinds := [], alts := [], laidByText := true, laidKinds := [.data, .data, .data], laidTests := true, laidLooks := .later }
def JoinerTurnsUptoCardSaid : Prop := Claim7.holds Tryd.pinned (.plain (OpenSpec.upto joinerTurnsSpec)) joinerTurnsUptoCard
end Rows
end Go.Proofs.YtcmfdbjdbbpomaaDoor
