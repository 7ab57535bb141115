/-
  NARROWER THAN 'FOR EVERY INPUT', by the rows' own cells (each row's printed sentence says how): AggRuns: loops · AggParts: loops · AggTurns: loops.
  DERIVED. THE GIVEN ROWS OF THIS SEAT. 4 by the template 'for every input the law returns true; each argument reads behind the call as it read before'; 0 by the template 'total and deterministic' (their statements: YtpaelnkffpmfaaaTotals.lean).
  GIVEN WITH THE SEED: the statements are not yours to turn. If you find one false, say at which input.
  Laid BY PROGRAM, IN A SANDBOX (cutbox-rows.mjs): the forced cells as the released guide's own fill.sh prints them over the translation 8f1ad39d03b72b3b… (all of the seat's roots in one cut). By AI agents, Wed Nov 11 2026. No macro, syntax, notation, axiom, sorry.
-/
import Derived.Test.YtpaelnkffpmfaaaChecked
import GoSem.Claim
import GoSem.ClaimJoined
import GoSem.ClaimMapViews
import Derived.JoinedTies
import Derived.KernelRfl
namespace Go.Proofs.Ytpaelnkffpmfaaa
/- THE CELL 'sum', in the pinned program and in every row, IS THE sha256 OF THE DUMP (.gsa) THAT YtpaelnkffpmfaaaProg.lean LOADS. Nothing in Lean hashes anything: it is a label: what it is worth is what the hold of that sum in a sandbox is worth. -/
noncomputable def Try.pinned : Pinned := { name := "ytpaelnkffpmfaaa", sum := "8f1ad39d03b72b3b19359e946442d0951d74ce3d11c0a93dd8d7264fcfea2e4f", checked := Try.checked }
namespace Rows
def none {H : Type} : Left H := { results := [], args := [] }

/-- 'tabellionlaw19.AggRuns': WHATEVER THE INPUT: true; the input reads as it did. -/
def aggRunsSpec : ChangeSpec := { name := "aggRuns", fn := fun _ => fun
  | [d1, d2] => { results := [.lit (.bool true)], args := [d1, d2] }
  | _ => none }
def aggRunsRow : OpenClaim := { program := "ytpaelnkffpmfaaa", sum := "8f1ad39d03b72b3b19359e946442d0951d74ce3d11c0a93dd8d7264fcfea2e4f", func := "tabellion/tabellionlaw19.AggRuns", spec := "aggRuns", inPlace := ["internal/bytealg.abigen_runtime_cmpstring", "slices.overlaps[tabellion/api.Value]"], unfollowed := true, recurses := true, loops := true, apart := false }
def AggRunsSaid : Prop := aggRunsRow.holds Try.pinned (OpenSpec.ofChange aggRunsSpec)

/-- ITS FALSE NEIGHBOUR: 'it returns false'. Refute it at one input. -/
def aggRunsWrong : ChangeSpec := { name := "aggRuns", fn := fun _ => fun
  | [d1, d2] => { results := [.lit (.bool false)], args := [d1, d2] }
  | _ => none }
def AggRunsWrongFalsely : Prop := aggRunsRow.holds Try.pinned (OpenSpec.ofChange aggRunsWrong)

/-- 'tabellionlaw19.AggParts': WHATEVER THE INPUT: true; the input reads as it did. -/
def aggPartsSpec : ChangeSpec := { name := "aggParts", fn := fun _ => fun
  | [d1, d2, d3] => { results := [.lit (.bool true)], args := [d1, d2, d3] }
  | _ => none }
def aggPartsRow : OpenClaim := { program := "ytpaelnkffpmfaaa", sum := "8f1ad39d03b72b3b19359e946442d0951d74ce3d11c0a93dd8d7264fcfea2e4f", func := "tabellion/tabellionlaw19.AggParts", spec := "aggParts", inPlace := ["internal/bytealg.abigen_runtime_cmpstring", "slices.overlaps[tabellion/api.Value]"], unfollowed := true, recurses := true, loops := true, apart := false }
def AggPartsSaid : Prop := aggPartsRow.holds Try.pinned (OpenSpec.ofChange aggPartsSpec)

/-- ITS FALSE NEIGHBOUR: 'it returns false'. Refute it at one input. -/
def aggPartsWrong : ChangeSpec := { name := "aggParts", fn := fun _ => fun
  | [d1, d2, d3] => { results := [.lit (.bool false)], args := [d1, d2, d3] }
  | _ => none }
def AggPartsWrongFalsely : Prop := aggPartsRow.holds Try.pinned (OpenSpec.ofChange aggPartsWrong)

/-- 'tabellionlaw19.AggTurns': WHATEVER THE INPUT: true; the input reads as it did. -/
def aggTurnsSpec : ChangeSpec := { name := "aggTurns", fn := fun _ => fun
  | [d1, d2, d3] => { results := [.lit (.bool true)], args := [d1, d2, d3] }
  | _ => none }
def aggTurnsRow : OpenClaim := { program := "ytpaelnkffpmfaaa", sum := "8f1ad39d03b72b3b19359e946442d0951d74ce3d11c0a93dd8d7264fcfea2e4f", func := "tabellion/tabellionlaw19.AggTurns", spec := "aggTurns", inPlace := ["internal/bytealg.abigen_runtime_cmpstring", "slices.overlaps[tabellion/api.Value]"], unfollowed := true, recurses := true, loops := true, apart := false }
def AggTurnsSaid : Prop := aggTurnsRow.holds Try.pinned (OpenSpec.ofChange aggTurnsSpec)

/-- ITS FALSE NEIGHBOUR: 'it returns false'. Refute it at one input. -/
def aggTurnsWrong : ChangeSpec := { name := "aggTurns", fn := fun _ => fun
  | [d1, d2, d3] => { results := [.lit (.bool false)], args := [d1, d2, d3] }
  | _ => none }
def AggTurnsWrongFalsely : Prop := aggTurnsRow.holds Try.pinned (OpenSpec.ofChange aggTurnsWrong)

/-- 'tabellionlaw19.AggBounds': WHATEVER THE INPUT: true; the input reads as it did. -/
def aggBoundsSpec : ChangeSpec := { name := "aggBounds", fn := fun _ => fun
  | [d1, d2] => { results := [.lit (.bool true)], args := [d1, d2] }
  | _ => none }
def aggBoundsRow : OpenClaim := { program := "ytpaelnkffpmfaaa", sum := "8f1ad39d03b72b3b19359e946442d0951d74ce3d11c0a93dd8d7264fcfea2e4f", func := "tabellion/tabellionlaw19.AggBounds", spec := "aggBounds", inPlace := ["internal/bytealg.abigen_runtime_cmpstring", "slices.overlaps[tabellion/api.Value]"], unfollowed := true, recurses := true, apart := false }
def AggBoundsSaid : Prop := aggBoundsRow.holds Try.pinned (OpenSpec.ofChange aggBoundsSpec)

/-- ITS FALSE NEIGHBOUR: 'it returns false'. Refute it at one input. -/
def aggBoundsWrong : ChangeSpec := { name := "aggBounds", fn := fun _ => fun
  | [d1, d2] => { results := [.lit (.bool false)], args := [d1, d2] }
  | _ => none }
def AggBoundsWrongFalsely : Prop := aggBoundsRow.holds Try.pinned (OpenSpec.ofChange aggBoundsWrong)

/- THE SECOND FORM. 'bulk': how many values and letters a reading holds, each counted each time it is reached (what is shared counts as often as it is met; a slice's spare places count too). A statement '..UptoSaid' is the law's where the arguments, and the package variables that the reading takes, are together of bulk at most 1048576: NARROWER than '..Said'. Prove '..Said' where nothing that the law and all that it calls make is longer than what came in: it says more and counts as full. Else prove '..UptoSaid'. A law counts once. -/
mutual
def uptoBulk {H : Type} : DataW H → Nat
  | .lit (.string bytes) => bytes.length + 1
  | .lit _ => 1
  | .nil => 1
  | .ptr d => uptoBulk d + 1
  | .slice elems spare => uptoBulkAll elems + uptoBulkAll spare + 1
  | .agg parts => uptoBulkAll parts + 1
  | .iface _ d => uptoBulk d + 1
  | .map entries => uptoBulkEntries entries + 1
  | .held _ => 1
def uptoBulkAll {H : Type} : List (DataW H) → Nat
  | [] => 0
  | d :: r => uptoBulk d + uptoBulkAll r
def uptoBulkEntries {H : Type} : List (Lit × DataW H) → Nat
  | [] => 0
  | x :: r => uptoBulkEntry x + uptoBulkEntries r
def uptoBulkEntry {H : Type} : Lit × DataW H → Nat
  | (.string bytes, d) => bytes.length + uptoBulk d + 1
  | (_, d) => uptoBulk d + 1
 end
def uptoSmall : (H : Type) → List (DataW H) → Bool := fun _ ds => decide (uptoBulkAll ds ≤ 1048576)
def OpenSpec.upto (s : _root_.Go.ChangeSpec) : _root_.Go.OpenSpec := { _root_.Go.OpenSpec.ofChange s with cond := some uptoSmall }

/-- 'tabellionlaw19.AggRuns', WHERE WHAT IT READS IS OF BULK AT MOST 1048576: true; the input reads as it did. -/
def aggRunsUptoRow : OpenClaim := { program := "ytpaelnkffpmfaaa", sum := "8f1ad39d03b72b3b19359e946442d0951d74ce3d11c0a93dd8d7264fcfea2e4f", func := "tabellion/tabellionlaw19.AggRuns", spec := "aggRuns", inPlace := ["internal/bytealg.abigen_runtime_cmpstring", "slices.overlaps[tabellion/api.Value]"], unfollowed := true, recurses := true, loops := true, apart := false, narrowed := true }
def AggRunsUptoSaid : Prop := aggRunsUptoRow.holds Try.pinned (OpenSpec.upto aggRunsSpec)

/-- 'tabellionlaw19.AggParts', WHERE WHAT IT READS IS OF BULK AT MOST 1048576: true; the input reads as it did. -/
def aggPartsUptoRow : OpenClaim := { program := "ytpaelnkffpmfaaa", sum := "8f1ad39d03b72b3b19359e946442d0951d74ce3d11c0a93dd8d7264fcfea2e4f", func := "tabellion/tabellionlaw19.AggParts", spec := "aggParts", inPlace := ["internal/bytealg.abigen_runtime_cmpstring", "slices.overlaps[tabellion/api.Value]"], unfollowed := true, recurses := true, loops := true, apart := false, narrowed := true }
def AggPartsUptoSaid : Prop := aggPartsUptoRow.holds Try.pinned (OpenSpec.upto aggPartsSpec)

/-- 'tabellionlaw19.AggTurns', WHERE WHAT IT READS IS OF BULK AT MOST 1048576: true; the input reads as it did. -/
def aggTurnsUptoRow : OpenClaim := { program := "ytpaelnkffpmfaaa", sum := "8f1ad39d03b72b3b19359e946442d0951d74ce3d11c0a93dd8d7264fcfea2e4f", func := "tabellion/tabellionlaw19.AggTurns", spec := "aggTurns", inPlace := ["internal/bytealg.abigen_runtime_cmpstring", "slices.overlaps[tabellion/api.Value]"], unfollowed := true, recurses := true, loops := true, apart := false, narrowed := true }
def AggTurnsUptoSaid : Prop := aggTurnsUptoRow.holds Try.pinned (OpenSpec.upto aggTurnsSpec)

/-- 'tabellionlaw19.AggBounds', WHERE WHAT IT READS IS OF BULK AT MOST 1048576: true; the input reads as it did. -/
def aggBoundsUptoRow : OpenClaim := { program := "ytpaelnkffpmfaaa", sum := "8f1ad39d03b72b3b19359e946442d0951d74ce3d11c0a93dd8d7264fcfea2e4f", func := "tabellion/tabellionlaw19.AggBounds", spec := "aggBounds", inPlace := ["internal/bytealg.abigen_runtime_cmpstring", "slices.overlaps[tabellion/api.Value]"], unfollowed := true, recurses := true, apart := false, narrowed := true }
def AggBoundsUptoSaid : Prop := aggBoundsUptoRow.holds Try.pinned (OpenSpec.upto aggBoundsSpec)

end Rows
end Go.Proofs.Ytpaelnkffpmfaaa
