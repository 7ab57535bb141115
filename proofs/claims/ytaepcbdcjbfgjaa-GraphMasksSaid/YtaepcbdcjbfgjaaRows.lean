/-
  NARROWER THAN 'FOR EVERY INPUT', by the rows' own cells (each row's printed sentence says how): ConjSays: loops · ConjPairs: loops · GraphSays: loops · GraphMasks: loops.
  DERIVED. THE GIVEN ROWS OF THIS SEAT. 5 by the template 'for every input the law returns true; each argument reads behind the call as it read before'; 0 by the template 'total and deterministic' (their statements: YtaepcbdcjbfgjaaTotals.lean).
  GIVEN WITH THE SEED: the statements are not yours to turn. If you find one false, say at which input.
  Laid BY PROGRAM, IN A SANDBOX (cutbox-rows.mjs): the forced cells as the released guide's own fill.sh prints them over the translation 3710f6ce203fee58… (all of the seat's roots in one cut). By AI agents, Wed Nov 11 2026. No macro, syntax, notation, axiom, sorry.
-/
import Derived.Test.YtaepcbdcjbfgjaaChecked
import GoSem.Claim
import GoSem.ClaimJoined
import GoSem.ClaimMapViews
import Derived.JoinedTies
import Derived.KernelRfl
namespace Go.Proofs.Ytaepcbdcjbfgjaa
/- THE CELL 'sum', in the pinned program and in every row, IS THE sha256 OF THE DUMP (.gsa) THAT YtaepcbdcjbfgjaaProg.lean LOADS. Nothing in Lean hashes anything: it is a label: what it is worth is what the hold of that sum in a sandbox is worth. -/
noncomputable def Try.pinned : Pinned := { name := "ytaepcbdcjbfgjaa", sum := "3710f6ce203fee581b9f0223d18b59e1d1f5a8131b75bc3a2ffe900c3f92d3f1", checked := Try.checked }
namespace Rows
def none {H : Type} : Left H := { results := [], args := [] }

/-- 'tabellionlaw21.ConjSays': WHATEVER THE INPUT: true; the input reads as it did. -/
def conjSaysSpec : ChangeSpec := { name := "conjSays", fn := fun _ => fun
  | [d1, d2, d3] => { results := [.lit (.bool true)], args := [d1, d2, d3] }
  | _ => none }
def conjSaysRow : OpenClaim := { program := "ytaepcbdcjbfgjaa", sum := "3710f6ce203fee581b9f0223d18b59e1d1f5a8131b75bc3a2ffe900c3f92d3f1", func := "tabellion/tabellionlaw21.ConjSays", spec := "conjSays", unfollowed := true, recurses := true, loops := true, apart := false }
def ConjSaysSaid : Prop := conjSaysRow.holds Try.pinned (OpenSpec.ofChange conjSaysSpec)

/-- ITS FALSE NEIGHBOUR: 'it returns false'. Refute it at one input. -/
def conjSaysWrong : ChangeSpec := { name := "conjSays", fn := fun _ => fun
  | [d1, d2, d3] => { results := [.lit (.bool false)], args := [d1, d2, d3] }
  | _ => none }
def ConjSaysWrongFalsely : Prop := conjSaysRow.holds Try.pinned (OpenSpec.ofChange conjSaysWrong)

/-- 'tabellionlaw21.ConjPairs': WHATEVER THE INPUT: true; the input reads as it did. -/
def conjPairsSpec : ChangeSpec := { name := "conjPairs", fn := fun _ => fun
  | [d1, d2] => { results := [.lit (.bool true)], args := [d1, d2] }
  | _ => none }
def conjPairsRow : OpenClaim := { program := "ytaepcbdcjbfgjaa", sum := "3710f6ce203fee581b9f0223d18b59e1d1f5a8131b75bc3a2ffe900c3f92d3f1", func := "tabellion/tabellionlaw21.ConjPairs", spec := "conjPairs", unfollowed := true, recurses := true, loops := true, apart := false }
def ConjPairsSaid : Prop := conjPairsRow.holds Try.pinned (OpenSpec.ofChange conjPairsSpec)

/-- ITS FALSE NEIGHBOUR: 'it returns false'. Refute it at one input. -/
def conjPairsWrong : ChangeSpec := { name := "conjPairs", fn := fun _ => fun
  | [d1, d2] => { results := [.lit (.bool false)], args := [d1, d2] }
  | _ => none }
def ConjPairsWrongFalsely : Prop := conjPairsRow.holds Try.pinned (OpenSpec.ofChange conjPairsWrong)

/-- 'tabellionlaw27.GraphSays': WHATEVER THE INPUT: true; the input reads as it did. -/
def graphSaysSpec : ChangeSpec := { name := "graphSays", fn := fun _ => fun
  | [d1, d2, d3] => { results := [.lit (.bool true)], args := [d1, d2, d3] }
  | _ => none }
def graphSaysRow : OpenClaim := { program := "ytaepcbdcjbfgjaa", sum := "3710f6ce203fee581b9f0223d18b59e1d1f5a8131b75bc3a2ffe900c3f92d3f1", func := "tabellion/tabellionlaw27.GraphSays", spec := "graphSays", unfollowed := true, recurses := true, loops := true, apart := false }
def GraphSaysSaid : Prop := graphSaysRow.holds Try.pinned (OpenSpec.ofChange graphSaysSpec)

/-- ITS FALSE NEIGHBOUR: 'it returns false'. Refute it at one input. -/
def graphSaysWrong : ChangeSpec := { name := "graphSays", fn := fun _ => fun
  | [d1, d2, d3] => { results := [.lit (.bool false)], args := [d1, d2, d3] }
  | _ => none }
def GraphSaysWrongFalsely : Prop := graphSaysRow.holds Try.pinned (OpenSpec.ofChange graphSaysWrong)

/-- 'tabellionlaw27.GraphSplits': WHATEVER THE INPUT: true; the input reads as it did. -/
def graphSplitsSpec : ChangeSpec := { name := "graphSplits", fn := fun _ => fun
  | [d] => { results := [.lit (.bool true)], args := [d] }
  | _ => none }
def graphSplitsRow : OpenClaim := { program := "ytaepcbdcjbfgjaa", sum := "3710f6ce203fee581b9f0223d18b59e1d1f5a8131b75bc3a2ffe900c3f92d3f1", func := "tabellion/tabellionlaw27.GraphSplits", spec := "graphSplits", unfollowed := true, recurses := true, apart := false }
def GraphSplitsSaid : Prop := graphSplitsRow.holds Try.pinned (OpenSpec.ofChange graphSplitsSpec)

/-- ITS FALSE NEIGHBOUR: 'it returns false'. Refute it at one input. -/
def graphSplitsWrong : ChangeSpec := { name := "graphSplits", fn := fun _ => fun
  | [d] => { results := [.lit (.bool false)], args := [d] }
  | _ => none }
def GraphSplitsWrongFalsely : Prop := graphSplitsRow.holds Try.pinned (OpenSpec.ofChange graphSplitsWrong)

/-- 'tabellionlaw27.GraphMasks': WHATEVER THE INPUT: true; the input reads as it did. -/
def graphMasksSpec : ChangeSpec := { name := "graphMasks", fn := fun _ => fun
  | [d1, d2, d3] => { results := [.lit (.bool true)], args := [d1, d2, d3] }
  | _ => none }
def graphMasksRow : OpenClaim := { program := "ytaepcbdcjbfgjaa", sum := "3710f6ce203fee581b9f0223d18b59e1d1f5a8131b75bc3a2ffe900c3f92d3f1", func := "tabellion/tabellionlaw27.GraphMasks", spec := "graphMasks", unfollowed := true, recurses := true, loops := true, apart := false }
def GraphMasksSaid : Prop := graphMasksRow.holds Try.pinned (OpenSpec.ofChange graphMasksSpec)

/-- ITS FALSE NEIGHBOUR: 'it returns false'. Refute it at one input. -/
def graphMasksWrong : ChangeSpec := { name := "graphMasks", fn := fun _ => fun
  | [d1, d2, d3] => { results := [.lit (.bool false)], args := [d1, d2, d3] }
  | _ => none }
def GraphMasksWrongFalsely : Prop := graphMasksRow.holds Try.pinned (OpenSpec.ofChange graphMasksWrong)

/- THE SECOND FORM. 'bulk': how many values and letters a reading holds, each counted each time it is reached (what is shared counts as often as it is met; a slice's spare places count too). A statement '..UptoSaid' is the law's where the arguments, and the package variables that the reading takes, are together of bulk at most 1048576: NARROWER than '..Said'. Prove '..Said' where nothing that the law and all that it calls make is longer than what came in: it says more and counts as full. Else prove '..UptoSaid'. A law counts once. -/
mutual
def uptoBulk {H : Type} : DataW H → Nat
  | .lit (.string bytes) => bytes.length + 1
  | .lit _ => 1
  | .nil => 1
  | .ptr d => uptoBulk d + 1
  | .slice elems spare => uptoBulkAll elems + uptoBulkAll spare + 1
  | .agg parts => uptoBulkAll parts + 1
  | .iface _ d => uptoBulk d + 1
  | .map entries => uptoBulkEntries entries + 1
  | .held _ => 1
def uptoBulkAll {H : Type} : List (DataW H) → Nat
  | [] => 0
  | d :: r => uptoBulk d + uptoBulkAll r
def uptoBulkEntries {H : Type} : List (Lit × DataW H) → Nat
  | [] => 0
  | x :: r => uptoBulkEntry x + uptoBulkEntries r
def uptoBulkEntry {H : Type} : Lit × DataW H → Nat
  | (.string bytes, d) => bytes.length + uptoBulk d + 1
  | (_, d) => uptoBulk d + 1
 end
def uptoSmall : (H : Type) → List (DataW H) → Bool := fun _ ds => decide (uptoBulkAll ds ≤ 1048576)
def OpenSpec.upto (s : _root_.Go.ChangeSpec) : _root_.Go.OpenSpec := { _root_.Go.OpenSpec.ofChange s with cond := some uptoSmall }

/-- 'tabellionlaw21.ConjSays', WHERE WHAT IT READS IS OF BULK AT MOST 1048576: true; the input reads as it did. -/
def conjSaysUptoRow : OpenClaim := { program := "ytaepcbdcjbfgjaa", sum := "3710f6ce203fee581b9f0223d18b59e1d1f5a8131b75bc3a2ffe900c3f92d3f1", func := "tabellion/tabellionlaw21.ConjSays", spec := "conjSays", unfollowed := true, recurses := true, loops := true, apart := false, narrowed := true }
def ConjSaysUptoSaid : Prop := conjSaysUptoRow.holds Try.pinned (OpenSpec.upto conjSaysSpec)

/-- 'tabellionlaw21.ConjPairs', WHERE WHAT IT READS IS OF BULK AT MOST 1048576: true; the input reads as it did. -/
def conjPairsUptoRow : OpenClaim := { program := "ytaepcbdcjbfgjaa", sum := "3710f6ce203fee581b9f0223d18b59e1d1f5a8131b75bc3a2ffe900c3f92d3f1", func := "tabellion/tabellionlaw21.ConjPairs", spec := "conjPairs", unfollowed := true, recurses := true, loops := true, apart := false, narrowed := true }
def ConjPairsUptoSaid : Prop := conjPairsUptoRow.holds Try.pinned (OpenSpec.upto conjPairsSpec)

/-- 'tabellionlaw27.GraphSays', WHERE WHAT IT READS IS OF BULK AT MOST 1048576: true; the input reads as it did. -/
def graphSaysUptoRow : OpenClaim := { program := "ytaepcbdcjbfgjaa", sum := "3710f6ce203fee581b9f0223d18b59e1d1f5a8131b75bc3a2ffe900c3f92d3f1", func := "tabellion/tabellionlaw27.GraphSays", spec := "graphSays", unfollowed := true, recurses := true, loops := true, apart := false, narrowed := true }
def GraphSaysUptoSaid : Prop := graphSaysUptoRow.holds Try.pinned (OpenSpec.upto graphSaysSpec)

/-- 'tabellionlaw27.GraphSplits', WHERE WHAT IT READS IS OF BULK AT MOST 1048576: true; the input reads as it did. -/
def graphSplitsUptoRow : OpenClaim := { program := "ytaepcbdcjbfgjaa", sum := "3710f6ce203fee581b9f0223d18b59e1d1f5a8131b75bc3a2ffe900c3f92d3f1", func := "tabellion/tabellionlaw27.GraphSplits", spec := "graphSplits", unfollowed := true, recurses := true, apart := false, narrowed := true }
def GraphSplitsUptoSaid : Prop := graphSplitsUptoRow.holds Try.pinned (OpenSpec.upto graphSplitsSpec)

/-- 'tabellionlaw27.GraphMasks', WHERE WHAT IT READS IS OF BULK AT MOST 1048576: true; the input reads as it did. -/
def graphMasksUptoRow : OpenClaim := { program := "ytaepcbdcjbfgjaa", sum := "3710f6ce203fee581b9f0223d18b59e1d1f5a8131b75bc3a2ffe900c3f92d3f1", func := "tabellion/tabellionlaw27.GraphMasks", spec := "graphMasks", unfollowed := true, recurses := true, loops := true, apart := false, narrowed := true }
def GraphMasksUptoSaid : Prop := graphMasksUptoRow.holds Try.pinned (OpenSpec.upto graphMasksSpec)

end Rows
end Go.Proofs.Ytaepcbdcjbfgjaa
