/-
  NARROWER THAN 'FOR EVERY INPUT', by the rows' own cells (each row's printed sentence says how): ConjEqual: loops · ConjWhole: loops · ConjMoves: loops.
  DERIVED. THE GIVEN ROWS OF THIS SEAT. 3 by the template 'for every input the law returns true; each argument reads behind the call as it read before'; 0 by the template 'total and deterministic' (their statements: YtjmpnpkcgkhagaaGreatTotals.lean).
  GIVEN WITH THE SEED: the statements are not yours to turn. If you find one false, say at which input.
  Laid BY PROGRAM, IN A SANDBOX (cutbox-rows.mjs): the forced cells as the released guide's own fill.sh prints them over the translation c511f273a7b5697b… (all of the seat's roots in one cut). By AI agents, Wed Nov 11 2026. No macro, syntax, notation, axiom, sorry.
-/
import Derived.Test.YtjmpnpkcgkhagaaGreatChecked
import GoSem.Claim
import GoSem.ClaimJoined
import GoSem.ClaimMapViews
import Derived.JoinedTies
import Derived.KernelRfl
namespace Go.Proofs.YtjmpnpkcgkhagaaGreat
/- THE CELL 'sum', in the pinned program and in every row, IS THE sha256 OF THE DUMP (.gsa) THAT YtjmpnpkcgkhagaaGreatProg.lean LOADS. Nothing in Lean hashes anything: it is a label: what it is worth is what the hold of that sum in a sandbox is worth. -/
noncomputable def Tryz.pinned : Pinned := { name := "ytjmpnpkcgkhagaagreat", sum := "c511f273a7b5697b20fc7c08014d2c407643fefd2b78ab3ae6058d160a5d9054", checked := Tryz.checked }
namespace Rows
def none {H : Type} : Left H := { results := [], args := [] }

/-- 'tabellionlaw21.ConjEqual': WHATEVER THE INPUT: true; the input reads as it did. -/
def conjEqualSpec : ChangeSpec := { name := "conjEqual", fn := fun _ => fun
  | [d1, d2, d3] => { results := [.lit (.bool true)], args := [d1, d2, d3] }
  | _ => none }
def conjEqualRow : OpenClaim := { program := "ytjmpnpkcgkhagaagreat", sum := "c511f273a7b5697b20fc7c08014d2c407643fefd2b78ab3ae6058d160a5d9054", func := "tabellion/tabellionlaw21.ConjEqual", spec := "conjEqual", inPlace := ["internal/bytealg.abigen_runtime_cmpstring", "internal/bytealg.IndexByteString"], unfollowed := true, recurses := true, loops := true, apart := false }
def ConjEqualSaid : Prop := conjEqualRow.holds Tryz.pinned (OpenSpec.ofChange conjEqualSpec)

/-- ITS FALSE NEIGHBOUR: 'it returns false'. Refute it at one input. -/
def conjEqualWrong : ChangeSpec := { name := "conjEqual", fn := fun _ => fun
  | [d1, d2, d3] => { results := [.lit (.bool false)], args := [d1, d2, d3] }
  | _ => none }
def ConjEqualWrongFalsely : Prop := conjEqualRow.holds Tryz.pinned (OpenSpec.ofChange conjEqualWrong)

/-- 'tabellionlaw21.ConjWhole': WHATEVER THE INPUT: true; the input reads as it did. -/
def conjWholeSpec : ChangeSpec := { name := "conjWhole", fn := fun _ => fun
  | [d1, d2] => { results := [.lit (.bool true)], args := [d1, d2] }
  | _ => none }
def conjWholeRow : OpenClaim := { program := "ytjmpnpkcgkhagaagreat", sum := "c511f273a7b5697b20fc7c08014d2c407643fefd2b78ab3ae6058d160a5d9054", func := "tabellion/tabellionlaw21.ConjWhole", spec := "conjWhole", inPlace := ["internal/bytealg.abigen_runtime_cmpstring", "internal/bytealg.IndexByteString"], unfollowed := true, recurses := true, loops := true, apart := false }
def ConjWholeSaid : Prop := conjWholeRow.holds Tryz.pinned (OpenSpec.ofChange conjWholeSpec)

/-- ITS FALSE NEIGHBOUR: 'it returns false'. Refute it at one input. -/
def conjWholeWrong : ChangeSpec := { name := "conjWhole", fn := fun _ => fun
  | [d1, d2] => { results := [.lit (.bool false)], args := [d1, d2] }
  | _ => none }
def ConjWholeWrongFalsely : Prop := conjWholeRow.holds Tryz.pinned (OpenSpec.ofChange conjWholeWrong)

/-- 'tabellionlaw21.ConjMoves': WHATEVER THE INPUT: true; the input reads as it did. -/
def conjMovesSpec : ChangeSpec := { name := "conjMoves", fn := fun _ => fun
  | [d1, d2, d3] => { results := [.lit (.bool true)], args := [d1, d2, d3] }
  | _ => none }
def conjMovesRow : OpenClaim := { program := "ytjmpnpkcgkhagaagreat", sum := "c511f273a7b5697b20fc7c08014d2c407643fefd2b78ab3ae6058d160a5d9054", func := "tabellion/tabellionlaw21.ConjMoves", spec := "conjMoves", inPlace := ["internal/bytealg.abigen_runtime_cmpstring", "internal/bytealg.IndexByteString"], unfollowed := true, recurses := true, loops := true, apart := false }
def ConjMovesSaid : Prop := conjMovesRow.holds Tryz.pinned (OpenSpec.ofChange conjMovesSpec)

/-- ITS FALSE NEIGHBOUR: 'it returns false'. Refute it at one input. -/
def conjMovesWrong : ChangeSpec := { name := "conjMoves", fn := fun _ => fun
  | [d1, d2, d3] => { results := [.lit (.bool false)], args := [d1, d2, d3] }
  | _ => none }
def ConjMovesWrongFalsely : Prop := conjMovesRow.holds Tryz.pinned (OpenSpec.ofChange conjMovesWrong)

/- THE SECOND FORM. 'bulk': how many values and letters a reading holds, each counted each time it is reached (what is shared counts as often as it is met; a slice's spare places count too). A statement '..UptoSaid' is the law's where the arguments, and the package variables that the reading takes, are together of bulk at most 1048576: NARROWER than '..Said'. Prove '..Said' where nothing that the law and all that it calls make is longer than what came in: it says more and counts as full. Else prove '..UptoSaid'. A law counts once. -/
mutual
def uptoBulk {H : Type} : DataW H → Nat
  | .lit (.string bytes) => bytes.length + 1
  | .lit _ => 1
  | .nil => 1
  | .ptr d => uptoBulk d + 1
  | .slice elems spare => uptoBulkAll elems + uptoBulkAll spare + 1
  | .agg parts => uptoBulkAll parts + 1
  | .iface _ d => uptoBulk d + 1
  | .map entries => uptoBulkEntries entries + 1
  | .held _ => 1
def uptoBulkAll {H : Type} : List (DataW H) → Nat
  | [] => 0
  | d :: r => uptoBulk d + uptoBulkAll r
def uptoBulkEntries {H : Type} : List (Lit × DataW H) → Nat
  | [] => 0
  | x :: r => uptoBulkEntry x + uptoBulkEntries r
def uptoBulkEntry {H : Type} : Lit × DataW H → Nat
  | (.string bytes, d) => bytes.length + uptoBulk d + 1
  | (_, d) => uptoBulk d + 1
 end
def uptoSmall : (H : Type) → List (DataW H) → Bool := fun _ ds => decide (uptoBulkAll ds ≤ 1048576)
def OpenSpec.upto (s : _root_.Go.ChangeSpec) : _root_.Go.OpenSpec := { _root_.Go.OpenSpec.ofChange s with cond := some uptoSmall }

/-- 'tabellionlaw21.ConjEqual', WHERE WHAT IT READS IS OF BULK AT MOST 1048576: true; the input reads as it did. -/
def conjEqualUptoRow : OpenClaim := { program := "ytjmpnpkcgkhagaagreat", sum := "c511f273a7b5697b20fc7c08014d2c407643fefd2b78ab3ae6058d160a5d9054", func := "tabellion/tabellionlaw21.ConjEqual", spec := "conjEqual", inPlace := ["internal/bytealg.abigen_runtime_cmpstring", "internal/bytealg.IndexByteString"], unfollowed := true, recurses := true, loops := true, apart := false, narrowed := true }
def ConjEqualUptoSaid : Prop := conjEqualUptoRow.holds Tryz.pinned (OpenSpec.upto conjEqualSpec)

/-- 'tabellionlaw21.ConjWhole', WHERE WHAT IT READS IS OF BULK AT MOST 1048576: true; the input reads as it did. -/
def conjWholeUptoRow : OpenClaim := { program := "ytjmpnpkcgkhagaagreat", sum := "c511f273a7b5697b20fc7c08014d2c407643fefd2b78ab3ae6058d160a5d9054", func := "tabellion/tabellionlaw21.ConjWhole", spec := "conjWhole", inPlace := ["internal/bytealg.abigen_runtime_cmpstring", "internal/bytealg.IndexByteString"], unfollowed := true, recurses := true, loops := true, apart := false, narrowed := true }
def ConjWholeUptoSaid : Prop := conjWholeUptoRow.holds Tryz.pinned (OpenSpec.upto conjWholeSpec)

/-- 'tabellionlaw21.ConjMoves', WHERE WHAT IT READS IS OF BULK AT MOST 1048576: true; the input reads as it did. -/
def conjMovesUptoRow : OpenClaim := { program := "ytjmpnpkcgkhagaagreat", sum := "c511f273a7b5697b20fc7c08014d2c407643fefd2b78ab3ae6058d160a5d9054", func := "tabellion/tabellionlaw21.ConjMoves", spec := "conjMoves", inPlace := ["internal/bytealg.abigen_runtime_cmpstring", "internal/bytealg.IndexByteString"], unfollowed := true, recurses := true, loops := true, apart := false, narrowed := true }
def ConjMovesUptoSaid : Prop := conjMovesUptoRow.holds Tryz.pinned (OpenSpec.upto conjMovesSpec)

end Rows
end Go.Proofs.YtjmpnpkcgkhagaaGreat
