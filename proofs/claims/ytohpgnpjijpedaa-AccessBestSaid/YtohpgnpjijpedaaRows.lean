/-
  NARROWER THAN 'FOR EVERY INPUT', by the rows' own cells (each row's printed sentence says how): AccessRange: loops.
  DERIVED. THE GIVEN ROWS OF THIS SEAT. 2 by the template 'for every input the law returns true; each argument reads behind the call as it read before'; 0 by the template 'total and deterministic' (their statements: YtohpgnpjijpedaaTotals.lean).
  GIVEN WITH THE SEED: the statements are not yours to turn. If you find one false, say at which input.
  Laid BY PROGRAM, IN A SANDBOX (cutbox-rows.mjs): the forced cells as the released guide's own fill.sh prints them over the translation 43ba28835bd61b91… (all of the seat's roots in one cut). By AI agents, Wed Nov 11 2026. No macro, syntax, notation, axiom, sorry.
-/
import Derived.Test.YtohpgnpjijpedaaChecked
import GoSem.Claim
import GoSem.ClaimJoined
import GoSem.ClaimMapViews
import Derived.JoinedTies
import Derived.KernelRfl
namespace Go.Proofs.Ytohpgnpjijpedaa
/- THE CELL 'sum', in the pinned program and in every row, IS THE sha256 OF THE DUMP (.gsa) THAT YtohpgnpjijpedaaProg.lean LOADS. Nothing in Lean hashes anything: it is a label: what it is worth is what the hold of that sum in a sandbox is worth. -/
noncomputable def Try.pinned : Pinned := { name := "ytohpgnpjijpedaa", sum := "43ba28835bd61b91006d1574e653099a3c633bf2d1d4b7954f64848fc9486a0c", checked := Try.checked }
namespace Rows
def none {H : Type} : Left H := { results := [], args := [] }

/-- 'tabellionlaw26.AccessRange': WHATEVER THE INPUT: true; the input reads as it did. -/
def accessRangeSpec : ChangeSpec := { name := "accessRange", fn := fun _ => fun
  | [d1, d2] => { results := [.lit (.bool true)], args := [d1, d2] }
  | _ => none }
def accessRangeRow : OpenClaim := { program := "ytohpgnpjijpedaa", sum := "43ba28835bd61b91006d1574e653099a3c633bf2d1d4b7954f64848fc9486a0c", func := "tabellion/tabellionlaw26.AccessRange", spec := "accessRange", unfollowed := true, recurses := true, loops := true, apart := false }
def AccessRangeSaid : Prop := accessRangeRow.holds Try.pinned (OpenSpec.ofChange accessRangeSpec)

/-- ITS FALSE NEIGHBOUR: 'it returns false'. Refute it at one input. -/
def accessRangeWrong : ChangeSpec := { name := "accessRange", fn := fun _ => fun
  | [d1, d2] => { results := [.lit (.bool false)], args := [d1, d2] }
  | _ => none }
def AccessRangeWrongFalsely : Prop := accessRangeRow.holds Try.pinned (OpenSpec.ofChange accessRangeWrong)

/-- 'tabellionlaw26.AccessBest': WHATEVER THE INPUT: true; the input reads as it did. -/
def accessBestSpec : ChangeSpec := { name := "accessBest", fn := fun _ => fun
  | [d] => { results := [.lit (.bool true)], args := [d] }
  | _ => none }
def accessBestRow : OpenClaim := { program := "ytohpgnpjijpedaa", sum := "43ba28835bd61b91006d1574e653099a3c633bf2d1d4b7954f64848fc9486a0c", func := "tabellion/tabellionlaw26.AccessBest", spec := "accessBest", unfollowed := true, recurses := true, apart := false }
def AccessBestSaid : Prop := accessBestRow.holds Try.pinned (OpenSpec.ofChange accessBestSpec)

/-- ITS FALSE NEIGHBOUR: 'it returns false'. Refute it at one input. -/
def accessBestWrong : ChangeSpec := { name := "accessBest", fn := fun _ => fun
  | [d] => { results := [.lit (.bool false)], args := [d] }
  | _ => none }
def AccessBestWrongFalsely : Prop := accessBestRow.holds Try.pinned (OpenSpec.ofChange accessBestWrong)

/- THE SECOND FORM. 'bulk': how many values and letters a reading holds, each counted each time it is reached (what is shared counts as often as it is met; a slice's spare places count too). A statement '..UptoSaid' is the law's where the arguments, and the package variables that the reading takes, are together of bulk at most 1048576: NARROWER than '..Said'. Prove '..Said' where nothing that the law and all that it calls make is longer than what came in: it says more and counts as full. Else prove '..UptoSaid'. A law counts once. -/
mutual
def uptoBulk {H : Type} : DataW H → Nat
  | .lit (.string bytes) => bytes.length + 1
  | .lit _ => 1
  | .nil => 1
  | .ptr d => uptoBulk d + 1
  | .slice elems spare => uptoBulkAll elems + uptoBulkAll spare + 1
  | .agg parts => uptoBulkAll parts + 1
  | .iface _ d => uptoBulk d + 1
  | .map entries => uptoBulkEntries entries + 1
  | .held _ => 1
def uptoBulkAll {H : Type} : List (DataW H) → Nat
  | [] => 0
  | d :: r => uptoBulk d + uptoBulkAll r
def uptoBulkEntries {H : Type} : List (Lit × DataW H) → Nat
  | [] => 0
  | x :: r => uptoBulkEntry x + uptoBulkEntries r
def uptoBulkEntry {H : Type} : Lit × DataW H → Nat
  | (.string bytes, d) => bytes.length + uptoBulk d + 1
  | (_, d) => uptoBulk d + 1
 end
def uptoSmall : (H : Type) → List (DataW H) → Bool := fun _ ds => decide (uptoBulkAll ds ≤ 1048576)
def OpenSpec.upto (s : _root_.Go.ChangeSpec) : _root_.Go.OpenSpec := { _root_.Go.OpenSpec.ofChange s with cond := some uptoSmall }

/-- 'tabellionlaw26.AccessRange', WHERE WHAT IT READS IS OF BULK AT MOST 1048576: true; the input reads as it did. -/
def accessRangeUptoRow : OpenClaim := { program := "ytohpgnpjijpedaa", sum := "43ba28835bd61b91006d1574e653099a3c633bf2d1d4b7954f64848fc9486a0c", func := "tabellion/tabellionlaw26.AccessRange", spec := "accessRange", unfollowed := true, recurses := true, loops := true, apart := false, narrowed := true }
def AccessRangeUptoSaid : Prop := accessRangeUptoRow.holds Try.pinned (OpenSpec.upto accessRangeSpec)

/-- 'tabellionlaw26.AccessBest', WHERE WHAT IT READS IS OF BULK AT MOST 1048576: true; the input reads as it did. -/
def accessBestUptoRow : OpenClaim := { program := "ytohpgnpjijpedaa", sum := "43ba28835bd61b91006d1574e653099a3c633bf2d1d4b7954f64848fc9486a0c", func := "tabellion/tabellionlaw26.AccessBest", spec := "accessBest", unfollowed := true, recurses := true, apart := false, narrowed := true }
def AccessBestUptoSaid : Prop := accessBestUptoRow.holds Try.pinned (OpenSpec.upto accessBestSpec)

end Rows
end Go.Proofs.Ytohpgnpjijpedaa
