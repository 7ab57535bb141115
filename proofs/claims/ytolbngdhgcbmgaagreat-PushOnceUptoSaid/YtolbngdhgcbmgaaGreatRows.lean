/-
  NARROWER THAN 'FOR EVERY INPUT', by the rows' own cells (each row's printed sentence says how): PushOnce: loops · PushRel: loops · PushEnds: loops.
  DERIVED. THE GIVEN ROWS OF THIS SEAT. 3 by the template 'for every input the law returns true; each argument reads behind the call as it read before'; 0 by the template 'total and deterministic' (their statements: YtolbngdhgcbmgaaGreatTotals.lean).
  GIVEN WITH THE SEED: the statements are not yours to turn. If you find one false, say at which input.
  Laid BY PROGRAM, IN A SANDBOX (cutbox-rows.mjs): the forced cells as the released guide's own fill.sh prints them over the translation becae9b92a35ed8e… (all of the seat's roots in one cut). By AI agents, Wed Nov 11 2026. No macro, syntax, notation, axiom, sorry.
-/
import Derived.Test.YtolbngdhgcbmgaaGreatChecked
import GoSem.Claim
import GoSem.ClaimJoined
import GoSem.ClaimMapViews
import Derived.JoinedTies
import Derived.KernelRfl
namespace Go.Proofs.YtolbngdhgcbmgaaGreat
/- THE CELL 'sum', in the pinned program and in every row, IS THE sha256 OF THE DUMP (.gsa) THAT YtolbngdhgcbmgaaGreatProg.lean LOADS. Nothing in Lean hashes anything: it is a label: what it is worth is what the hold of that sum in a sandbox is worth. -/
noncomputable def Tryz.pinned : Pinned := { name := "ytolbngdhgcbmgaagreat", sum := "becae9b92a35ed8e9defb7b7142db3cd3f223844cc48f38e44404e37da04004c", checked := Tryz.checked }
namespace Rows
def none {H : Type} : Left H := { results := [], args := [] }

/-- 'tabellionlaw22.PushOnce': WHATEVER THE INPUT: true; the input reads as it did. -/
def pushOnceSpec : ChangeSpec := { name := "pushOnce", fn := fun _ => fun
  | [d1, d2] => { results := [.lit (.bool true)], args := [d1, d2] }
  | _ => none }
def pushOnceRow : OpenClaim := { program := "ytolbngdhgcbmgaagreat", sum := "becae9b92a35ed8e9defb7b7142db3cd3f223844cc48f38e44404e37da04004c", func := "tabellion/tabellionlaw22.PushOnce", spec := "pushOnce", unfollowed := true, recurses := true, loops := true, apart := false }
def PushOnceSaid : Prop := pushOnceRow.holds Tryz.pinned (OpenSpec.ofChange pushOnceSpec)

/-- ITS FALSE NEIGHBOUR: 'it returns false'. Refute it at one input. -/
def pushOnceWrong : ChangeSpec := { name := "pushOnce", fn := fun _ => fun
  | [d1, d2] => { results := [.lit (.bool false)], args := [d1, d2] }
  | _ => none }
def PushOnceWrongFalsely : Prop := pushOnceRow.holds Tryz.pinned (OpenSpec.ofChange pushOnceWrong)

/-- 'tabellionlaw22.PushRel': WHATEVER THE INPUT: true; the input reads as it did. -/
def pushRelSpec : ChangeSpec := { name := "pushRel", fn := fun _ => fun
  | [d1, d2] => { results := [.lit (.bool true)], args := [d1, d2] }
  | _ => none }
def pushRelRow : OpenClaim := { program := "ytolbngdhgcbmgaagreat", sum := "becae9b92a35ed8e9defb7b7142db3cd3f223844cc48f38e44404e37da04004c", func := "tabellion/tabellionlaw22.PushRel", spec := "pushRel", unfollowed := true, recurses := true, loops := true, apart := false }
def PushRelSaid : Prop := pushRelRow.holds Tryz.pinned (OpenSpec.ofChange pushRelSpec)

/-- ITS FALSE NEIGHBOUR: 'it returns false'. Refute it at one input. -/
def pushRelWrong : ChangeSpec := { name := "pushRel", fn := fun _ => fun
  | [d1, d2] => { results := [.lit (.bool false)], args := [d1, d2] }
  | _ => none }
def PushRelWrongFalsely : Prop := pushRelRow.holds Tryz.pinned (OpenSpec.ofChange pushRelWrong)

/-- 'tabellionlaw22.PushEnds': WHATEVER THE INPUT: true; the input reads as it did. -/
def pushEndsSpec : ChangeSpec := { name := "pushEnds", fn := fun _ => fun
  | [d1, d2] => { results := [.lit (.bool true)], args := [d1, d2] }
  | _ => none }
def pushEndsRow : OpenClaim := { program := "ytolbngdhgcbmgaagreat", sum := "becae9b92a35ed8e9defb7b7142db3cd3f223844cc48f38e44404e37da04004c", func := "tabellion/tabellionlaw22.PushEnds", spec := "pushEnds", unfollowed := true, recurses := true, loops := true, apart := false }
def PushEndsSaid : Prop := pushEndsRow.holds Tryz.pinned (OpenSpec.ofChange pushEndsSpec)

/-- ITS FALSE NEIGHBOUR: 'it returns false'. Refute it at one input. -/
def pushEndsWrong : ChangeSpec := { name := "pushEnds", fn := fun _ => fun
  | [d1, d2] => { results := [.lit (.bool false)], args := [d1, d2] }
  | _ => none }
def PushEndsWrongFalsely : Prop := pushEndsRow.holds Tryz.pinned (OpenSpec.ofChange pushEndsWrong)

/- THE SECOND FORM. 'bulk': how many values and letters a reading holds, each counted each time it is reached (what is shared counts as often as it is met; a slice's spare places count too). A statement '..UptoSaid' is the law's where the arguments, and the package variables that the reading takes, are together of bulk at most 1048576: NARROWER than '..Said'. Prove '..Said' where nothing that the law and all that it calls make is longer than what came in: it says more and counts as full. Else prove '..UptoSaid'. A law counts once. -/
mutual
def uptoBulk {H : Type} : DataW H → Nat
  | .lit (.string bytes) => bytes.length + 1
  | .lit _ => 1
  | .nil => 1
  | .ptr d => uptoBulk d + 1
  | .slice elems spare => uptoBulkAll elems + uptoBulkAll spare + 1
  | .agg parts => uptoBulkAll parts + 1
  | .iface _ d => uptoBulk d + 1
  | .map entries => uptoBulkEntries entries + 1
  | .held _ => 1
def uptoBulkAll {H : Type} : List (DataW H) → Nat
  | [] => 0
  | d :: r => uptoBulk d + uptoBulkAll r
def uptoBulkEntries {H : Type} : List (Lit × DataW H) → Nat
  | [] => 0
  | x :: r => uptoBulkEntry x + uptoBulkEntries r
def uptoBulkEntry {H : Type} : Lit × DataW H → Nat
  | (.string bytes, d) => bytes.length + uptoBulk d + 1
  | (_, d) => uptoBulk d + 1
 end
def uptoSmall : (H : Type) → List (DataW H) → Bool := fun _ ds => decide (uptoBulkAll ds ≤ 1048576)
def OpenSpec.upto (s : _root_.Go.ChangeSpec) : _root_.Go.OpenSpec := { _root_.Go.OpenSpec.ofChange s with cond := some uptoSmall }

/-- 'tabellionlaw22.PushOnce', WHERE WHAT IT READS IS OF BULK AT MOST 1048576: true; the input reads as it did. -/
def pushOnceUptoRow : OpenClaim := { program := "ytolbngdhgcbmgaagreat", sum := "becae9b92a35ed8e9defb7b7142db3cd3f223844cc48f38e44404e37da04004c", func := "tabellion/tabellionlaw22.PushOnce", spec := "pushOnce", unfollowed := true, recurses := true, loops := true, apart := false, narrowed := true }
def PushOnceUptoSaid : Prop := pushOnceUptoRow.holds Tryz.pinned (OpenSpec.upto pushOnceSpec)

/-- 'tabellionlaw22.PushRel', WHERE WHAT IT READS IS OF BULK AT MOST 1048576: true; the input reads as it did. -/
def pushRelUptoRow : OpenClaim := { program := "ytolbngdhgcbmgaagreat", sum := "becae9b92a35ed8e9defb7b7142db3cd3f223844cc48f38e44404e37da04004c", func := "tabellion/tabellionlaw22.PushRel", spec := "pushRel", unfollowed := true, recurses := true, loops := true, apart := false, narrowed := true }
def PushRelUptoSaid : Prop := pushRelUptoRow.holds Tryz.pinned (OpenSpec.upto pushRelSpec)

/-- 'tabellionlaw22.PushEnds', WHERE WHAT IT READS IS OF BULK AT MOST 1048576: true; the input reads as it did. -/
def pushEndsUptoRow : OpenClaim := { program := "ytolbngdhgcbmgaagreat", sum := "becae9b92a35ed8e9defb7b7142db3cd3f223844cc48f38e44404e37da04004c", func := "tabellion/tabellionlaw22.PushEnds", spec := "pushEnds", unfollowed := true, recurses := true, loops := true, apart := false, narrowed := true }
def PushEndsUptoSaid : Prop := pushEndsUptoRow.holds Tryz.pinned (OpenSpec.upto pushEndsSpec)

end Rows
end Go.Proofs.YtolbngdhgcbmgaaGreat
