/-
  NARROWER THAN 'FOR EVERY INPUT', by the rows' own cells (each row's printed sentence says how): GuessParts: loops · GuessBounds: loops.
  DERIVED. THE GIVEN ROWS OF THIS SEAT. 4 by the template 'for every input the law returns true; each argument reads behind the call as it read before'; 0 by the template 'total and deterministic' (their statements: YtjndihloefdplaaTotals.lean).
  GIVEN WITH THE SEED: the statements are not yours to turn. If you find one false, say at which input.
  Laid BY PROGRAM, IN A SANDBOX (cutbox-rows.mjs): the forced cells as the released guide's own fill.sh prints them over the translation 6ec8a1e2222cef22… (all of the seat's roots in one cut). By AI agents, Wed Nov 11 2026. No macro, syntax, notation, axiom, sorry.
-/
import Derived.Test.YtjndihloefdplaaChecked
import GoSem.Claim
import GoSem.ClaimJoined
import GoSem.ClaimMapViews
import Derived.JoinedTies
import Derived.KernelRfl
namespace Go.Proofs.Ytjndihloefdplaa
/- THE CELL 'sum', in the pinned program and in every row, IS THE sha256 OF THE DUMP (.gsa) THAT YtjndihloefdplaaProg.lean LOADS. Nothing in Lean hashes anything: it is a label: what it is worth is what the hold of that sum in a sandbox is worth. -/
noncomputable def Try.pinned : Pinned := { name := "ytjndihloefdplaa", sum := "6ec8a1e2222cef22ee81c9abe4d793a574451a8de2dd04a2ae6ae6bf9cf8875a", checked := Try.checked }
namespace Rows
def none {H : Type} : Left H := { results := [], args := [] }

/-- 'tabellionlaw24.GuessParts': WHATEVER THE INPUT: true; the input reads as it did. -/
def guessPartsSpec : ChangeSpec := { name := "guessParts", fn := fun _ => fun
  | [d1, d2] => { results := [.lit (.bool true)], args := [d1, d2] }
  | _ => none }
def guessPartsRow : OpenClaim := { program := "ytjndihloefdplaa", sum := "6ec8a1e2222cef22ee81c9abe4d793a574451a8de2dd04a2ae6ae6bf9cf8875a", func := "tabellion/tabellionlaw24.GuessParts", spec := "guessParts", inPlace := ["internal/bytealg.abigen_runtime_cmpstring"], unfollowed := true, recurses := true, named := ["math/bits.divideError", "math/bits.overflowError"], loops := true, apart := false }
def GuessPartsSaid : Prop := guessPartsRow.holds Try.pinned (OpenSpec.ofChange guessPartsSpec)

/-- ITS FALSE NEIGHBOUR: 'it returns false'. Refute it at one input. -/
def guessPartsWrong : ChangeSpec := { name := "guessParts", fn := fun _ => fun
  | [d1, d2] => { results := [.lit (.bool false)], args := [d1, d2] }
  | _ => none }
def GuessPartsWrongFalsely : Prop := guessPartsRow.holds Try.pinned (OpenSpec.ofChange guessPartsWrong)

/-- 'tabellionlaw24.GuessSizes': WHATEVER THE INPUT: true; the input reads as it did. -/
def guessSizesSpec : ChangeSpec := { name := "guessSizes", fn := fun _ => fun
  | [d1, d2, d3] => { results := [.lit (.bool true)], args := [d1, d2, d3] }
  | _ => none }
def guessSizesRow : OpenClaim := { program := "ytjndihloefdplaa", sum := "6ec8a1e2222cef22ee81c9abe4d793a574451a8de2dd04a2ae6ae6bf9cf8875a", func := "tabellion/tabellionlaw24.GuessSizes", spec := "guessSizes", inPlace := ["internal/bytealg.abigen_runtime_cmpstring"], unfollowed := true, recurses := true, named := ["math/bits.divideError", "math/bits.overflowError"], apart := false }
def GuessSizesSaid : Prop := guessSizesRow.holds Try.pinned (OpenSpec.ofChange guessSizesSpec)

/-- ITS FALSE NEIGHBOUR: 'it returns false'. Refute it at one input. -/
def guessSizesWrong : ChangeSpec := { name := "guessSizes", fn := fun _ => fun
  | [d1, d2, d3] => { results := [.lit (.bool false)], args := [d1, d2, d3] }
  | _ => none }
def GuessSizesWrongFalsely : Prop := guessSizesRow.holds Try.pinned (OpenSpec.ofChange guessSizesWrong)

/-- 'tabellionlaw24.GuessBounds': WHATEVER THE INPUT: true; the input reads as it did. -/
def guessBoundsSpec : ChangeSpec := { name := "guessBounds", fn := fun _ => fun
  | [d1, d2, d3] => { results := [.lit (.bool true)], args := [d1, d2, d3] }
  | _ => none }
def guessBoundsRow : OpenClaim := { program := "ytjndihloefdplaa", sum := "6ec8a1e2222cef22ee81c9abe4d793a574451a8de2dd04a2ae6ae6bf9cf8875a", func := "tabellion/tabellionlaw24.GuessBounds", spec := "guessBounds", inPlace := ["internal/bytealg.abigen_runtime_cmpstring"], unfollowed := true, recurses := true, named := ["math/bits.divideError", "math/bits.overflowError"], loops := true, apart := false }
def GuessBoundsSaid : Prop := guessBoundsRow.holds Try.pinned (OpenSpec.ofChange guessBoundsSpec)

/-- ITS FALSE NEIGHBOUR: 'it returns false'. Refute it at one input. -/
def guessBoundsWrong : ChangeSpec := { name := "guessBounds", fn := fun _ => fun
  | [d1, d2, d3] => { results := [.lit (.bool false)], args := [d1, d2, d3] }
  | _ => none }
def GuessBoundsWrongFalsely : Prop := guessBoundsRow.holds Try.pinned (OpenSpec.ofChange guessBoundsWrong)

/-- 'tabellionlaw24.GuessFew': WHATEVER THE INPUT: true; the input reads as it did. -/
def guessFewSpec : ChangeSpec := { name := "guessFew", fn := fun _ => fun
  | [d1, d2, d3] => { results := [.lit (.bool true)], args := [d1, d2, d3] }
  | _ => none }
def guessFewRow : OpenClaim := { program := "ytjndihloefdplaa", sum := "6ec8a1e2222cef22ee81c9abe4d793a574451a8de2dd04a2ae6ae6bf9cf8875a", func := "tabellion/tabellionlaw24.GuessFew", spec := "guessFew", inPlace := ["internal/bytealg.abigen_runtime_cmpstring"], unfollowed := true, recurses := true, named := ["math/bits.divideError", "math/bits.overflowError"], apart := false }
def GuessFewSaid : Prop := guessFewRow.holds Try.pinned (OpenSpec.ofChange guessFewSpec)

/-- ITS FALSE NEIGHBOUR: 'it returns false'. Refute it at one input. -/
def guessFewWrong : ChangeSpec := { name := "guessFew", fn := fun _ => fun
  | [d1, d2, d3] => { results := [.lit (.bool false)], args := [d1, d2, d3] }
  | _ => none }
def GuessFewWrongFalsely : Prop := guessFewRow.holds Try.pinned (OpenSpec.ofChange guessFewWrong)

/- THE SECOND FORM. 'bulk': how many values and letters a reading holds, each counted each time it is reached (what is shared counts as often as it is met; a slice's spare places count too). A statement '..UptoSaid' is the law's where the arguments, and the package variables that the reading takes, are together of bulk at most 1048576: NARROWER than '..Said'. Prove '..Said' where nothing that the law and all that it calls make is longer than what came in: it says more and counts as full. Else prove '..UptoSaid'. A law counts once. -/
mutual
def uptoBulk {H : Type} : DataW H → Nat
  | .lit (.string bytes) => bytes.length + 1
  | .lit _ => 1
  | .nil => 1
  | .ptr d => uptoBulk d + 1
  | .slice elems spare => uptoBulkAll elems + uptoBulkAll spare + 1
  | .agg parts => uptoBulkAll parts + 1
  | .iface _ d => uptoBulk d + 1
  | .map entries => uptoBulkEntries entries + 1
  | .held _ => 1
def uptoBulkAll {H : Type} : List (DataW H) → Nat
  | [] => 0
  | d :: r => uptoBulk d + uptoBulkAll r
def uptoBulkEntries {H : Type} : List (Lit × DataW H) → Nat
  | [] => 0
  | x :: r => uptoBulkEntry x + uptoBulkEntries r
def uptoBulkEntry {H : Type} : Lit × DataW H → Nat
  | (.string bytes, d) => bytes.length + uptoBulk d + 1
  | (_, d) => uptoBulk d + 1
 end
def uptoSmall : (H : Type) → List (DataW H) → Bool := fun _ ds => decide (uptoBulkAll ds ≤ 1048576)
def OpenSpec.upto (s : _root_.Go.ChangeSpec) : _root_.Go.OpenSpec := { _root_.Go.OpenSpec.ofChange s with cond := some uptoSmall }

/-- 'tabellionlaw24.GuessParts', WHERE WHAT IT READS IS OF BULK AT MOST 1048576: true; the input reads as it did. -/
def guessPartsUptoRow : OpenClaim := { program := "ytjndihloefdplaa", sum := "6ec8a1e2222cef22ee81c9abe4d793a574451a8de2dd04a2ae6ae6bf9cf8875a", func := "tabellion/tabellionlaw24.GuessParts", spec := "guessParts", inPlace := ["internal/bytealg.abigen_runtime_cmpstring"], unfollowed := true, recurses := true, named := ["math/bits.divideError", "math/bits.overflowError"], loops := true, apart := false, narrowed := true }
def GuessPartsUptoSaid : Prop := guessPartsUptoRow.holds Try.pinned (OpenSpec.upto guessPartsSpec)

/-- 'tabellionlaw24.GuessSizes', WHERE WHAT IT READS IS OF BULK AT MOST 1048576: true; the input reads as it did. -/
def guessSizesUptoRow : OpenClaim := { program := "ytjndihloefdplaa", sum := "6ec8a1e2222cef22ee81c9abe4d793a574451a8de2dd04a2ae6ae6bf9cf8875a", func := "tabellion/tabellionlaw24.GuessSizes", spec := "guessSizes", inPlace := ["internal/bytealg.abigen_runtime_cmpstring"], unfollowed := true, recurses := true, named := ["math/bits.divideError", "math/bits.overflowError"], apart := false, narrowed := true }
def GuessSizesUptoSaid : Prop := guessSizesUptoRow.holds Try.pinned (OpenSpec.upto guessSizesSpec)

/-- 'tabellionlaw24.GuessBounds', WHERE WHAT IT READS IS OF BULK AT MOST 1048576: true; the input reads as it did. -/
def guessBoundsUptoRow : OpenClaim := { program := "ytjndihloefdplaa", sum := "6ec8a1e2222cef22ee81c9abe4d793a574451a8de2dd04a2ae6ae6bf9cf8875a", func := "tabellion/tabellionlaw24.GuessBounds", spec := "guessBounds", inPlace := ["internal/bytealg.abigen_runtime_cmpstring"], unfollowed := true, recurses := true, named := ["math/bits.divideError", "math/bits.overflowError"], loops := true, apart := false, narrowed := true }
def GuessBoundsUptoSaid : Prop := guessBoundsUptoRow.holds Try.pinned (OpenSpec.upto guessBoundsSpec)

/-- 'tabellionlaw24.GuessFew', WHERE WHAT IT READS IS OF BULK AT MOST 1048576: true; the input reads as it did. -/
def guessFewUptoRow : OpenClaim := { program := "ytjndihloefdplaa", sum := "6ec8a1e2222cef22ee81c9abe4d793a574451a8de2dd04a2ae6ae6bf9cf8875a", func := "tabellion/tabellionlaw24.GuessFew", spec := "guessFew", inPlace := ["internal/bytealg.abigen_runtime_cmpstring"], unfollowed := true, recurses := true, named := ["math/bits.divideError", "math/bits.overflowError"], apart := false, narrowed := true }
def GuessFewUptoSaid : Prop := guessFewUptoRow.holds Try.pinned (OpenSpec.upto guessFewSpec)

end Rows
end Go.Proofs.Ytjndihloefdplaa
