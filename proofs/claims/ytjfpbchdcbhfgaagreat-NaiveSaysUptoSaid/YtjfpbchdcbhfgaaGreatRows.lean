/-
  NARROWER THAN 'FOR EVERY INPUT', by the rows' own cells (each row's printed sentence says how): NaiveSays: loops · NaiveThirds: loops · NaiveJoins: loops · NaiveSets: loops · NaiveGroups: loops · NaiveTerms: loops · NaiveAsks: loops.
  DERIVED. THE GIVEN ROWS OF THIS SEAT. 8 by the template 'for every input the law returns true; each argument reads behind the call as it read before'; 0 by the template 'total and deterministic' (their statements: YtjfpbchdcbhfgaaGreatTotals.lean).
  GIVEN WITH THE SEED: the statements are not yours to turn. If you find one false, say at which input.
  Laid BY PROGRAM, IN A SANDBOX (cutbox-rows.mjs): the forced cells as the released guide's own fill.sh prints them over the translation f896176bd68cf7fd… (all of the seat's roots in one cut). By AI agents, Wed Nov 11 2026. No macro, syntax, notation, axiom, sorry.
-/
import Derived.Test.YtjfpbchdcbhfgaaGreatChecked
import GoSem.Claim
import GoSem.ClaimJoined
import GoSem.ClaimMapViews
import Derived.JoinedTies
import Derived.KernelRfl
namespace Go.Proofs.YtjfpbchdcbhfgaaGreat
/- THE CELL 'sum', in the pinned program and in every row, IS THE sha256 OF THE DUMP (.gsa) THAT YtjfpbchdcbhfgaaGreatProg.lean LOADS. Nothing in Lean hashes anything: it is a label: what it is worth is what the hold of that sum in a sandbox is worth. -/
noncomputable def Tryz.pinned : Pinned := { name := "ytjfpbchdcbhfgaagreat", sum := "f896176bd68cf7fd5059ea26d17f540ac278761356d6169912281eaa65d0d441", checked := Tryz.checked }
namespace Rows
def none {H : Type} : Left H := { results := [], args := [] }

/-- 'tabellionlaw20.NaiveSays': WHATEVER THE INPUT: true; the input reads as it did. -/
def naiveSaysSpec : ChangeSpec := { name := "naiveSays", fn := fun _ => fun
  | [d1, d2] => { results := [.lit (.bool true)], args := [d1, d2] }
  | _ => none }
def naiveSaysRow : OpenClaim := { program := "ytjfpbchdcbhfgaagreat", sum := "f896176bd68cf7fd5059ea26d17f540ac278761356d6169912281eaa65d0d441", func := "tabellion/tabellionlaw20.NaiveSays", spec := "naiveSays", inPlace := ["internal/bytealg.abigen_runtime_cmpstring", "internal/bytealg.IndexByteString", "slices.overlaps[tabellion/api.Value]"], unfollowed := true, recurses := true, loops := true, apart := false }
def NaiveSaysSaid : Prop := naiveSaysRow.holds Tryz.pinned (OpenSpec.ofChange naiveSaysSpec)

/-- ITS FALSE NEIGHBOUR: 'it returns false'. Refute it at one input. -/
def naiveSaysWrong : ChangeSpec := { name := "naiveSays", fn := fun _ => fun
  | [d1, d2] => { results := [.lit (.bool false)], args := [d1, d2] }
  | _ => none }
def NaiveSaysWrongFalsely : Prop := naiveSaysRow.holds Tryz.pinned (OpenSpec.ofChange naiveSaysWrong)

/-- 'tabellionlaw20.NaiveThirds': WHATEVER THE INPUT: true; the input reads as it did. -/
def naiveThirdsSpec : ChangeSpec := { name := "naiveThirds", fn := fun _ => fun
  | [d1, d2, d3] => { results := [.lit (.bool true)], args := [d1, d2, d3] }
  | _ => none }
def naiveThirdsRow : OpenClaim := { program := "ytjfpbchdcbhfgaagreat", sum := "f896176bd68cf7fd5059ea26d17f540ac278761356d6169912281eaa65d0d441", func := "tabellion/tabellionlaw20.NaiveThirds", spec := "naiveThirds", inPlace := ["internal/bytealg.abigen_runtime_cmpstring", "internal/bytealg.IndexByteString", "slices.overlaps[tabellion/api.Value]"], unfollowed := true, recurses := true, loops := true, apart := false }
def NaiveThirdsSaid : Prop := naiveThirdsRow.holds Tryz.pinned (OpenSpec.ofChange naiveThirdsSpec)

/-- ITS FALSE NEIGHBOUR: 'it returns false'. Refute it at one input. -/
def naiveThirdsWrong : ChangeSpec := { name := "naiveThirds", fn := fun _ => fun
  | [d1, d2, d3] => { results := [.lit (.bool false)], args := [d1, d2, d3] }
  | _ => none }
def NaiveThirdsWrongFalsely : Prop := naiveThirdsRow.holds Tryz.pinned (OpenSpec.ofChange naiveThirdsWrong)

/-- 'tabellionlaw20.NaiveJoins': WHATEVER THE INPUT: true; the input reads as it did. -/
def naiveJoinsSpec : ChangeSpec := { name := "naiveJoins", fn := fun _ => fun
  | [d1, d2, d3] => { results := [.lit (.bool true)], args := [d1, d2, d3] }
  | _ => none }
def naiveJoinsRow : OpenClaim := { program := "ytjfpbchdcbhfgaagreat", sum := "f896176bd68cf7fd5059ea26d17f540ac278761356d6169912281eaa65d0d441", func := "tabellion/tabellionlaw20.NaiveJoins", spec := "naiveJoins", inPlace := ["internal/bytealg.abigen_runtime_cmpstring", "internal/bytealg.IndexByteString", "slices.overlaps[tabellion/api.Value]"], unfollowed := true, recurses := true, loops := true, apart := false }
def NaiveJoinsSaid : Prop := naiveJoinsRow.holds Tryz.pinned (OpenSpec.ofChange naiveJoinsSpec)

/-- ITS FALSE NEIGHBOUR: 'it returns false'. Refute it at one input. -/
def naiveJoinsWrong : ChangeSpec := { name := "naiveJoins", fn := fun _ => fun
  | [d1, d2, d3] => { results := [.lit (.bool false)], args := [d1, d2, d3] }
  | _ => none }
def NaiveJoinsWrongFalsely : Prop := naiveJoinsRow.holds Tryz.pinned (OpenSpec.ofChange naiveJoinsWrong)

/-- 'tabellionlaw20.NaiveSets': WHATEVER THE INPUT: true; the input reads as it did. -/
def naiveSetsSpec : ChangeSpec := { name := "naiveSets", fn := fun _ => fun
  | [d1, d2, d3] => { results := [.lit (.bool true)], args := [d1, d2, d3] }
  | _ => none }
def naiveSetsRow : OpenClaim := { program := "ytjfpbchdcbhfgaagreat", sum := "f896176bd68cf7fd5059ea26d17f540ac278761356d6169912281eaa65d0d441", func := "tabellion/tabellionlaw20.NaiveSets", spec := "naiveSets", inPlace := ["internal/bytealg.abigen_runtime_cmpstring", "internal/bytealg.IndexByteString", "slices.overlaps[tabellion/api.Value]"], unfollowed := true, recurses := true, loops := true, apart := false }
def NaiveSetsSaid : Prop := naiveSetsRow.holds Tryz.pinned (OpenSpec.ofChange naiveSetsSpec)

/-- ITS FALSE NEIGHBOUR: 'it returns false'. Refute it at one input. -/
def naiveSetsWrong : ChangeSpec := { name := "naiveSets", fn := fun _ => fun
  | [d1, d2, d3] => { results := [.lit (.bool false)], args := [d1, d2, d3] }
  | _ => none }
def NaiveSetsWrongFalsely : Prop := naiveSetsRow.holds Tryz.pinned (OpenSpec.ofChange naiveSetsWrong)

/-- 'tabellionlaw20.NaiveGroups': WHATEVER THE INPUT: true; the input reads as it did. -/
def naiveGroupsSpec : ChangeSpec := { name := "naiveGroups", fn := fun _ => fun
  | [d1, d2, d3] => { results := [.lit (.bool true)], args := [d1, d2, d3] }
  | _ => none }
def naiveGroupsRow : OpenClaim := { program := "ytjfpbchdcbhfgaagreat", sum := "f896176bd68cf7fd5059ea26d17f540ac278761356d6169912281eaa65d0d441", func := "tabellion/tabellionlaw20.NaiveGroups", spec := "naiveGroups", inPlace := ["internal/bytealg.abigen_runtime_cmpstring", "internal/bytealg.IndexByteString", "slices.overlaps[tabellion/api.Value]"], unfollowed := true, recurses := true, loops := true, apart := false }
def NaiveGroupsSaid : Prop := naiveGroupsRow.holds Tryz.pinned (OpenSpec.ofChange naiveGroupsSpec)

/-- ITS FALSE NEIGHBOUR: 'it returns false'. Refute it at one input. -/
def naiveGroupsWrong : ChangeSpec := { name := "naiveGroups", fn := fun _ => fun
  | [d1, d2, d3] => { results := [.lit (.bool false)], args := [d1, d2, d3] }
  | _ => none }
def NaiveGroupsWrongFalsely : Prop := naiveGroupsRow.holds Tryz.pinned (OpenSpec.ofChange naiveGroupsWrong)

/-- 'tabellionlaw20.NaiveSorts': WHATEVER THE INPUT: true; the input reads as it did. -/
def naiveSortsSpec : ChangeSpec := { name := "naiveSorts", fn := fun _ => fun
  | [d1, d2, d3] => { results := [.lit (.bool true)], args := [d1, d2, d3] }
  | _ => none }
def naiveSortsRow : OpenClaim := { program := "ytjfpbchdcbhfgaagreat", sum := "f896176bd68cf7fd5059ea26d17f540ac278761356d6169912281eaa65d0d441", func := "tabellion/tabellionlaw20.NaiveSorts", spec := "naiveSorts", inPlace := ["internal/bytealg.abigen_runtime_cmpstring", "internal/bytealg.IndexByteString", "slices.overlaps[tabellion/api.Value]"], unfollowed := true, recurses := true, apart := false }
def NaiveSortsSaid : Prop := naiveSortsRow.holds Tryz.pinned (OpenSpec.ofChange naiveSortsSpec)

/-- ITS FALSE NEIGHBOUR: 'it returns false'. Refute it at one input. -/
def naiveSortsWrong : ChangeSpec := { name := "naiveSorts", fn := fun _ => fun
  | [d1, d2, d3] => { results := [.lit (.bool false)], args := [d1, d2, d3] }
  | _ => none }
def NaiveSortsWrongFalsely : Prop := naiveSortsRow.holds Tryz.pinned (OpenSpec.ofChange naiveSortsWrong)

/-- 'tabellionlaw20.NaiveTerms': WHATEVER THE INPUT: true; the input reads as it did. -/
def naiveTermsSpec : ChangeSpec := { name := "naiveTerms", fn := fun _ => fun
  | [d1, d2, d3] => { results := [.lit (.bool true)], args := [d1, d2, d3] }
  | _ => none }
def naiveTermsRow : OpenClaim := { program := "ytjfpbchdcbhfgaagreat", sum := "f896176bd68cf7fd5059ea26d17f540ac278761356d6169912281eaa65d0d441", func := "tabellion/tabellionlaw20.NaiveTerms", spec := "naiveTerms", inPlace := ["internal/bytealg.abigen_runtime_cmpstring", "internal/bytealg.IndexByteString", "slices.overlaps[tabellion/api.Value]"], unfollowed := true, recurses := true, loops := true, apart := false }
def NaiveTermsSaid : Prop := naiveTermsRow.holds Tryz.pinned (OpenSpec.ofChange naiveTermsSpec)

/-- ITS FALSE NEIGHBOUR: 'it returns false'. Refute it at one input. -/
def naiveTermsWrong : ChangeSpec := { name := "naiveTerms", fn := fun _ => fun
  | [d1, d2, d3] => { results := [.lit (.bool false)], args := [d1, d2, d3] }
  | _ => none }
def NaiveTermsWrongFalsely : Prop := naiveTermsRow.holds Tryz.pinned (OpenSpec.ofChange naiveTermsWrong)

/-- 'tabellionlaw20.NaiveAsks': WHATEVER THE INPUT: true; the input reads as it did. -/
def naiveAsksSpec : ChangeSpec := { name := "naiveAsks", fn := fun _ => fun
  | [d1, d2, d3] => { results := [.lit (.bool true)], args := [d1, d2, d3] }
  | _ => none }
def naiveAsksRow : OpenClaim := { program := "ytjfpbchdcbhfgaagreat", sum := "f896176bd68cf7fd5059ea26d17f540ac278761356d6169912281eaa65d0d441", func := "tabellion/tabellionlaw20.NaiveAsks", spec := "naiveAsks", inPlace := ["internal/bytealg.abigen_runtime_cmpstring", "internal/bytealg.IndexByteString", "slices.overlaps[tabellion/api.Value]"], unfollowed := true, recurses := true, loops := true, apart := false }
def NaiveAsksSaid : Prop := naiveAsksRow.holds Tryz.pinned (OpenSpec.ofChange naiveAsksSpec)

/-- ITS FALSE NEIGHBOUR: 'it returns false'. Refute it at one input. -/
def naiveAsksWrong : ChangeSpec := { name := "naiveAsks", fn := fun _ => fun
  | [d1, d2, d3] => { results := [.lit (.bool false)], args := [d1, d2, d3] }
  | _ => none }
def NaiveAsksWrongFalsely : Prop := naiveAsksRow.holds Tryz.pinned (OpenSpec.ofChange naiveAsksWrong)

/- THE SECOND FORM. 'bulk': how many values and letters a reading holds, each counted each time it is reached (what is shared counts as often as it is met; a slice's spare places count too). A statement '..UptoSaid' is the law's where the arguments, and the package variables that the reading takes, are together of bulk at most 1048576: NARROWER than '..Said'. Prove '..Said' where nothing that the law and all that it calls make is longer than what came in: it says more and counts as full. Else prove '..UptoSaid'. A law counts once. -/
mutual
def uptoBulk {H : Type} : DataW H → Nat
  | .lit (.string bytes) => bytes.length + 1
  | .lit _ => 1
  | .nil => 1
  | .ptr d => uptoBulk d + 1
  | .slice elems spare => uptoBulkAll elems + uptoBulkAll spare + 1
  | .agg parts => uptoBulkAll parts + 1
  | .iface _ d => uptoBulk d + 1
  | .map entries => uptoBulkEntries entries + 1
  | .held _ => 1
def uptoBulkAll {H : Type} : List (DataW H) → Nat
  | [] => 0
  | d :: r => uptoBulk d + uptoBulkAll r
def uptoBulkEntries {H : Type} : List (Lit × DataW H) → Nat
  | [] => 0
  | x :: r => uptoBulkEntry x + uptoBulkEntries r
def uptoBulkEntry {H : Type} : Lit × DataW H → Nat
  | (.string bytes, d) => bytes.length + uptoBulk d + 1
  | (_, d) => uptoBulk d + 1
 end
def uptoSmall : (H : Type) → List (DataW H) → Bool := fun _ ds => decide (uptoBulkAll ds ≤ 1048576)
def OpenSpec.upto (s : _root_.Go.ChangeSpec) : _root_.Go.OpenSpec := { _root_.Go.OpenSpec.ofChange s with cond := some uptoSmall }

/-- 'tabellionlaw20.NaiveSays', WHERE WHAT IT READS IS OF BULK AT MOST 1048576: true; the input reads as it did. -/
def naiveSaysUptoRow : OpenClaim := { program := "ytjfpbchdcbhfgaagreat", sum := "f896176bd68cf7fd5059ea26d17f540ac278761356d6169912281eaa65d0d441", func := "tabellion/tabellionlaw20.NaiveSays", spec := "naiveSays", inPlace := ["internal/bytealg.abigen_runtime_cmpstring", "internal/bytealg.IndexByteString", "slices.overlaps[tabellion/api.Value]"], unfollowed := true, recurses := true, loops := true, apart := false, narrowed := true }
def NaiveSaysUptoSaid : Prop := naiveSaysUptoRow.holds Tryz.pinned (OpenSpec.upto naiveSaysSpec)

/-- 'tabellionlaw20.NaiveThirds', WHERE WHAT IT READS IS OF BULK AT MOST 1048576: true; the input reads as it did. -/
def naiveThirdsUptoRow : OpenClaim := { program := "ytjfpbchdcbhfgaagreat", sum := "f896176bd68cf7fd5059ea26d17f540ac278761356d6169912281eaa65d0d441", func := "tabellion/tabellionlaw20.NaiveThirds", spec := "naiveThirds", inPlace := ["internal/bytealg.abigen_runtime_cmpstring", "internal/bytealg.IndexByteString", "slices.overlaps[tabellion/api.Value]"], unfollowed := true, recurses := true, loops := true, apart := false, narrowed := true }
def NaiveThirdsUptoSaid : Prop := naiveThirdsUptoRow.holds Tryz.pinned (OpenSpec.upto naiveThirdsSpec)

/-- 'tabellionlaw20.NaiveJoins', WHERE WHAT IT READS IS OF BULK AT MOST 1048576: true; the input reads as it did. -/
def naiveJoinsUptoRow : OpenClaim := { program := "ytjfpbchdcbhfgaagreat", sum := "f896176bd68cf7fd5059ea26d17f540ac278761356d6169912281eaa65d0d441", func := "tabellion/tabellionlaw20.NaiveJoins", spec := "naiveJoins", inPlace := ["internal/bytealg.abigen_runtime_cmpstring", "internal/bytealg.IndexByteString", "slices.overlaps[tabellion/api.Value]"], unfollowed := true, recurses := true, loops := true, apart := false, narrowed := true }
def NaiveJoinsUptoSaid : Prop := naiveJoinsUptoRow.holds Tryz.pinned (OpenSpec.upto naiveJoinsSpec)

/-- 'tabellionlaw20.NaiveSets', WHERE WHAT IT READS IS OF BULK AT MOST 1048576: true; the input reads as it did. -/
def naiveSetsUptoRow : OpenClaim := { program := "ytjfpbchdcbhfgaagreat", sum := "f896176bd68cf7fd5059ea26d17f540ac278761356d6169912281eaa65d0d441", func := "tabellion/tabellionlaw20.NaiveSets", spec := "naiveSets", inPlace := ["internal/bytealg.abigen_runtime_cmpstring", "internal/bytealg.IndexByteString", "slices.overlaps[tabellion/api.Value]"], unfollowed := true, recurses := true, loops := true, apart := false, narrowed := true }
def NaiveSetsUptoSaid : Prop := naiveSetsUptoRow.holds Tryz.pinned (OpenSpec.upto naiveSetsSpec)

/-- 'tabellionlaw20.NaiveGroups', WHERE WHAT IT READS IS OF BULK AT MOST 1048576: true; the input reads as it did. -/
def naiveGroupsUptoRow : OpenClaim := { program := "ytjfpbchdcbhfgaagreat", sum := "f896176bd68cf7fd5059ea26d17f540ac278761356d6169912281eaa65d0d441", func := "tabellion/tabellionlaw20.NaiveGroups", spec := "naiveGroups", inPlace := ["internal/bytealg.abigen_runtime_cmpstring", "internal/bytealg.IndexByteString", "slices.overlaps[tabellion/api.Value]"], unfollowed := true, recurses := true, loops := true, apart := false, narrowed := true }
def NaiveGroupsUptoSaid : Prop := naiveGroupsUptoRow.holds Tryz.pinned (OpenSpec.upto naiveGroupsSpec)

/-- 'tabellionlaw20.NaiveSorts', WHERE WHAT IT READS IS OF BULK AT MOST 1048576: true; the input reads as it did. -/
def naiveSortsUptoRow : OpenClaim := { program := "ytjfpbchdcbhfgaagreat", sum := "f896176bd68cf7fd5059ea26d17f540ac278761356d6169912281eaa65d0d441", func := "tabellion/tabellionlaw20.NaiveSorts", spec := "naiveSorts", inPlace := ["internal/bytealg.abigen_runtime_cmpstring", "internal/bytealg.IndexByteString", "slices.overlaps[tabellion/api.Value]"], unfollowed := true, recurses := true, apart := false, narrowed := true }
def NaiveSortsUptoSaid : Prop := naiveSortsUptoRow.holds Tryz.pinned (OpenSpec.upto naiveSortsSpec)

/-- 'tabellionlaw20.NaiveTerms', WHERE WHAT IT READS IS OF BULK AT MOST 1048576: true; the input reads as it did. -/
def naiveTermsUptoRow : OpenClaim := { program := "ytjfpbchdcbhfgaagreat", sum := "f896176bd68cf7fd5059ea26d17f540ac278761356d6169912281eaa65d0d441", func := "tabellion/tabellionlaw20.NaiveTerms", spec := "naiveTerms", inPlace := ["internal/bytealg.abigen_runtime_cmpstring", "internal/bytealg.IndexByteString", "slices.overlaps[tabellion/api.Value]"], unfollowed := true, recurses := true, loops := true, apart := false, narrowed := true }
def NaiveTermsUptoSaid : Prop := naiveTermsUptoRow.holds Tryz.pinned (OpenSpec.upto naiveTermsSpec)

/-- 'tabellionlaw20.NaiveAsks', WHERE WHAT IT READS IS OF BULK AT MOST 1048576: true; the input reads as it did. -/
def naiveAsksUptoRow : OpenClaim := { program := "ytjfpbchdcbhfgaagreat", sum := "f896176bd68cf7fd5059ea26d17f540ac278761356d6169912281eaa65d0d441", func := "tabellion/tabellionlaw20.NaiveAsks", spec := "naiveAsks", inPlace := ["internal/bytealg.abigen_runtime_cmpstring", "internal/bytealg.IndexByteString", "slices.overlaps[tabellion/api.Value]"], unfollowed := true, recurses := true, loops := true, apart := false, narrowed := true }
def NaiveAsksUptoSaid : Prop := naiveAsksUptoRow.holds Tryz.pinned (OpenSpec.upto naiveAsksSpec)

end Rows
end Go.Proofs.YtjfpbchdcbhfgaaGreat
