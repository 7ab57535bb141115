/- slices.Clone at the elements of this seat. -/
import Derived.Test.YtpaelnkffpmfaaaLown
namespace Go.Proofs.Ytpaelnkffpmfaaa.B
open Go Go.RowKit Go.Shelf
set_option maxRecDepth 1000000

def ren_clone_val : Ren := ⟨fun | 41 => 31 | n => n, fun | 4 => 4 | 22 => 25 | 23 => 28 | n => n, fun | n => n⟩
theorem lays_clone_val : SlLaysE0.n41 Try.prog ren_clone_val := {
  mixed := by kernel_rfl
  f41 := ⟨Try.f31.name, by kernel_rfl, Try.func31.trans (congrArg some (by kernel_rfl))⟩
  t4 := Try.underlying4
  a4 := Try.isAgg4
  z4 := Try.sizeOf4
  v4 := Try.zeroValue4
  t22 := Try.underlying25
  a22 := Try.isAgg25
  z22 := Try.sizeOf25
  v22 := Try.zeroValue25 }
def F_clone_val : FnC Un := F_clone .val
theorem ok_clone_val : FnOK 31 F_clone_val := clone_inst lays_clone_val (by kernel_rfl) (hasBody_of Try.func31 (by kernel_rfl) (by kernel_rfl))




end Go.Proofs.Ytpaelnkffpmfaaa.B
