/- slices.Clone at the elements of this seat. -/
import Derived.Test.YtaepcbdcjbfgjaaLown
namespace Go.Proofs.Ytaepcbdcjbfgjaa.B
open Go Go.RowKit Go.Shelf
set_option maxRecDepth 1000000


def ren_clone_term : Ren := ⟨fun | 41 => 88 | n => n, fun | 4 => 4 | 22 => 24 | 23 => 27 | n => n, fun | n => n⟩
theorem lays_clone_term : SlLaysE0.n41 Try.prog ren_clone_term := {
  mixed := by kernel_rfl
  f41 := ⟨Try.f88.name, by kernel_rfl, Try.func88.trans (congrArg some (by kernel_rfl))⟩
  t4 := Try.underlying4
  a4 := Try.isAgg4
  z4 := Try.sizeOf4
  v4 := Try.zeroValue4
  t22 := Try.underlying24
  a22 := Try.isAgg24
  z22 := Try.sizeOf24
  v22 := Try.zeroValue24 }
def F_clone_term : FnC Un := F_clone .term
theorem ok_clone_term : FnOK 88 F_clone_term := clone_inst lays_clone_term (by kernel_rfl) (hasBody_of Try.func88 (by kernel_rfl) (by kernel_rfl))

def ren_clone_rel : Ren := ⟨fun | 41 => 75 | n => n, fun | 4 => 4 | 22 => 25 | 23 => 62 | n => n, fun | n => n⟩
theorem lays_clone_rel : SlLaysE0.n41 Try.prog ren_clone_rel := {
  mixed := by kernel_rfl
  f41 := ⟨Try.f75.name, by kernel_rfl, Try.func75.trans (congrArg some (by kernel_rfl))⟩
  t4 := Try.underlying4
  a4 := Try.isAgg4
  z4 := Try.sizeOf4
  v4 := Try.zeroValue4
  t22 := Try.underlying25
  a22 := Try.isAgg25
  z22 := Try.sizeOf25
  v22 := Try.zeroValue25 }
def F_clone_rel : FnC Un := F_clone .rel
theorem ok_clone_rel : FnOK 75 F_clone_rel := clone_inst lays_clone_rel (by kernel_rfl) (hasBody_of Try.func75 (by kernel_rfl) (by kernel_rfl))

def ren_clone_agg : Ren := ⟨fun | 41 => 89 | n => n, fun | 4 => 4 | 22 => 58 | 23 => 91 | n => n, fun | n => n⟩
theorem lays_clone_agg : SlLaysE0.n41 Try.prog ren_clone_agg := {
  mixed := by kernel_rfl
  f41 := ⟨Try.f89.name, by kernel_rfl, Try.func89.trans (congrArg some (by kernel_rfl))⟩
  t4 := Try.underlying4
  a4 := Try.isAgg4
  z4 := Try.sizeOf4
  v4 := Try.zeroValue4
  t22 := Try.underlying58
  a22 := Try.isAgg58
  z22 := Try.sizeOf58
  v22 := Try.zeroValue58 }
def F_clone_agg : FnC Un := F_clone .agg
theorem ok_clone_agg : FnOK 89 F_clone_agg := clone_inst lays_clone_agg (by kernel_rfl) (hasBody_of Try.func89 (by kernel_rfl) (by kernel_rfl))

end Go.Proofs.Ytaepcbdcjbfgjaa.B
