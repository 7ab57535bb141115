/- Part 12 of the proof: Shelf Lbuild Sspec Lkeyt Lkeyg Lgrpb Lscalar Lcompare Lord. -/
import Derived.Shelf.Strings.Builder1
import Derived.Shelf.Small.Bits
import Derived.Shelf.Small.Strs
import Derived.Shelf.Small.Wraps
import Derived.Shelf.Strings.BuilderF
import Derived.Shelf.Strings.BuilderK
import Derived.Shelf.Strconv.Itoa0
import Derived.Shelf.Strconv.Itoa1
import Derived.Shelf.LaysM
import Derived.Shelf.Strconv.Itoa2
import Derived.Shelf.Strconv.Itoa3
import Derived.Shelf.Strings.BuilderCap
import Derived.Ground.Names2Prog
import Derived.Shelf.Slices.SearchI
import Derived.Ground.SlsfProg
import Derived.Shelf.SlSortCmp.Insertion
import Derived.Shelf.SlSortCmp.InsertionK
import Derived.Shelf.SlSortCmp.SiftDownK
import Derived.Shelf.SlSortCmp.HeapSortK
import Derived.Shelf.SlSortCmp.MedianK
import Derived.Shelf.SlSortCmp.PivotK
import Derived.Shelf.SlSortCmp.ReverseRangeK
import Derived.Shelf.SlSortCmp.PartialInsertionK
import Derived.Shelf.SlSortCmp.PartitionEqualK
import Derived.Shelf.SlSortCmp.PartitionK
import Derived.Shelf.SlSortCmp.PdqK
import Derived.Shelf.SlSortCmp.WholeK
import Derived.Shelf.SlSortCmp.SiftDown1
import Derived.Shelf.SlSortCmp.HeapSort1
import Derived.Shelf.SlSortCmp.Insertion1
import Derived.Shelf.SlSortCmp.Median1
import Derived.Shelf.SlSortCmp.Pivot1
import Derived.Shelf.SlSortCmp.ReverseRange1
import Derived.Shelf.SlSortCmp.PartialInsertion1
import Derived.Shelf.SlSortCmp.PartitionEqual1
import Derived.Shelf.SlSortCmp.Partition1
import Derived.Shelf.SlSortCmp.Pdq1
import Derived.Shelf.SlSortCmp.Whole1
import Derived.Shelf.SlSortCmp.NoneTotal
import Derived.Test.YtcmfdbjdbbpomaaDoorProg
import Derived.Lib.ItoaLen
import Derived.Deep.RegionHeld3
import Derived.Lib.OthersKept
import Derived.Lib.AppendIntMem
import Derived.Laws.Concat
import Derived.Lib.Bytealg
import Derived.Lib.Strings
import Derived.Lib.Walk
import Derived.Sort.Grow
import Derived.Test.YtcmfdbjdbbpomaaDoorJla11
namespace Go.Proofs
open Go.Shelf
def Tryd.lays169_ren : Go.Shelf.Ren := ⟨fun | 169 => 34 | n => n, fun | 70 => 56 | 9 => 9 | 0 => 0 | 72 => 59 | 37 => 57 | 127 => 75 | 3 => 3 | 5 => 5 | n => n, fun | n => n⟩
theorem Tryd.lays169 : Go.Proofs.Lays.n169 Tryd.prog Tryd.lays169_ren := {
  mixed := by kernel_rfl
  f169 := Tryd.func34.trans (congrArg some (by kernel_rfl))
  t0 := Tryd.underlying0
  a0 := Tryd.isAgg0
  z0 := Tryd.sizeOf0
  v0 := Tryd.zeroValue0
  t3 := Tryd.underlying3
  a3 := Tryd.isAgg3
  z3 := Tryd.sizeOf3
  v3 := Tryd.zeroValue3
  t9 := Tryd.underlying9
  a9 := Tryd.isAgg9
  z9 := Tryd.sizeOf9
  v9 := Tryd.zeroValue9
  t37 := Tryd.underlying57
  a37 := Tryd.isAgg57
  z37 := Tryd.sizeOf57
  v37 := Tryd.zeroValue57
  t70 := Tryd.underlying56
  a70 := Tryd.isAgg56
  z70 := Tryd.sizeOf56
  v70 := Tryd.zeroValue56
  t72 := Tryd.underlying59
  a72 := Tryd.isAgg59
  z72 := Tryd.sizeOf59
  v72 := Tryd.zeroValue59
  t127 := Tryd.underlying75
  a127 := Tryd.isAgg75
  z127 := Tryd.sizeOf75
  v127 := Tryd.zeroValue75 }
theorem Tryd.Builder_Extra_169 : Builder.Extra Tryd.prog Tryd.lays169_ren := {
  sizeBuilder := by kernel_rfl
  liesBuilder := by kernel_rfl
  t5 := Tryd.underlying5
  a5 := Tryd.isAgg5
  z5 := Tryd.sizeOf5
  v5 := Tryd.zeroValue5
  infoByte := by kernel_rfl
  cellsByte := by kernel_rfl
  sizeByte := by kernel_rfl
  neB5 := by decide }
def Tryd.lays106_ren : Go.Shelf.Ren := ⟨fun | 106 => 40 | 213 => 57 | 265 => 74 | n => n, fun | 9 => 9 | 3 => 3 | n => n, fun | n => n⟩
theorem Tryd.lays106 : Go.Proofs.Lays.n106 Tryd.prog Tryd.lays106_ren := {
  mixed := by kernel_rfl
  f106 := Tryd.func40.trans (congrArg some (by kernel_rfl))
  f213 := Tryd.func57.trans (congrArg some (by kernel_rfl))
  f265 := Tryd.func74.trans (congrArg some (by kernel_rfl))
  t3 := Tryd.underlying3
  a3 := Tryd.isAgg3
  z3 := Tryd.sizeOf3
  v3 := Tryd.zeroValue3
  t9 := Tryd.underlying9
  a9 := Tryd.isAgg9
  z9 := Tryd.sizeOf9
  v9 := Tryd.zeroValue9 }
open Go.RowKit in
theorem Tryd.strings_Compare (a b : ByteArray) (w : World) :
    Calls Tryd.prog 40 #[.string a, .string b] w fun e w' => e = .returned (.int .i64 (Lib.compareBytes a.data.toList b.data.toList)) ∧ w' = w := Any.strings_Compare Tryd.lays106 a b w
def Tryd.lays122_ren : Go.Shelf.Ren := ⟨fun | 122 => 25 | 215 => 39 | n => n, fun | 3 => 3 | 4 => 4 | n => n, fun | n => n⟩
theorem Tryd.lays122 : Go.Proofs.Lays.n122 Tryd.prog Tryd.lays122_ren := {
  mixed := by kernel_rfl
  f122 := Tryd.func25.trans (congrArg some (by kernel_rfl))
  f215 := Tryd.func39.trans (congrArg some (by kernel_rfl))
  t3 := Tryd.underlying3
  a3 := Tryd.isAgg3
  z3 := Tryd.sizeOf3
  v3 := Tryd.zeroValue3
  t4 := Tryd.underlying4
  a4 := Tryd.isAgg4
  z4 := Tryd.sizeOf4
  v4 := Tryd.zeroValue4 }
open Go.RowKit in
theorem Tryd.cmp_Compare_int (x y : Int) (w : World) :
    Calls Tryd.prog 25 #[.int .i64 x, .int .i64 y] w fun e w' => e = .returned (.int .i64 (Lib.compareInt x y)) ∧ w' = w := Any.cmp_Compare_int Tryd.lays122 x y w
open Go.RowKit in
theorem Tryd.Builder_String_any_k (B b : Nat) (l : List UInt8) (w : World) (h : Lib.IsBuilderF 59 5 B b (Lib.byteCells l) w) (hBw : B ≤ w.heap.size) :
    Calls Tryd.prog 34 #[.pointer (some ⟨b, 0, none⟩)] w fun e w' => e = .returned (.string ⟨l.toArray⟩) ∧ (Lib.IsBuilderF 59 5 B b (Lib.byteCells l) w' ∧ Below B w w' ∧ Lib.OthersKept 5 (some b) w w') := Any.Builder_String_any_k Tryd.lays169 Tryd.Builder_Extra_169 B b l w h hBw
def Tryd.laysM171_ren : Go.Shelf.Ren := ⟨fun | 171 => 32 | 243 => 45 | 246 => 60 | 283 => 75 | 284 => 76 | 285 => 77 | 286 => 78 | 129 => 56 | 317 => 83 | 318 => 84 | 319 => 85 | 320 => 86 | 337 => 88 | 338 => 89 | n => n, fun | 3 => 3 | 9 => 9 | 2 => 2 | 4 => 4 | 171 => 103 | 0 => 0 | 53 => 88 | 37 => 57 | 5 => 5 | 173 => 105 | 212 => 114 | 51 => 86 | 20 => 20 | 213 => 115 | 46 => 71 | 232 => 117 | 233 => 118 | n => n, fun | 17 => 1 | 18 => 2 | 19 => 3 | n => n⟩
theorem Tryd.laysM171 : Go.Proofs.LaysM.n171 Tryd.prog Tryd.laysM171_ren := {
  mixed := by kernel_rfl
  f129 := Tryd.func56.trans (congrArg some (by kernel_rfl))
  f171 := Tryd.func32.trans (congrArg some (by kernel_rfl))
  f243 := Tryd.func45.trans (congrArg some (by kernel_rfl))
  f246 := Tryd.func60.trans (congrArg some (by kernel_rfl))
  f283 := Tryd.func75.trans (congrArg some (by kernel_rfl))
  f284 := Tryd.func76.trans (congrArg some (by kernel_rfl))
  f285 := Tryd.func77.trans (congrArg some (by kernel_rfl))
  f286 := Tryd.func78.trans (congrArg some (by kernel_rfl))
  f317 := Tryd.func83.trans (congrArg some (by kernel_rfl))
  f318 := Tryd.func84.trans (congrArg some (by kernel_rfl))
  f319 := Tryd.func85.trans (congrArg some (by kernel_rfl))
  f320 := Tryd.func86.trans (congrArg some (by kernel_rfl))
  f337 := Tryd.func88.trans (congrArg some (by kernel_rfl))
  f338 := Tryd.func89.trans (congrArg some (by kernel_rfl))
  t0 := Tryd.underlying0
  a0 := Tryd.isAgg0
  z0 := Tryd.sizeOf0
  v0 := Tryd.zeroValue0
  t2 := Tryd.underlying2
  a2 := Tryd.isAgg2
  z2 := Tryd.sizeOf2
  v2 := Tryd.zeroValue2
  t3 := Tryd.underlying3
  a3 := Tryd.isAgg3
  z3 := Tryd.sizeOf3
  v3 := Tryd.zeroValue3
  t4 := Tryd.underlying4
  a4 := Tryd.isAgg4
  z4 := Tryd.sizeOf4
  v4 := Tryd.zeroValue4
  t5 := Tryd.underlying5
  a5 := Tryd.isAgg5
  z5 := Tryd.sizeOf5
  v5 := Tryd.zeroValue5
  t9 := Tryd.underlying9
  a9 := Tryd.isAgg9
  z9 := Tryd.sizeOf9
  v9 := Tryd.zeroValue9
  t20 := Tryd.underlying20
  a20 := Tryd.isAgg20
  z20 := Tryd.sizeOf20
  v20 := Tryd.zeroValue20
  t37 := Tryd.underlying57
  a37 := Tryd.isAgg57
  z37 := Tryd.sizeOf57
  v37 := Tryd.zeroValue57
  t46 := Tryd.underlying71
  a46 := Tryd.isAgg71
  z46 := Tryd.sizeOf71
  v46 := Tryd.zeroValue71
  t51 := Tryd.underlying86
  a51 := Tryd.isAgg86
  z51 := Tryd.sizeOf86
  v51 := Tryd.zeroValue86
  t53 := Tryd.underlying88
  a53 := Tryd.isAgg88
  z53 := Tryd.sizeOf88
  v53 := Tryd.zeroValue88
  t171 := Tryd.underlying103
  a171 := Tryd.isAgg103
  z171 := Tryd.sizeOf103
  v171 := Tryd.zeroValue103
  t173 := Tryd.underlying105
  a173 := Tryd.isAgg105
  z173 := Tryd.sizeOf105
  v173 := Tryd.zeroValue105
  t212 := Tryd.underlying114
  a212 := Tryd.isAgg114
  z212 := Tryd.sizeOf114
  v212 := Tryd.zeroValue114
  t213 := Tryd.underlying115
  a213 := Tryd.isAgg115
  z213 := Tryd.sizeOf115
  t232 := Tryd.underlying117
  a232 := Tryd.isAgg117
  z232 := Tryd.sizeOf117
  v232 := Tryd.zeroValue117
  t233 := Tryd.underlying118
  a233 := Tryd.isAgg118
  z233 := Tryd.sizeOf118
  v233 := Tryd.zeroValue118
  g17 := by kernel_rfl
  g18 := by kernel_rfl
  g19 := by kernel_rfl
  i0 := by kernel_rfl
  i2 := by kernel_rfl
  i3 := by kernel_rfl
  i4 := by kernel_rfl
  i5 := by kernel_rfl
  i9 := by kernel_rfl
  i20 := by kernel_rfl
  i37 := by kernel_rfl
  i46 := by kernel_rfl
  i51 := by kernel_rfl
  i53 := by kernel_rfl
  i171 := by kernel_rfl
  i173 := by kernel_rfl
  i212 := by kernel_rfl
  i232 := by kernel_rfl
  i233 := by kernel_rfl
  m17 := by kernel_rfl
  m18 := by kernel_rfl
  m19 := by kernel_rfl }
open Go.RowKit Go.Sort Go.Lib in
theorem Tryd.strconv_Itoa (n : Int) (h0 : -9223372036854775808 ≤ n) (h1 : n ≤ 9223372036854775807) (w : World) (htab : Lib.TabIs Tryd.prog w "internal/strconv.uint64pow10" .u64 Lib.pow10Tab) :
    Calls Tryd.prog 32 #[.int .i64 n] w fun e w' => e = .returned (.string ⟨(Lib.itoa n).toArray⟩) ∧ ∃ k os, w' = grow (w.drewN k) os := Any.strconv_Itoa Tryd.laysM171 n h0 h1 w htab
def Tryd.laysSlF06_f22_ren : Go.Shelf.Ren := ⟨fun | 6 => 22 | 15 => 38 | 14 => 37 | 28 => 55 | 29 => 56 | 20 => 47 | 21 => 48 | 22 => 49 | 23 => 50 | 24 => 51 | 25 => 52 | 26 => 53 | 27 => 54 | 46 => 69 | 47 => 70 | 48 => 71 | 49 => 72 | 50 => 73 | 57 => 82 | n => n, fun | 22 => 24 | 24 => 32 | 25 => 50 | 3 => 3 | 39 => 71 | 0 => 0 | 53 => 86 | 55 => 88 | 4 => 4 | 46 => 79 | 45 => 78 | 50 => 83 | 5 => 5 | 9 => 9 | 66 => 97 | 70 => 101 | 76 => 109 | 77 => 110 | n => n, fun | n => n⟩
theorem Tryd.laysSlF06_f22 : Go.Proofs.SlLaysF0.n6 Tryd.prog Tryd.laysSlF06_f22_ren := {
  mixed := by kernel_rfl
  f6 := ⟨Tryd.f22.name, by decide, Tryd.func22.trans (congrArg some (by kernel_rfl))⟩
  f14 := ⟨Tryd.f37.name, by decide, Tryd.func37.trans (congrArg some (by kernel_rfl))⟩
  f15 := Tryd.func38.trans (congrArg some (by kernel_rfl))
  f20 := ⟨Tryd.f47.name, by decide, Tryd.func47.trans (congrArg some (by kernel_rfl))⟩
  f21 := ⟨Tryd.f48.name, by decide, Tryd.func48.trans (congrArg some (by kernel_rfl))⟩
  f22 := ⟨Tryd.f49.name, by decide, Tryd.func49.trans (congrArg some (by kernel_rfl))⟩
  f23 := ⟨Tryd.f50.name, by decide, Tryd.func50.trans (congrArg some (by kernel_rfl))⟩
  f24 := ⟨Tryd.f51.name, by decide, Tryd.func51.trans (congrArg some (by kernel_rfl))⟩
  f25 := ⟨Tryd.f52.name, by decide, Tryd.func52.trans (congrArg some (by kernel_rfl))⟩
  f26 := ⟨Tryd.f53.name, by decide, Tryd.func53.trans (congrArg some (by kernel_rfl))⟩
  f27 := ⟨Tryd.f54.name, by decide, Tryd.func54.trans (congrArg some (by kernel_rfl))⟩
  f28 := Tryd.func55.trans (congrArg some (by kernel_rfl))
  f29 := Tryd.func56.trans (congrArg some (by kernel_rfl))
  f46 := ⟨Tryd.f69.name, by decide, Tryd.func69.trans (congrArg some (by kernel_rfl))⟩
  f47 := Tryd.func70.trans (congrArg some (by kernel_rfl))
  f48 := Tryd.func71.trans (congrArg some (by kernel_rfl))
  f49 := ⟨Tryd.f72.name, by decide, Tryd.func72.trans (congrArg some (by kernel_rfl))⟩
  f50 := ⟨Tryd.f73.name, by decide, Tryd.func73.trans (congrArg some (by kernel_rfl))⟩
  f57 := ⟨Tryd.f82.name, by decide, Tryd.func82.trans (congrArg some (by kernel_rfl))⟩
  t0 := Tryd.underlying0
  a0 := Tryd.isAgg0
  z0 := Tryd.sizeOf0
  v0 := Tryd.zeroValue0
  t3 := Tryd.underlying3
  a3 := Tryd.isAgg3
  z3 := Tryd.sizeOf3
  v3 := Tryd.zeroValue3
  t4 := Tryd.underlying4
  a4 := Tryd.isAgg4
  z4 := Tryd.sizeOf4
  v4 := Tryd.zeroValue4
  t5 := Tryd.underlying5
  a5 := Tryd.isAgg5
  z5 := Tryd.sizeOf5
  v5 := Tryd.zeroValue5
  t9 := Tryd.underlying9
  a9 := Tryd.isAgg9
  z9 := Tryd.sizeOf9
  v9 := Tryd.zeroValue9
  t22 := Tryd.underlying24
  a22 := Tryd.isAgg24
  z22 := Tryd.sizeOf24
  v22 := Tryd.zeroValue24
  t25 := Tryd.underlying50
  a25 := Tryd.isAgg50
  z25 := Tryd.sizeOf50
  v25 := Tryd.zeroValue50
  t39 := Tryd.underlying71
  a39 := Tryd.isAgg71
  z39 := Tryd.sizeOf71
  v39 := Tryd.zeroValue71
  t45 := Tryd.underlying78
  a45 := Tryd.isAgg78
  z45 := Tryd.sizeOf78
  v45 := Tryd.zeroValue78
  t46 := Tryd.underlying79
  a46 := Tryd.isAgg79
  z46 := Tryd.sizeOf79
  v46 := Tryd.zeroValue79
  t50 := Tryd.underlying83
  a50 := Tryd.isAgg83
  z50 := Tryd.sizeOf83
  v50 := Tryd.zeroValue83
  t53 := Tryd.underlying86
  a53 := Tryd.isAgg86
  z53 := Tryd.sizeOf86
  v53 := Tryd.zeroValue86
  t55 := Tryd.underlying88
  a55 := Tryd.isAgg88
  z55 := Tryd.sizeOf88
  v55 := Tryd.zeroValue88
  t66 := Tryd.underlying97
  a66 := Tryd.isAgg97
  z66 := Tryd.sizeOf97
  v66 := Tryd.zeroValue97
  t70 := Tryd.underlying101
  a70 := Tryd.isAgg101
  z70 := Tryd.sizeOf101
  v70 := Tryd.zeroValue101
  t76 := Tryd.underlying109
  a76 := Tryd.isAgg109
  z76 := Tryd.sizeOf109
  v76 := Tryd.zeroValue109
  t77 := Tryd.underlying110
  a77 := Tryd.isAgg110
  z77 := Tryd.sizeOf110
  v77 := Tryd.zeroValue110 }
def Tryd.laysSlF6_f35_ren : Go.Shelf.Ren := ⟨fun | 6 => 35 | 15 => 38 | 14 => 46 | 28 => 55 | 29 => 56 | 20 => 61 | 21 => 62 | 22 => 63 | 23 => 64 | 24 => 65 | 25 => 66 | 26 => 67 | 27 => 68 | 46 => 79 | 47 => 70 | 48 => 71 | 49 => 80 | 50 => 81 | 57 => 87 | n => n, fun | 22 => 29 | 24 => 3 | 25 => 49 | 3 => 3 | 39 => 71 | 0 => 0 | 53 => 86 | 55 => 88 | 4 => 4 | 46 => 79 | 45 => 78 | 50 => 83 | 5 => 5 | 9 => 9 | 66 => 97 | 70 => 101 | 76 => 109 | 77 => 110 | n => n, fun | n => n⟩
theorem Tryd.laysSlF6_f35 : Go.Proofs.SlLaysF.n6 Tryd.prog Tryd.laysSlF6_f35_ren := {
  mixed := by kernel_rfl
  f6 := ⟨Tryd.f35.name, by decide, Tryd.func35.trans (congrArg some (by kernel_rfl))⟩
  f14 := ⟨Tryd.f46.name, by decide, Tryd.func46.trans (congrArg some (by kernel_rfl))⟩
  f15 := Tryd.func38.trans (congrArg some (by kernel_rfl))
  f20 := ⟨Tryd.f61.name, by decide, Tryd.func61.trans (congrArg some (by kernel_rfl))⟩
  f21 := ⟨Tryd.f62.name, by decide, Tryd.func62.trans (congrArg some (by kernel_rfl))⟩
  f22 := ⟨Tryd.f63.name, by decide, Tryd.func63.trans (congrArg some (by kernel_rfl))⟩
  f23 := ⟨Tryd.f64.name, by decide, Tryd.func64.trans (congrArg some (by kernel_rfl))⟩
  f24 := ⟨Tryd.f65.name, by decide, Tryd.func65.trans (congrArg some (by kernel_rfl))⟩
  f25 := ⟨Tryd.f66.name, by decide, Tryd.func66.trans (congrArg some (by kernel_rfl))⟩
  f26 := ⟨Tryd.f67.name, by decide, Tryd.func67.trans (congrArg some (by kernel_rfl))⟩
  f27 := ⟨Tryd.f68.name, by decide, Tryd.func68.trans (congrArg some (by kernel_rfl))⟩
  f28 := Tryd.func55.trans (congrArg some (by kernel_rfl))
  f29 := Tryd.func56.trans (congrArg some (by kernel_rfl))
  f46 := ⟨Tryd.f79.name, by decide, Tryd.func79.trans (congrArg some (by kernel_rfl))⟩
  f47 := Tryd.func70.trans (congrArg some (by kernel_rfl))
  f48 := Tryd.func71.trans (congrArg some (by kernel_rfl))
  f49 := ⟨Tryd.f80.name, by decide, Tryd.func80.trans (congrArg some (by kernel_rfl))⟩
  f50 := ⟨Tryd.f81.name, by decide, Tryd.func81.trans (congrArg some (by kernel_rfl))⟩
  f57 := ⟨Tryd.f87.name, by decide, Tryd.func87.trans (congrArg some (by kernel_rfl))⟩
  t0 := Tryd.underlying0
  a0 := Tryd.isAgg0
  z0 := Tryd.sizeOf0
  v0 := Tryd.zeroValue0
  t3 := Tryd.underlying3
  a3 := Tryd.isAgg3
  z3 := Tryd.sizeOf3
  v3 := Tryd.zeroValue3
  t4 := Tryd.underlying4
  a4 := Tryd.isAgg4
  z4 := Tryd.sizeOf4
  v4 := Tryd.zeroValue4
  t5 := Tryd.underlying5
  a5 := Tryd.isAgg5
  z5 := Tryd.sizeOf5
  v5 := Tryd.zeroValue5
  t9 := Tryd.underlying9
  a9 := Tryd.isAgg9
  z9 := Tryd.sizeOf9
  v9 := Tryd.zeroValue9
  t22 := Tryd.underlying29
  a22 := Tryd.isAgg29
  z22 := Tryd.sizeOf29
  v22 := Tryd.zeroValue29
  a24 := Tryd.isAgg3
  z24 := Tryd.sizeOf3
  t25 := Tryd.underlying49
  a25 := Tryd.isAgg49
  z25 := Tryd.sizeOf49
  v25 := Tryd.zeroValue49
  t39 := Tryd.underlying71
  a39 := Tryd.isAgg71
  z39 := Tryd.sizeOf71
  v39 := Tryd.zeroValue71
  t45 := Tryd.underlying78
  a45 := Tryd.isAgg78
  z45 := Tryd.sizeOf78
  v45 := Tryd.zeroValue78
  t46 := Tryd.underlying79
  a46 := Tryd.isAgg79
  z46 := Tryd.sizeOf79
  v46 := Tryd.zeroValue79
  t50 := Tryd.underlying83
  a50 := Tryd.isAgg83
  z50 := Tryd.sizeOf83
  v50 := Tryd.zeroValue83
  t53 := Tryd.underlying86
  a53 := Tryd.isAgg86
  z53 := Tryd.sizeOf86
  v53 := Tryd.zeroValue86
  t55 := Tryd.underlying88
  a55 := Tryd.isAgg88
  z55 := Tryd.sizeOf88
  v55 := Tryd.zeroValue88
  t66 := Tryd.underlying97
  a66 := Tryd.isAgg97
  z66 := Tryd.sizeOf97
  v66 := Tryd.zeroValue97
  t70 := Tryd.underlying101
  a70 := Tryd.isAgg101
  z70 := Tryd.sizeOf101
  v70 := Tryd.zeroValue101
  t76 := Tryd.underlying109
  a76 := Tryd.isAgg109
  z76 := Tryd.sizeOf109
  v76 := Tryd.zeroValue109
  t77 := Tryd.underlying110
  a77 := Tryd.isAgg110
  z77 := Tryd.sizeOf110
  v77 := Tryd.zeroValue110 }
open Go.RowKit Go.Lib Go.Sort in
theorem Tryd.slices_SortFunc_none_f22 {α : Type} [Inhabited α] (p : Option Addr) (cap : Nat) (fv : Value) (w : World) :
    Calls Tryd.prog 22 #[.slice p 0 cap, fv] w fun e w' => e = .returned (.tuple #[]) ∧ w' = w := AnyF.slices_SortFunc_none Tryd.laysSlF06_f22 p cap fv w
def Tryd.laysSlF06_f35_ren : Go.Shelf.Ren := ⟨fun | 6 => 35 | 15 => 38 | 14 => 46 | 28 => 55 | 29 => 56 | 20 => 61 | 21 => 62 | 22 => 63 | 23 => 64 | 24 => 65 | 25 => 66 | 26 => 67 | 27 => 68 | 46 => 79 | 47 => 70 | 48 => 71 | 49 => 80 | 50 => 81 | 57 => 87 | n => n, fun | 22 => 29 | 24 => 3 | 25 => 49 | 3 => 3 | 39 => 71 | 0 => 0 | 53 => 86 | 55 => 88 | 4 => 4 | 46 => 79 | 45 => 78 | 50 => 83 | 5 => 5 | 9 => 9 | 66 => 97 | 70 => 101 | 76 => 109 | 77 => 110 | n => n, fun | n => n⟩
theorem Tryd.laysSlF06_f35 : Go.Proofs.SlLaysF0.n6 Tryd.prog Tryd.laysSlF06_f35_ren := {
  mixed := by kernel_rfl
  f6 := ⟨Tryd.f35.name, by decide, Tryd.func35.trans (congrArg some (by kernel_rfl))⟩
  f14 := ⟨Tryd.f46.name, by decide, Tryd.func46.trans (congrArg some (by kernel_rfl))⟩
  f15 := Tryd.func38.trans (congrArg some (by kernel_rfl))
  f20 := ⟨Tryd.f61.name, by decide, Tryd.func61.trans (congrArg some (by kernel_rfl))⟩
  f21 := ⟨Tryd.f62.name, by decide, Tryd.func62.trans (congrArg some (by kernel_rfl))⟩
  f22 := ⟨Tryd.f63.name, by decide, Tryd.func63.trans (congrArg some (by kernel_rfl))⟩
  f23 := ⟨Tryd.f64.name, by decide, Tryd.func64.trans (congrArg some (by kernel_rfl))⟩
  f24 := ⟨Tryd.f65.name, by decide, Tryd.func65.trans (congrArg some (by kernel_rfl))⟩
  f25 := ⟨Tryd.f66.name, by decide, Tryd.func66.trans (congrArg some (by kernel_rfl))⟩
  f26 := ⟨Tryd.f67.name, by decide, Tryd.func67.trans (congrArg some (by kernel_rfl))⟩
  f27 := ⟨Tryd.f68.name, by decide, Tryd.func68.trans (congrArg some (by kernel_rfl))⟩
  f28 := Tryd.func55.trans (congrArg some (by kernel_rfl))
  f29 := Tryd.func56.trans (congrArg some (by kernel_rfl))
  f46 := ⟨Tryd.f79.name, by decide, Tryd.func79.trans (congrArg some (by kernel_rfl))⟩
  f47 := Tryd.func70.trans (congrArg some (by kernel_rfl))
  f48 := Tryd.func71.trans (congrArg some (by kernel_rfl))
  f49 := ⟨Tryd.f80.name, by decide, Tryd.func80.trans (congrArg some (by kernel_rfl))⟩
  f50 := ⟨Tryd.f81.name, by decide, Tryd.func81.trans (congrArg some (by kernel_rfl))⟩
  f57 := ⟨Tryd.f87.name, by decide, Tryd.func87.trans (congrArg some (by kernel_rfl))⟩
  t0 := Tryd.underlying0
  a0 := Tryd.isAgg0
  z0 := Tryd.sizeOf0
  v0 := Tryd.zeroValue0
  t3 := Tryd.underlying3
  a3 := Tryd.isAgg3
  z3 := Tryd.sizeOf3
  v3 := Tryd.zeroValue3
  t4 := Tryd.underlying4
  a4 := Tryd.isAgg4
  z4 := Tryd.sizeOf4
  v4 := Tryd.zeroValue4
  t5 := Tryd.underlying5
  a5 := Tryd.isAgg5
  z5 := Tryd.sizeOf5
  v5 := Tryd.zeroValue5
  t9 := Tryd.underlying9
  a9 := Tryd.isAgg9
  z9 := Tryd.sizeOf9
  v9 := Tryd.zeroValue9
  t22 := Tryd.underlying29
  a22 := Tryd.isAgg29
  z22 := Tryd.sizeOf29
  v22 := Tryd.zeroValue29
  t25 := Tryd.underlying49
  a25 := Tryd.isAgg49
  z25 := Tryd.sizeOf49
  v25 := Tryd.zeroValue49
  t39 := Tryd.underlying71
  a39 := Tryd.isAgg71
  z39 := Tryd.sizeOf71
  v39 := Tryd.zeroValue71
  t45 := Tryd.underlying78
  a45 := Tryd.isAgg78
  z45 := Tryd.sizeOf78
  v45 := Tryd.zeroValue78
  t46 := Tryd.underlying79
  a46 := Tryd.isAgg79
  z46 := Tryd.sizeOf79
  v46 := Tryd.zeroValue79
  t50 := Tryd.underlying83
  a50 := Tryd.isAgg83
  z50 := Tryd.sizeOf83
  v50 := Tryd.zeroValue83
  t53 := Tryd.underlying86
  a53 := Tryd.isAgg86
  z53 := Tryd.sizeOf86
  v53 := Tryd.zeroValue86
  t55 := Tryd.underlying88
  a55 := Tryd.isAgg88
  z55 := Tryd.sizeOf88
  v55 := Tryd.zeroValue88
  t66 := Tryd.underlying97
  a66 := Tryd.isAgg97
  z66 := Tryd.sizeOf97
  v66 := Tryd.zeroValue97
  t70 := Tryd.underlying101
  a70 := Tryd.isAgg101
  z70 := Tryd.sizeOf101
  v70 := Tryd.zeroValue101
  t76 := Tryd.underlying109
  a76 := Tryd.isAgg109
  z76 := Tryd.sizeOf109
  v76 := Tryd.zeroValue109
  t77 := Tryd.underlying110
  a77 := Tryd.isAgg110
  z77 := Tryd.sizeOf110
  v77 := Tryd.zeroValue110 }
open Go.RowKit Go.Lib Go.Sort in
theorem Tryd.slices_SortFunc_none_f35 {α : Type} [Inhabited α] (p : Option Addr) (cap : Nat) (fv : Value) (w : World) :
    Calls Tryd.prog 35 #[.slice p 0 cap, fv] w fun e w' => e = .returned (.tuple #[]) ∧ w' = w := AnyF.slices_SortFunc_none Tryd.laysSlF06_f35 p cap fv w
open Go.RowKit Go.Lib Go.Sort in
theorem Tryd.slices_SortFunc_total {α : Type} [Inhabited α] (enc : α → Value) (h1 : OneCell enc) (cf : α → α → Int) (hO : SWO (ltOf cf)) (g : Nat) (cb : Array Value) (blk off cap : Nat) (d : Array α) (w : World) (eg : ∀ args w, (callFunc g args).run Tryd.prog w = .ok (.enter g args) w) (hcmp : CmpLays1 Tryd.prog g cb enc cf blk off d.size w) (hH : Holds enc w blk off d) (hblk : blk < w.heap.size) (hsz : d.size < 4611686018427387904) (hT : ∀ x y, (ltOf cf) x y = false → (ltOf cf) y x = false → x = y) :
    Calls Tryd.prog 35 #[.slice (some ⟨blk, off, none⟩) d.size cap, .func (.func g) #[] cb] w fun e w' =>
      e = .returned (.tuple #[]) ∧ ∃ n os, w' = sortWorld enc w blk off n (d.toList.mergeSort fun x y => !(ltOf cf) y x).toArray os := Any.slices_SortFunc_total Tryd.laysSlF6_f35 enc h1 cf hO g cb blk off cap d w eg hcmp hH hblk hsz hT
end Go.Proofs
namespace Go.Proofs.YtcmfdbjdbbpomaaDoor.B
open Go Go.RowKit Go.Shelf
set_option maxRecDepth 1000000
set_option linter.unusedVariables false
def ren_bs : Ren := ⟨fun | 166 => 31 | 240 => 44 | 276 => 59 | n => n, fun | 0 => 0 | 3 => 3 | 4 => 4 | 9 => 9 | 20 => 20 | 37 => 57 | 70 => 56 | 72 => 59 | 75 => 62 | 164 => 89 | 5 => 5 | 80 => 67 | n => n, fun | n => n⟩
theorem lays_bs : Lays.n166 Tryd.prog ren_bs := {
  mixed := by kernel_rfl
  f166 := Tryd.func31.trans (congrArg some (by kernel_rfl))
  f240 := Tryd.func44.trans (congrArg some (by kernel_rfl))
  f276 := Tryd.func59.trans (congrArg some (by kernel_rfl))
  t0 := Tryd.underlying0
  a0 := Tryd.isAgg0
  z0 := Tryd.sizeOf0
  v0 := Tryd.zeroValue0
  t3 := Tryd.underlying3
  a3 := Tryd.isAgg3
  z3 := Tryd.sizeOf3
  v3 := Tryd.zeroValue3
  t4 := Tryd.underlying4
  a4 := Tryd.isAgg4
  z4 := Tryd.sizeOf4
  v4 := Tryd.zeroValue4
  t9 := Tryd.underlying9
  a9 := Tryd.isAgg9
  z9 := Tryd.sizeOf9
  v9 := Tryd.zeroValue9
  t20 := Tryd.underlying20
  a20 := Tryd.isAgg20
  z20 := Tryd.sizeOf20
  v20 := Tryd.zeroValue20
  t37 := Tryd.underlying57
  a37 := Tryd.isAgg57
  z37 := Tryd.sizeOf57
  v37 := Tryd.zeroValue57
  t70 := Tryd.underlying56
  a70 := Tryd.isAgg56
  z70 := Tryd.sizeOf56
  v70 := Tryd.zeroValue56
  t72 := Tryd.underlying59
  a72 := Tryd.isAgg59
  z72 := Tryd.sizeOf59
  v72 := Tryd.zeroValue59
  t75 := Tryd.underlying62
  a75 := Tryd.isAgg62
  z75 := Tryd.sizeOf62
  v75 := Tryd.zeroValue62
  t164 := Tryd.underlying89
  a164 := Tryd.isAgg89
  z164 := Tryd.sizeOf89
  v164 := Tryd.zeroValue89 }
theorem extra_bs : Builder.Extra Tryd.prog ren_bs := {
  sizeBuilder := by kernel_rfl
  liesBuilder := by kernel_rfl
  t5 := Tryd.underlying5
  a5 := Tryd.isAgg5
  z5 := Tryd.sizeOf5
  v5 := Tryd.zeroValue5
  infoByte := by kernel_rfl
  cellsByte := by kernel_rfl
  sizeByte := by kernel_rfl
  neB5 := by decide }
theorem writeString (B b : Nat) (bs : List Value) (s : ByteArray) (w : World) (h : Lib.IsBuilderF 59 5 B b bs w) (hlen : bs.length + s.size ≤ 140737488355328) (hBw : B ≤ w.heap.size) :
    Calls Tryd.prog 31 #[.pointer (some ⟨b, 0, none⟩), .string s] w fun e w' => e = .returned (.tuple #[.int .i64 s.size, .nilIface]) ∧ (Lib.BuilderAtF 59 5 B b (.pointer (some ⟨b, 0, none⟩)) (bs ++ Lib.strCells s) w' ∧ Below B w w' ∧ Lib.OthersKept 5 (some b) w w') :=
  Any.Builder_WriteString_k lays_bs extra_bs B b bs s w h hlen hBw
end Go.Proofs.YtcmfdbjdbbpomaaDoor.B
namespace Go.Proofs.YtcmfdbjdbbpomaaDoor.B
open Go Go.RowKit
set_option maxRecDepth 100000
noncomputable section
attribute [local irreducible] awp ctxK itersK iterK retQ retGQ
def inN (n : Int) : Bool := decide (-1000000000000000 ≤ n ∧ n ≤ 1000000000000000)
def plainB (s : ByteArray) : Bool := s.toList.all (fun b => decide (32 ≤ b.toNat ∧ b.toNat ≤ 126)) && decide (s.size ≤ 100)
def rightV (v : Val) : Bool :=
  if v.kind = 0 then decide (v.n = 0) && decide (v.s.size = 0)
  else if v.kind = 1 then decide (v.n = 0 ∨ v.n = 1) && decide (v.s.size = 0)
  else if v.kind = 2 then inN v.n && decide (v.s.size = 0)
  else if v.kind = 3 then decide (v.n = 0) && plainB v.s
  else false
def cmpI (a b : Int) : Int := if a < b then -1 else if a > b then 1 else 0
def cmpL : List UInt8 → List UInt8 → Int
  | [], [] => 0
  | [], _ :: _ => -1
  | _ :: _, [] => 1
  | a :: l, b :: r => if a = b then cmpL l r else cmpI a.toNat b.toNat
def cmpS (a b : ByteArray) : Int := cmpL a.toList b.toList
def ordV (a b : Val) : Int := if a.kind = b.kind then (if a.n = b.n then cmpS a.s b.s else cmpI a.n b.n) else cmpI a.kind b.kind
def ordR : List Val → List Val → Int
  | [], [] => 0
  | [], _ :: _ => -1
  | _ :: _, [] => 1
  | a :: l, b :: r => if ordV a b = 0 then ordR l r else ordV a b
theorem toList_size (s : ByteArray) : s.toList.length = s.size := by rw [ByteArray.toList_eq, Array.length_toList]; rfl
theorem bytes_ext {a b : ByteArray} (h : a.toList = b.toList) : a = b := by
  rw [ByteArray.toList_eq, ByteArray.toList_eq] at h
  cases a; cases b; simp at h; subst h; rfl
theorem cmpI_zero {a b : Int} : cmpI a b = 0 ↔ a = b := by
  unfold cmpI
  by_cases h1 : a < b
  · rw [if_pos h1]; omega
  · rw [if_neg h1]
    by_cases h2 : a > b
    · rw [if_pos h2]; omega
    · rw [if_neg h2]; omega
theorem cmpL_zero : ∀ {a b : List UInt8}, cmpL a b = 0 ↔ a = b
  | [], [] => by simp [cmpL]
  | [], _ :: _ => by simp [cmpL]
  | _ :: _, [] => by simp [cmpL]
  | a :: l, b :: r => by
    simp only [cmpL]
    split
    · rename_i h; subst h; rw [cmpL_zero]; simp
    · rename_i h
      rw [cmpI_zero]
      constructor
      · intro e; exact absurd (UInt8.toNat_inj.1 (Int.ofNat_inj.1 e)) h
      · intro e; simp at e; exact absurd e.1 h
theorem cmpS_zero {a b : ByteArray} : cmpS a b = 0 ↔ a = b := by
  unfold cmpS; rw [cmpL_zero]
  exact ⟨bytes_ext, fun h => by rw [h]⟩
theorem ordV_zero {a b : Val} : ordV a b = 0 ↔ a = b := by
  cases a; cases b
  unfold ordV
  simp only
  split
  · split
    · rename_i h1 h2; subst h1; subst h2; rw [cmpS_zero]; simp
    · rename_i h1 h2; rw [cmpI_zero]; simp [h2]
  · rename_i h1; rw [cmpI_zero]; simp [h1]
theorem ordR_zero : ∀ {a b : List Val}, ordR a b = 0 ↔ a = b
  | [], [] => by simp [ordR]
  | [], _ :: _ => by simp [ordR]
  | _ :: _, [] => by simp [ordR]
  | a :: l, b :: r => by
    simp only [ordR]
    split
    · rename_i h; rw [ordV_zero] at h; subst h; rw [ordR_zero]; simp
    · rename_i h
      constructor
      · intro e; exact absurd e h
      · intro e; simp at e; rw [e.1] at h; exact absurd (ordV_zero.2 rfl) h
end
end Go.Proofs.YtcmfdbjdbbpomaaDoor.B
namespace Go.Proofs.YtcmfdbjdbbpomaaDoor.B
open Go Go.RowKit
set_option linter.unusedVariables false
def dval (l : List UInt8) : Nat := l.foldl (fun a c => 10 * a + (c.toNat - 48)) 0
theorem dval_snoc (l : List UInt8) (c : UInt8) : dval (l ++ [c]) = 10 * dval l + (c.toNat - 48) := by unfold dval; rw [List.foldl_append]; rfl
theorem dig_toNat {u : Nat} (h : u < 10) : (UInt8.ofNat (48 + u)).toNat = 48 + u := by
  rw [UInt8.toNat_ofNat']; exact Nat.mod_eq_of_lt (by omega)
theorem dval_dec (u : Nat) : dval (Lib.decDigits u) = u ∧ ∀ c ∈ Lib.decDigits u, 48 ≤ c.toNat := by
  induction u using Nat.strongRecOn with
  | _ u ih =>
    by_cases h : u < 10
    · rw [Lib.decDigits, dif_pos h]
      refine ⟨?_, fun c hc => ?_⟩
      · unfold dval; simp only [List.foldl_cons, List.foldl_nil]; rw [dig_toNat h]; omega
      · rw [List.mem_singleton.1 hc, dig_toNat h]; omega
    · rw [Lib.decDigits, dif_neg h]
      obtain ⟨h1, h2⟩ := ih (u / 10) (by omega)
      refine ⟨?_, fun c hc => ?_⟩
      · rw [dval_snoc, h1, dig_toNat (by omega)]; omega
      · rcases List.mem_append.1 hc with hc | hc
        · exact h2 c hc
        · rw [List.mem_singleton.1 hc, dig_toNat (by omega)]; omega
theorem itoa_ne (n : Int) : ∀ c ∈ Lib.itoa n, c ≠ 32 := by
  have key : ∀ u, ∀ c ∈ Lib.decDigits u, c ≠ 32 := fun u c hc e => by
    have := (dval_dec u).2 c hc
    rw [e] at this; simp at this
  unfold Lib.itoa
  split
  · intro c hc
    rcases List.mem_cons.1 hc with rfl | hc
    · decide
    · exact key _ c hc
  · exact key _
theorem itoa_inj {n m : Int} (h : Lib.itoa n = Lib.itoa m) : n = m := by
  have k1 : ∀ u v, Lib.decDigits u = Lib.decDigits v → u = v := fun u v h => by rw [← (dval_dec u).1, ← (dval_dec v).1, h]
  have k2 : ∀ u, (45 : UInt8) ∉ Lib.decDigits u := fun u hm => by
    have := (dval_dec u).2 45 hm
    simp at this
  have k3 : ∀ u v, 45 :: Lib.decDigits u ≠ Lib.decDigits v := fun u v e => k2 v (by rw [← e]; exact List.mem_cons_self)
  unfold Lib.itoa at h
  split at h <;> split at h
  · have := k1 _ _ (List.cons.inj h).2; omega
  · exact (k3 _ _ h).elim
  · exact (k3 _ _ h.symm).elim
  · have := k1 _ _ h; omega
theorem split32 : ∀ {x x' y y' : List UInt8}, (∀ c ∈ x, c ≠ 32) → (∀ c ∈ x', c ≠ 32) → x ++ 32 :: y = x' ++ 32 :: y' → x = x' ∧ y = y'
  | [], [], y, y', _, _, h => ⟨rfl, (List.cons.inj h).2⟩
  | [], c :: x', y, y', _, h2, h => (h2 c List.mem_cons_self (List.cons.inj h).1.symm).elim
  | c :: x, [], y, y', h1, _, h => (h1 c List.mem_cons_self (List.cons.inj h).1).elim
  | c :: x, c' :: x', y, y', h1, h2, h => by
    obtain ⟨e1, e2⟩ := List.cons.inj h
    obtain ⟨r1, r2⟩ := split32 (fun d hd => h1 d (List.mem_cons_of_mem _ hd)) (fun d hd => h2 d (List.mem_cons_of_mem _ hd)) e2
    exact ⟨by rw [e1, r1], r2⟩
def valT (v : Val) : List UInt8 := Lib.itoa v.kind ++ 32 :: (Lib.itoa v.n ++ 32 :: (Lib.itoa (v.s.size : Int) ++ 32 :: v.s.data.toList))
def keyT : List Val → List UInt8
  | [] => []
  | v :: r => valT v ++ keyT r
theorem keyT_append : ∀ (a b : List Val), keyT (a ++ b) = keyT a ++ keyT b
  | [], _ => rfl
  | v :: a, b => by rw [List.cons_append, keyT, keyT, keyT_append a b, List.append_assoc]
theorem valT_inj {v v' : Val} {y y' : List UInt8} (h : valT v ++ y = valT v' ++ y') : v = v' ∧ y = y' := by
  unfold valT at h
  simp only [List.append_assoc, List.cons_append] at h
  obtain ⟨e1, h⟩ := split32 (itoa_ne _) (itoa_ne _) h
  obtain ⟨e2, h⟩ := split32 (itoa_ne _) (itoa_ne _) h
  obtain ⟨e3, h⟩ := split32 (itoa_ne _) (itoa_ne _) h
  have e1' := itoa_inj e1
  have e2' := itoa_inj e2
  have e3' := itoa_inj e3
  obtain ⟨e4, e5⟩ := List.append_inj h (by rw [Array.length_toList, Array.length_toList]; have : v.s.size = v'.s.size := by omega
                                           exact this)
  have e6 : v.s = v'.s := ByteArray.ext (Array.toList_inj.1 e4)
  exact ⟨by cases v; cases v'; simp_all, e5⟩
theorem keyT_inj : ∀ {a b : List Val}, keyT a = keyT b → a = b
  | [], [], _ => rfl
  | [], v :: b, h => by
    have : (keyT (v :: b)).length = 0 := by rw [← h]; rfl
    unfold keyT valT at this
    simp at this
  | v :: a, [], h => by
    have : (keyT (v :: a)).length = 0 := by rw [h]; rfl
    unfold keyT valT at this
    simp at this
  | v :: a, v' :: b, h => by
    obtain ⟨e1, e2⟩ := valT_inj (show valT v ++ keyT a = valT v' ++ keyT b from h)
    rw [e1, keyT_inj e2]
end Go.Proofs.YtcmfdbjdbbpomaaDoor.B
namespace Go.Proofs.YtcmfdbjdbbpomaaDoor.B
open Go Go.RowKit Go.Shelf
set_option maxRecDepth 1000000
set_option linter.unusedVariables false
noncomputable section
theorem isB_ext {T e : TypeId} {B b : Nat} {bs : List Value} {w w' : World} (h : Lib.IsBuilderF T e B b bs w) (hx : Ext w w') : Lib.IsBuilderF T e B b bs w' := by
  have key : ∀ p, Lib.BuilderAtF T e B b p bs w → Lib.BuilderAtF T e B b p bs w' := fun p ⟨h1, v, h2, h3, h4⟩ => by
    have hb : b < w.heap.size := (Array.getElem?_eq_some_iff.1 h2).1
    refine ⟨h1, v, by rw [hx.block hb]; exact h2, h3.kept (row := none) ⟨hx.os, hx.tape, hx.output, hx.size, fun k hk _ => hx.block hk⟩ ?_, h4⟩
    cases hv : v.ownBlock with
    | none => exact .inl rfl
    | some g => exact .inr (by simp)
  exact h.imp (key _) (key _)
theorem itoa_calls (n : Int) (h : -9223372036854775808 ≤ n ∧ n ≤ 9223372036854775807) (w : World) (hld : Laid w) :
    Calls Tryd.prog 32 #[.int .i64 n] w fun e w' => e = .returned (.string ⟨(Lib.itoa n).toArray⟩) ∧ Ext w w' := by
  refine (Tryd.strconv_Itoa n h.1 h.2 w hld).mono ?_
  rintro e w' ⟨rfl, k, os, rfl⟩
  exact ⟨rfl, Lib.below_grow _ _ (Nat.le_refl _) _ _⟩
theorem itoa_text (n : Int) (h : -9223372036854775808 ≤ n ∧ n ≤ 9223372036854775807) : ∃ t : ByteArray, t.data.toList = Lib.itoa n ∧ t.size ≤ 21 ∧ ∀ (w : World), Laid w → Calls Tryd.prog 32 #[.int .i64 n] w fun e w' => e = .returned (.string t) ∧ Ext w w' :=
  ⟨⟨(Lib.itoa n).toArray⟩, rfl, by have := Lib.itoa_length_le n h.1 h.2; exact this, itoa_calls n h⟩
theorem keyT_part {r : List Val} {i : Nat} {x : Val} (h : r[i]? = some x) : keyT (r.take (i + 1)) = keyT (r.take i) ++ valT x ∧ (keyT (r.take i)).length + (valT x).length ≤ (keyT r).length := by
  obtain ⟨hi, hx⟩ := List.getElem?_eq_some_iff.1 h
  have e1 : r.take (i + 1) = r.take i ++ [x] := by rw [List.take_add_one, h]; rfl
  have e2 : keyT (r.take (i + 1)) = keyT (r.take i) ++ valT x := by rw [e1, keyT_append]; simp [keyT]
  refine ⟨e2, ?_⟩
  have e3 : keyT r = keyT (r.take (i + 1)) ++ keyT (r.drop (i + 1)) := by rw [← keyT_append, List.take_append_drop]
  rw [e3, e2]
  simp only [List.length_append]
  omega
theorem strCells_byte (s : ByteArray) (l : List UInt8) (h : s.data.toList = l) : Lib.strCells s = Lib.byteCells l := by unfold Lib.strCells Lib.byteCells; rw [h]
def keysOK (keys : List (List Val)) : Prop := ∀ r ∈ keys, r.length ≤ 1000000000 ∧ (keyT r).length ≤ 1000000000000
theorem valT_len {v : Val} (h : WS .val v) : (valT v).length ≤ 66 + v.s.size := by
  obtain ⟨h1, h2, h3⟩ := (WS_val v).1 h
  have e1 := Lib.itoa_length_le v.kind (by have := h1; unfold WI at this; omega) (by have := h1; unfold WI at this; omega)
  have e2 := Lib.itoa_length_le v.n (by have := h2; unfold WI at this; omega) (by have := h2; unfold WI at this; omega)
  have e3 := Lib.itoa_length_le (v.s.size : Int) (by omega) (by have := h3; unfold WStr at this; omega)
  have e4 : v.s.data.toList.length = v.s.size := rfl
  unfold valT
  simp only [List.length_append, List.length_cons]
  omega
end
end Go.Proofs.YtcmfdbjdbbpomaaDoor.B
namespace Go.Proofs.YtcmfdbjdbbpomaaDoor.B
open Go Go.RowKit
set_option linter.unusedVariables false
theorem BK.strI {s : ByteArray} {n : Nat} (h : BK (cs s) n) : s.size ≤ n := by
  cases h with
  | s _ _ h => exact h s rfl
theorem BKS.consI {v : V Un} {vs : List (V Un)} {n : Nat} (h : BKS (v :: vs) n) : ∃ a b, BK v a ∧ BKS vs b ∧ a + b ≤ n := by
  cases h with
  | cons _ _ a b _ h1 h2 hn => exact ⟨a, b, h1, h2, hn⟩
theorem BKL.consI {τ : Ty} {x : Den τ} {xs : List (Den τ)} {n : Nat} (h : BKL τ (x :: xs) n) : ∃ a b, BKS (enc τ x) a ∧ BKL τ xs b ∧ a + 1 + b ≤ n := by
  cases h with
  | cons _ _ _ a b _ h1 h2 hn => exact ⟨a, b, h1, h2, hn⟩
theorem BK.datI {τ : Ty} {xs : List (Den τ)} {n : Nat} (h : BK (.dat (U := Un) τ xs) n) : BKL τ xs n := by
  cases h with
  | dat _ _ _ h => exact h
theorem bkKey : ∀ (r : List Val) (n : Nat), BKL .val r n → WL .val r → r.length ≤ n ∧ (keyT r).length ≤ 70 * n
  | [], n, _, _ => ⟨Nat.zero_le _, by simp [keyT]⟩
  | x :: r, n, h, hw => by
    obtain ⟨a, b, h1, h2, hn⟩ := h.consI
    obtain ⟨i1, i2⟩ := bkKey r b h2 (hw.sub (by simp) fun y hy => List.mem_cons_of_mem _ hy)
    have hv := valT_len (hw.get List.mem_cons_self)
    obtain ⟨_, _, _, h1, q2⟩ := h1.consI
    obtain ⟨_, _, _, h1, q3⟩ := h1.consI
    obtain ⟨_, _, k0, _, q4⟩ := h1.consI
    have e0 : x.s.size ≤ _ := k0.strI
    refine ⟨by rw [List.length_cons]; omega, ?_⟩
    rw [keyT, List.length_append]
    omega
theorem bkKeys : ∀ (l : List (List Val)) (n : Nat), BKL .row l n → WL .row l → n ≤ 2000000 → l.length ≤ n ∧ ∀ r ∈ l, r.length ≤ 2000000 ∧ (keyT r).length ≤ 140000000
  | [], n, _, _, _ => ⟨Nat.zero_le _, by simp⟩
  | x :: l, n, h, hw, hm => by
    obtain ⟨a, b, h1, h2, hn⟩ := h.consI
    obtain ⟨i1, i2⟩ := bkKeys l b h2 (hw.sub (by simp) fun y hy => List.mem_cons_of_mem _ hy) (by omega)
    obtain ⟨_, _, k0, _, q2⟩ := h1.consI
    obtain ⟨j1, j2⟩ := bkKey x _ k0.datI ((WS_row x).1 (hw.get List.mem_cons_self))
    refine ⟨by rw [List.length_cons]; omega, fun r hr => ?_⟩
    rcases List.mem_cons.1 hr with rfl | hr
    · exact ⟨by omega, by omega⟩
    · exact i2 r hr
end Go.Proofs.YtcmfdbjdbbpomaaDoor.B
namespace Go.Proofs.YtcmfdbjdbbpomaaDoor.B
open Go Go.RowKit
set_option maxRecDepth 1000000
theorem contract_scalar {f : FuncId} {args : List (D Un)} {v : Value} (hv : oneC v = true)
    (h : ∀ (w : World) (vs : List Value), (∀ St, All2 (DRel Tryd.prog En St w) vs args → Calls Tryd.prog f vs.toArray w fun e w' => e = .returned v ∧ w' = w)) : Contract Tryd.prog En f args [.c (.s v)] [] := by
  intro w St vs hbd hvs hld
  refine (h w vs St hvs).mono ?_
  rintro e w' ⟨rfl, rfl⟩
  let gg : G := { β := fun _ => 0, lb := fun _ => False, ω := fun _ _ => none, tk := fun _ => (none, 0) }
  exact ⟨_, rfl, Ext.refl _, gg, fun _ h => h, fun b o x _ h => by simp [gg] at h, fun b o x h => by simp [gg] at h, ⟨rfl, hv⟩, fun k o h => by simp at h⟩
theorem drel_str {St : Nat → Nat → Prop} {w : World} {v : Value} {s : ByteArray} (h : DRel Tryd.prog En St w v (.d (.v (cs s)))) : v = .string s ∧ s.size ≤ 9223372036854775807 := by
  have h' : VRel En St w v (.s (.string s)) := h
  cases h' with | s _ h => exact ⟨rfl, oneC_str.1 h⟩
end Go.Proofs.YtcmfdbjdbbpomaaDoor.B
namespace Go.Proofs.YtcmfdbjdbbpomaaDoor.B
open Go Go.RowKit
set_option maxRecDepth 1000000
theorem compareString_any (a b : ByteArray) (w : World) :
    Calls Tryd.prog 57 #[.string a, .string b] w fun e w' => e = .returned (.int .i64 (Lib.compareBytes a.data.toList b.data.toList)) ∧ w' = w := by
  have mixed : Tryd.prog.follows .mixedOrders = true := by kernel_rfl
  go_enter Tryd.func57, Tryd.ntmps57
  go_wp2
  rw [run_callFunc_extern Tryd.func74 (by kernel_rfl) (by kernel_rfl) (by kernel_rfl) (e := Extern.BytealgCompare.compare) (by kernel_rfl), Lib.run_compareString]
  simp only [Result.andThen]
  rw [Oper.upon_value]
  go_wp2
  go_ret
  exact ⟨rfl, rfl⟩
theorem compareBytes_eq : ∀ (a b : List UInt8), Lib.compareBytes a b = cmpL a b
  | [], [] => rfl
  | [], _ :: _ => rfl
  | _ :: _, [] => rfl
  | x :: a, y :: b => by
    have hlt : ∀ p q : UInt8, (p < q) = ((p.toNat : Int) < q.toNat) := fun p q => by simp [UInt8.lt_iff_toNat_lt]
    simp only [Lib.compareBytes, cmpL, cmpI, hlt]
    by_cases h : x = y
    · subst h; simp [compareBytes_eq a b]
    · have hne : x.toNat ≠ y.toNat := fun e => h (UInt8.toNat_inj.1 e)
      rw [if_neg h]
      by_cases h1 : (x.toNat : Int) < y.toNat
      · rw [if_pos h1, if_pos h1]
      · rw [if_neg h1, if_neg h1, if_pos (by omega), if_pos (by omega)]
theorem cmpL_range : ∀ (a b : List UInt8), -1 ≤ cmpL a b ∧ cmpL a b ≤ 1
  | [], [] => by simp [cmpL]
  | [], _ :: _ => by simp [cmpL]
  | _ :: _, [] => by simp [cmpL]
  | x :: a, y :: b => by
    simp only [cmpL, cmpI]
    have := cmpL_range a b
    repeat' split
    all_goals omega
def F_internal_bytealg_CompareString : FnC Un := fun args => match args with
  | [x0, x1] => (dStr x0).bind fun a => (dStr x1).bind fun b => some ([], [.c (.s (.int .i64 (cmpS a b)))], [])
  | _ => none
theorem ok_internal_bytealg_CompareString : FnOK 57 F_internal_bytealg_CompareString := by
  intro args ob rs os h hob
  unfold F_internal_bytealg_CompareString at h
  split at h
  · rename_i x0 x1
    simp only [Option.bind_eq_some_iff, Option.some.injEq, Prod.mk.injEq] at h
    obtain ⟨s, e0, t, e1, rfl, rfl, rfl⟩ := h
    obtain rfl := dStr_eq e0
    obtain rfl := dStr_eq e1
    refine ⟨?_, hasBody_of Tryd.func57 (by kernel_rfl) (by kernel_rfl)⟩
    have hr := cmpL_range s.toList t.toList
    refine contract_scalar (oneC_i64.2 (by unfold cmpS; omega)) fun w vs St hvs => ?_
    match vs, hvs with
    | [v0, v1], ⟨h0, h1, _⟩ =>
      obtain ⟨rfl, -⟩ := drel_str h0
      obtain ⟨rfl, -⟩ := drel_str h1
      refine (compareString_any s t w).mono ?_
      rintro e w' ⟨rfl, rfl⟩
      refine ⟨?_, rfl⟩
      rw [compareBytes_eq]; unfold cmpS
      rw [ByteArray.toList_eq, ByteArray.toList_eq]
  · simp at h
end Go.Proofs.YtcmfdbjdbbpomaaDoor.B
namespace Go.Proofs.YtcmfdbjdbbpomaaDoor.B
open Go Go.RowKit Go.Shelf
set_option maxRecDepth 1000000
set_option linter.unusedVariables false
noncomputable section
def Gr (w w' : World) : Prop := ∃ q os, w' = Sort.grow (w.drewN q) os
theorem Gr.refl (w : World) : Gr w w := ⟨0, #[], (Sort.grow_empty w).symm⟩
theorem Gr.trans {a b c : World} (h : Gr a b) (k : Gr b c) : Gr a c := by
  obtain ⟨q, os, rfl⟩ := h
  obtain ⟨q', os', rfl⟩ := k
  refine ⟨q + q', os ++ os', ?_⟩
  rw [← Sort.grow_grow, ← World.drewN_drewN]
  rfl
theorem Gr.alloc {a b : World} (h : Gr a b) (o : Obj) : Gr a (b.alloc o) := h.trans ⟨0, #[o], by
  show World.mk _ _ _ _ _ = World.mk _ _ _ _ _
  congr 1⟩
theorem Gr.drew {a b : World} (h : Gr a b) : Gr a b.drew := h.trans ⟨1, #[], by rw [Sort.grow_empty]; rfl⟩
theorem Gr.ext {a b : World} (h : Gr a b) : Ext a b := by
  obtain ⟨q, os, rfl⟩ := h
  refine ⟨rfl, rfl, rfl, by simp [Sort.grow, World.drewN], fun k hk => ?_⟩
  show (a.heap ++ os)[k]? = _
  rw [Array.getElem?_append_left hk]
def orI : List Int → Int
  | [] => 0
  | z :: r => if z = 0 then orI r else z
theorem or_walk (b off cap : Nat) (zs : List Int) (w : World) (hl : zs.length ≤ 1000000000) (hcap : zs.length ≤ cap) (hc : ∀ i, i < zs.length → w.cell? ⟨b, off + i, none⟩ = some (.int .i64 (zs.getD i 0))) :
    Calls Tryd.prog 24 #[.slice (some ⟨b, off, none⟩) zs.length cap] w fun e w' => e = .returned (.int .i64 (orI zs)) ∧ w' = w := by
  have HCc := Lib.hid hc
  clear hc
  go_enter Tryd.func24, Tryd.ntmps24
  go_wp2
  go_loop [8] (fun s8 => ∃ (i : Nat), i ≤ zs.length ∧ s8 = .int .i64 i ∧ orI (zs.drop i) = orI zs) (fun s8 => zs.length - (intOf s8).toNat)
  case atStart => exact ⟨0, Nat.zero_le _, rfl, rfl⟩
  case round =>
    obtain ⟨i, hi, rfl, ho⟩ := hrel
    by_cases hlt : i < zs.length
    · have h1 := HCc.out i hlt
      have k0 : (i : Int) < (zs.length : Int) := by omega
      have hd : zs.drop i = zs.getD i 0 :: zs.drop (i + 1) := by
        rw [List.drop_eq_getElem_cons hlt, List.getD_eq_getElem?_getD, List.getElem?_eq_getElem hlt]; rfl
      have HO := Lib.hid ho
      have HD := Lib.hid hd
      clear ho hd
      obtain ⟨z, hz⟩ : ∃ z, z = zs.getD i 0 := ⟨_, rfl⟩
      rw [← hz] at h1
      have HZ := Lib.hid hz
      clear hz
      by_cases hz0 : z = 0
      · have hz1 : (z != 0) = false := by simpa using hz0
        go_wp2_with fail
        go_round
        case rel => exact ⟨i + 1, by omega, by go_num, by rw [← HO.out, HD.out, ← HZ.out, orI, if_pos hz0]⟩
        case measure => simp [intOf]; omega
      · have hz1 : (z != 0) = true := by simpa using hz0
        go_wp2_with fail
        go_ret
        exact ⟨by rw [← HO.out, HD.out, ← HZ.out, orI, if_neg hz0]; rfl, rfl⟩
    · go_wp2_with fail
      go_ret
      refine ⟨?_, rfl⟩
      rw [List.drop_of_length_le (by omega)] at ho
      rw [← ho]; rfl
theorem cell_last {W : World} {H : Nat} (hH : W.heap.size = H) (cs : Array Value) (t : TypeId) (i : Nat) (v : Value) (hv : cs[i]? = some v) : (W.alloc (.cells cs t)).cell? ⟨H, i, none⟩ = some v := by
  subst hH
  have : (W.alloc (.cells cs t)).heap[W.heap.size]? = some (.cells cs t (0, 0)) := by
    have : ∀ (h : Array Obj) (o : Obj), (h.push o)[h.size]? = some o := fun h o => by simp
    exact this _ _
  unfold World.cell?
  rw [this]
  simp [hv]
def valV (a : Val) : Value := .agg #[.int .i64 a.kind, .int .i64 a.n, .string a.s]
theorem ord_or (a b : Val) : orI [Lib.compareInt a.kind b.kind, Lib.compareInt a.n b.n, Lib.compareBytes a.s.data.toList b.s.data.toList] = ordV a b := by
  have hc : ∀ x y : Int, Lib.compareInt x y = cmpI x y := fun x y => by
    unfold Lib.compareInt cmpI; rfl
  rw [hc, hc, compareBytes_eq]
  unfold ordV orI orI orI orI cmpS
  rw [← ByteArray.toList_eq, ← ByteArray.toList_eq]
  by_cases h1 : a.kind = b.kind
  · rw [if_pos (cmpI_zero.2 h1), if_pos h1]
    by_cases h2 : a.n = b.n
    · rw [if_pos (cmpI_zero.2 h2), if_pos h2]
      split
      · rename_i h; rw [h]
      · rfl
    · rw [if_neg (fun e => h2 (cmpI_zero.1 e)), if_neg h2]
  · rw [if_neg (fun e => h1 (cmpI_zero.1 e)), if_neg h1]
set_option maxHeartbeats 4000000 in
theorem order_walk (a b : Val) (w : World) : Calls Tryd.prog 27 #[valV a, valV b] w fun e w' => e = .returned (.int .i64 (ordV a b)) ∧ Gr w w' := by
  have mixed : Tryd.prog.follows .mixedOrders = true := by kernel_rfl
  have ho := ord_or a b
  unfold valV
  generalize a.kind = k1 at ho ⊢
  generalize b.kind = k2 at ho ⊢
  generalize a.n = n1 at ho ⊢
  generalize b.n = n2 at ho ⊢
  generalize a.s = s1 at ho ⊢
  generalize b.s = s2 at ho ⊢
  have HO := Lib.hid ho
  clear ho
  generalize ordV a b = r at HO ⊢
  go_enter Tryd.func27, Tryd.ntmps27
  go_wp2
  have g0 : Gr w ((w.alloc (Obj.cells #[Value.int .i64 k1, Value.int .i64 n1, Value.string s1] 39)).alloc (Obj.cells #[Value.int .i64 k2, Value.int .i64 n2, Value.string s2] 39)).drew := (((Gr.refl w).alloc _).alloc _).drew
  have G0 := Lib.hid g0
  clear g0
  go_region_held3 (fun w' => w'.cell? ⟨w.heap.size, 0, none⟩ = some (.int .i64 k1) ∧ w'.cell? ⟨w.heap.size, 1, none⟩ = some (.int .i64 n1) ∧ w'.cell? ⟨w.heap.size, 2, none⟩ = some (.string s1) ∧ w'.cell? ⟨w.heap.size + 1, 0, none⟩ = some (.int .i64 k2) ∧ w'.cell? ⟨w.heap.size + 1, 1, none⟩ = some (.int .i64 n2) ∧ w'.cell? ⟨w.heap.size + 1, 2, none⟩ = some (.string s2)) (go_keep)
    (first
      | (go_at_call 25; refine (Tryd.cmp_Compare_int _ _ _).mono ?_; rintro e w' ⟨rfl, rfl⟩)
      | (go_at_call 40; refine (Tryd.strings_Compare _ _ _).mono ?_; rintro e w' ⟨rfl, rfl⟩)
      | (go_at_call 24; refine (or_walk _ 0 3 [Lib.compareInt k1 k2, Lib.compareInt n1 n2, Lib.compareBytes s1.data.toList s2.data.toList] _ (by simp) (by simp) (fun i hi => by match i, hi with | 0, _ => (simp; exact cell_last (by simp) _ _ _ _ rfl) | 1, _ => (simp; exact cell_last (by simp) _ _ _ _ rfl) | 2, _ => (simp; exact cell_last (by simp) _ _ _ _ rfl))).mono ?_; rintro e w' ⟨rfl, rfl⟩))
  go_wp2
  go_ret
  exact ⟨by rw [← HO.out]; rfl, by first | exact ((((Gr.refl w).alloc _).alloc _).alloc _).drew | simpa using ((((Gr.refl w).alloc _).alloc _).alloc _).drew⟩
set_option maxHeartbeats 8000000 in
theorem compareFunc_walk (r s : List Val) (a1 a2 : Option Addr) (b1 o1 c1 b2 o2 c2 : Nat) (w : World) (hr : r.length ≤ 9223372036854775807) (hs : s.length ≤ 9223372036854775807)
    (h1 : (r ≠ [] → a1 = some ⟨b1, o1, none⟩ ∧ r.length ≤ c1)) (h2 : (s ≠ [] → a2 = some ⟨b2, o2, none⟩ ∧ s.length ≤ c2))
    (hc1 : ∀ i x, r[i]? = some x → w.cell? ⟨b1, o1 + i * 3, none⟩ = some (.int .i64 x.kind) ∧ w.cell? ⟨b1, o1 + i * 3 + 1, none⟩ = some (.int .i64 x.n) ∧ w.cell? ⟨b1, o1 + i * 3 + 2, none⟩ = some (.string x.s))
    (hc2 : ∀ i x, s[i]? = some x → w.cell? ⟨b2, o2 + i * 3, none⟩ = some (.int .i64 x.kind) ∧ w.cell? ⟨b2, o2 + i * 3 + 1, none⟩ = some (.int .i64 x.n) ∧ w.cell? ⟨b2, o2 + i * 3 + 2, none⟩ = some (.string x.s)) :
    Calls Tryd.prog 26 #[.slice a1 r.length c1, .slice a2 s.length c2, .func (.func 27) #[] #[]] w fun e w' => e = .returned (.int .i64 (ordR r s)) ∧ Gr w w' := by
  have H1 := Lib.hid hc1
  have H2 := Lib.hid hc2
  have HA1 := Lib.hid h1
  have HA2 := Lib.hid h2
  clear hc1 hc2 h1 h2
  go_enter Tryd.func26, Tryd.ntmps26
  go_wp2
  go_loopw [13] (fun s13 wr => ∃ (i : Nat), i ≤ r.length ∧ i ≤ s.length ∧ s13 = .int .i64 i ∧ ordR (r.drop i) (s.drop i) = ordR r s ∧ Gr w wr) (fun s13 _ => r.length - (intOf s13).toNat)
  case atStart => exact ⟨0, Nat.zero_le _, Nat.zero_le _, rfl, rfl, Gr.refl w⟩
  case round =>
    obtain ⟨i, hi, hi2, rfl, ho, hg⟩ := hrel
    have HO := Lib.hid ho
    have HG := Lib.hid hg
    clear ho hg
    by_cases hlt : i < r.length
    · obtain ⟨x, hx⟩ : ∃ x, r[i]? = some x := ⟨_, List.getElem?_eq_getElem hlt⟩
      obtain ⟨rfl, hcap⟩ := HA1.out (fun e => by rw [e] at hlt; simp at hlt)
      obtain ⟨c0, c1', c2'⟩ := H1.out i x hx
      have d0 := HG.out.ext.keeps c0
      have d1 := HG.out.ext.keeps c1'
      have d2 := HG.out.ext.keeps c2'
      clear c0 c1' c2'
      have k0 : (i : Int) < (r.length : Int) := by omega
      by_cases hlt2 : i < s.length
      · obtain ⟨y, hy⟩ : ∃ y, s[i]? = some y := ⟨_, List.getElem?_eq_getElem hlt2⟩
        obtain ⟨rfl, hcap2⟩ := HA2.out (fun e => by rw [e] at hlt2; simp at hlt2)
        obtain ⟨c0, c1', c2'⟩ := H2.out i y hy
        have e0 := HG.out.ext.keeps c0
        have e1 := HG.out.ext.keeps c1'
        have e2 := HG.out.ext.keeps c2'
        clear c0 c1' c2'
        have lb2 := lt_of_cell e0
        have nb2 : ¬ (b2 = wr.heap.size) := by have : b2 < wr.heap.size := lb2; omega
        have nb3 : ¬ (wr.heap.size = b2) := by omega
        have k1 : (i : Int) < (s.length : Int) := by omega
        have k2 : ¬ ((s.length : Int) ≤ (i : Int)) := by omega
        have hxy := order_walk x y
        obtain ⟨z, hz⟩ : ∃ z, z = ordV x y := ⟨_, rfl⟩
        rw [← hz] at hxy
        unfold valV at hxy
        have hdr : r.drop i = x :: r.drop (i + 1) := by rw [List.drop_eq_getElem_cons hlt]; rw [List.getElem?_eq_getElem hlt] at hx; rw [Option.some.inj hx]
        have hds : s.drop i = y :: s.drop (i + 1) := by rw [List.drop_eq_getElem_cons hlt2]; rw [List.getElem?_eq_getElem hlt2] at hy; rw [Option.some.inj hy]
        have HXY := Lib.hid hxy
        have HZ := Lib.hid hz
        have HDR := Lib.hid (And.intro hdr hds)
        clear hxy hz hx hy hdr hds
        by_cases hz0 : z = 0
        · have hz1 : (z != 0) = false := by simpa using hz0
          go_wp2_with (first | (go_at_call 27; refine (HXY.out _).mono ?_; rintro e W1 ⟨rfl, hg1⟩; have HG1 := Lib.hid hg1; clear hg1))
          refine ⟨⟨i + 1, by omega, by omega, by go_num, ?_, ((HG.out.alloc _).alloc _).trans HG1.out⟩, by simp [intOf]; omega⟩
          have h := HO.out
          rw [HDR.out.1, HDR.out.2, ordR, if_pos (by rw [← HZ.out]; exact hz0)] at h
          exact h
        · have hz1 : (z != 0) = true := by simpa using hz0
          go_wp2_with (first | (go_at_call 27; refine (HXY.out _).mono ?_; rintro e W1 ⟨rfl, hg1⟩; have HG1 := Lib.hid hg1; clear hg1))
          go_ret
          have h := HO.out
          rw [HDR.out.1, HDR.out.2, ordR, if_neg (by rw [← HZ.out]; exact hz0), ← HZ.out] at h
          exact ⟨by rw [← h]; rfl, ((HG.out.alloc _).alloc _).trans HG1.out⟩
      · have k2 : (s.length : Int) ≤ (i : Int) := by omega
        go_wp2_with fail
        go_ret
        have h := HO.out
        rw [List.drop_of_length_le (show s.length ≤ i by omega), List.drop_eq_getElem_cons hlt, ordR] at h
        exact ⟨by rw [← h]; rfl, HG.out.alloc _⟩
    · have k0 : ¬ ((i : Int) < (r.length : Int)) := by omega
      by_cases hls : r.length < s.length
      · have k1 : (r.length : Int) < (s.length : Int) := by omega
        go_wp2_with fail
        go_ret
        have h := HO.out
        rw [List.drop_of_length_le (show r.length ≤ i by omega), List.drop_eq_getElem_cons (show i < s.length by omega), ordR] at h
        exact ⟨by rw [← h]; rfl, HG.out⟩
      · have k1 : ¬ (r.length : Int) < (s.length : Int) := by omega
        go_wp2_with fail
        go_ret
        have h := HO.out
        rw [List.drop_of_length_le (show r.length ≤ i by omega), List.drop_of_length_le (show s.length ≤ i by omega), ordR] at h
        exact ⟨by rw [← h]; rfl, HG.out⟩
theorem orders_calls {St : Nat → Nat → Prop} {w : World} {u v : Value} {r s : List Val} (hr : VRel En St w u (.dat (U := Un) Ty.val r)) (hs : VRel En St w v (.dat (U := Un) Ty.val s)) : Calls Tryd.prog 14 #[u, v] w fun e w' => e = .returned (.int .i64 (ordR r s)) ∧ Gr w w' := by
  have l1 : r.length ≤ 9223372036854775807 := by rcases hr.inv with ⟨rfl, _⟩ | ⟨_, _, _, _, _, h, _⟩; simp; exact h.2
  have l2 : s.length ≤ 9223372036854775807 := by rcases hs.inv with ⟨rfl, _⟩ | ⟨_, _, _, _, _, h, _⟩; simp; exact h.2
  obtain ⟨a1, b1, o1, c1, rfl, h1, k1⟩ := vals_cells hr
  obtain ⟨a2, b2, o2, c2, rfl, h2, k2⟩ := vals_cells hs
  have hc := compareFunc_walk r s a1 a2 b1 o1 c1 b2 o2 c2 w l1 l2 h1 h2 (fun i x hx => (k1 i x hx).1) (fun i x hx => (k2 i x hx).1)
  clear h1 k1 h2 k2 hr hs
  go_enter Tryd.func14, Tryd.ntmps14
  go_wp2_with (first | (go_at_call 26; refine hc.mono ?_; rintro e W1 ⟨rfl, hg1⟩; have HG1 := Lib.hid hg1; clear hg1))
  go_ret
  exact ⟨rfl, HG1.out⟩
end
end Go.Proofs.YtcmfdbjdbbpomaaDoor.B
