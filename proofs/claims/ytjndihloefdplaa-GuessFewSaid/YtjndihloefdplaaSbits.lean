/- Functions: bits. (Printed by wip/tools/mkfn.py out of wip/src/bits.src.) -/
import Derived.Test.YtjndihloefdplaaBLib
import Derived.Test.YtjndihloefdplaaSspec
import Derived.Test.YtjndihloefdplaaLscalar
import Derived.Test.YtjndihloefdplaaLbits
namespace Go.Proofs.Ytjndihloefdplaa.B
open Go Go.RowKit
set_option maxRecDepth 100000
noncomputable section
attribute [local irreducible] awp ctxK itersK iterK retQ retGQ

/-! ### math/bits.Div64 -/
def M_bits_Div64 : Mc Un := mach (tbl [(50, F_bits_LeadingZeros64)]) (tbl []) (tbl []) (tbl [])
def N_bits_Div64 : Nat → NS := fun l => (look l [(17, { ts := [false, false, true, false, false, false, false, false, true, true, true, true, false, true, true, true, true, false, false, false, false, false, false, false, false, false, false, false, false, false, false, false, false, false, false, false, false, false, false, false, false, false, false, false, false, false, false, false, false, false, false, false, false, false, false, false, false, false, false, false, false, false, false, false, false, false, false, false, false, false, false, false, false, false, false, false, false, false, false, false, false, false, false, false, false, false, false, false, false, false, false, false, false, false, false, false, false, false, false, false, false, false, false, false, false, false, false, false, false, false, false, false, false, false, false, false, false, false, false, false, false, false, false, false, false, false, false, false, false, false, false, false, false, false, false], bs := [false, false, false, false, false, false, false, false, false, false, false, false, false, false, false, false, false, false, false, false, false, false, false, false, false, false, false, false, false, false, false, false, false, false, false, false, false, false, false, false, false, false, false, false, false, false, false, false, false, false, false, false, false, false, false, false, false, false, false, false, false, false, false, false, false, false, false, false, false, false, false, false, false, false, false, false, false, false, false, false, false, false, false, false, false, false, false, false, false, false, false, false, false, false, false, false, false, false, false, false, false, false, false, false, false, false, false, false, false, false, false, false, false, false, false, false, false, false, false, false, false, false, false, false, false, false, false, false, false, false, false, false, false, false, false], nm := [], gb := [], gs := [] }), (24, { ts := [false, false, true, false, false, false, false, false, true, true, true, false, false, false, true, true, true, true, true, false, false, false, false, false, false, false, false, false, false, false, false, false, false, false, false, false, false, false, false, false, false, false, false, false, false, false, false, false, false, false, false, false, false, false, false, false, false, false, false, false, false, false, false, false, false, false, false, false, false, false, false, false, false, false, false, false, false, false, false, false, false, false, false, false, false, false, false, false, false, false, false, false, false, false, false, false, false, false, false, false, false, false, false, false, false, false, false, false, false, false, false, false, false, false, false, false, false, false, false, false, false, false, false, false, false, false, false, false, false, false, false, false, false, false, false], bs := [false, false, false, false, false, false, false, false, false, false, false, false, false, false, false, false, false, false, false, false, false, false, false, false, false, false, false, false, false, false, false, false, false, false, false, false, false, false, false, false, false, false, false, false, false, false, false, false, false, false, false, false, false, false, false, false, false, false, false, false, false, false, false, false, false, false, false, false, false, false, false, false, false, false, false, false, false, false, false, false, false, false, false, false, false, false, false, false, false, false, false, false, false, false, false, false, false, false, false, false, false, false, false, false, false, false, false, false, false, false, false, false, false, false, false, false, false, false, false, false, false, false, false, false, false, false, false, false, false, false, false, false, false, false, false], nm := [], gb := [], gs := [] })]).getD ⟨[], [], [], [], []⟩
def A_bits_Div64 (r : Int × Int) : List (A Un) := [.c (.s (.int .u64 r.1)), .c (.s (.int .u64 r.2))]
def O_bits_Div64 (_r : Int × Int) : List (Ob Un) := []
def bits_Div64_s17 (hi : Int) (lo : Int) (y : Int) (v0 : Int) (v1 : Int) : S Un := (st 135 135 540 0 [(2, AV.one (A.c (C.s (Value.int IntKind.u64 (IntKind.u64.wrap (y * (2 : Int) ^ min (IntKind.u64.wrap (lz64 y)).toNat IntKind.u64.bits)))))), (8, AV.one (A.c (C.s (Value.int IntKind.u64 (IntKind.u64.wrap (lz64 y)))))), (9, AV.one (A.c (C.s (Value.int IntKind.u64 ((IntKind.u64.wrap (y * (2 : Int) ^ min (IntKind.u64.wrap (lz64 y)).toNat IntKind.u64.bits)).fdiv ((2 : Int) ^ min 32 IntKind.u64.bits)))))), (10, AV.one (A.c (C.s (Value.int IntKind.u64 (IntKind.u64.wrap (↑(BitVec.ofInt IntKind.u64.bits (IntKind.u64.wrap (y * (2 : Int) ^ min (IntKind.u64.wrap (lz64 y)).toNat IntKind.u64.bits)) &&& BitVec.ofInt IntKind.u64.bits (4294967295 : Int)).toNat : Int)))))), (11, AV.one (A.c (C.s (Value.int IntKind.u64 (IntKind.u64.wrap (↑(BitVec.ofInt IntKind.u64.bits (IntKind.u64.wrap (hi * (2 : Int) ^ min (IntKind.u64.wrap (lz64 y)).toNat IntKind.u64.bits)) ||| BitVec.ofInt IntKind.u64.bits (lo.fdiv ((2 : Int) ^ min (IntKind.u64.wrap ((64 : Int) - IntKind.u64.wrap (lz64 y))).toNat IntKind.u64.bits))).toNat : Int)))))), (13, AV.one (A.c (C.s (Value.int IntKind.u64 ((IntKind.u64.wrap (lo * (2 : Int) ^ min (IntKind.u64.wrap (lz64 y)).toNat IntKind.u64.bits)).fdiv ((2 : Int) ^ min 32 IntKind.u64.bits)))))), (14, AV.one (A.c (C.s (Value.int IntKind.u64 (IntKind.u64.wrap (↑(BitVec.ofInt IntKind.u64.bits (IntKind.u64.wrap (lo * (2 : Int) ^ min (IntKind.u64.wrap (lz64 y)).toNat IntKind.u64.bits)) &&& BitVec.ofInt IntKind.u64.bits (4294967295 : Int)).toNat : Int)))))), (15, AV.one (A.c (C.s (Value.int IntKind.u64 v0)))), (16, AV.one (A.c (C.s (Value.int IntKind.u64 v1))))] [] [])
def bits_Div64_s24 (hi : Int) (lo : Int) (y : Int) (v0 : Int) (v2 : Int) (v3 : Int) : S Un := (st 135 135 540 0 [(2, AV.one (A.c (C.s (Value.int IntKind.u64 (IntKind.u64.wrap (y * (2 : Int) ^ min (IntKind.u64.wrap (lz64 y)).toNat IntKind.u64.bits)))))), (8, AV.one (A.c (C.s (Value.int IntKind.u64 (IntKind.u64.wrap (lz64 y)))))), (9, AV.one (A.c (C.s (Value.int IntKind.u64 ((IntKind.u64.wrap (y * (2 : Int) ^ min (IntKind.u64.wrap (lz64 y)).toNat IntKind.u64.bits)).fdiv ((2 : Int) ^ min 32 IntKind.u64.bits)))))), (10, AV.one (A.c (C.s (Value.int IntKind.u64 (IntKind.u64.wrap (↑(BitVec.ofInt IntKind.u64.bits (IntKind.u64.wrap (y * (2 : Int) ^ min (IntKind.u64.wrap (lz64 y)).toNat IntKind.u64.bits)) &&& BitVec.ofInt IntKind.u64.bits (4294967295 : Int)).toNat : Int)))))), (14, AV.one (A.c (C.s (Value.int IntKind.u64 (IntKind.u64.wrap (↑(BitVec.ofInt IntKind.u64.bits (IntKind.u64.wrap (lo * (2 : Int) ^ min (IntKind.u64.wrap (lz64 y)).toNat IntKind.u64.bits)) &&& BitVec.ofInt IntKind.u64.bits (4294967295 : Int)).toNat : Int)))))), (15, AV.one (A.c (C.s (Value.int IntKind.u64 v0)))), (16, AV.one (A.c (C.s (Value.int IntKind.u64 v2)))), (17, AV.one (A.c (C.s (Value.int IntKind.u64 (IntKind.u64.wrap (IntKind.u64.wrap (IntKind.u64.wrap (IntKind.u64.wrap (↑(BitVec.ofInt IntKind.u64.bits (IntKind.u64.wrap (hi * (2 : Int) ^ min (IntKind.u64.wrap (lz64 y)).toNat IntKind.u64.bits)) ||| BitVec.ofInt IntKind.u64.bits (lo.fdiv ((2 : Int) ^ min (IntKind.u64.wrap ((64 : Int) - IntKind.u64.wrap (lz64 y))).toNat IntKind.u64.bits))).toNat : Int) * (4294967296 : Int)) + (IntKind.u64.wrap (lo * (2 : Int) ^ min (IntKind.u64.wrap (lz64 y)).toNat IntKind.u64.bits)).fdiv ((2 : Int) ^ min 32 IntKind.u64.bits)) - IntKind.u64.wrap (v0 * IntKind.u64.wrap (y * (2 : Int) ^ min (IntKind.u64.wrap (lz64 y)).toNat IntKind.u64.bits)))))))), (18, AV.one (A.c (C.s (Value.int IntKind.u64 v3))))] [] [])
theorem bits_Div64_in (hi : Int) (lo : Int) (y : Int) (K : List (A Un) → List (Ob Un) → Prop) :
    awp M_bits_Div64 N_bits_Div64 (bodyOf Try.f44) (entry Try.f44.ntmps 0 [.d (.v (.s (.int .u64 hi))), .d (.v (.s (.int .u64 lo))), .d (.v (.s (.int .u64 y)))]) (retQ M_bits_Div64 Try.f44.results.toList [.d, .d] K) =
(cnd (y == (0 : Int))
 False
 (cnd (decide (y ≤ hi))
  False
  (cnd (hi == (0 : Int))
   ((¬y = (0 : Int)) ∧
   ((¬y = (0 : Int)) ∧
   (K (A_bits_Div64 (IntKind.u64.wrap (lo.tdiv y), lo.tmod y)) (O_bits_Div64 (IntKind.u64.wrap (lo.tdiv y), lo.tmod y)))))
   ((¬IntKind.u64.wrap (lz64 y) < (0 : Int)) ∧
   ((¬(32 : Int) < (0 : Int)) ∧
   ((¬IntKind.u64.wrap (lz64 y) < (0 : Int)) ∧
   ((¬IntKind.u64.wrap ((64 : Int) - IntKind.u64.wrap (lz64 y)) < (0 : Int)) ∧
   ((¬IntKind.u64.wrap (lz64 y) < (0 : Int)) ∧
   ((¬(32 : Int) < (0 : Int)) ∧
   ((¬(IntKind.u64.wrap (y * (2 : Int) ^ min (IntKind.u64.wrap (lz64 y)).toNat IntKind.u64.bits)).fdiv ((2 : Int) ^ min 32 IntKind.u64.bits) = (0 : Int)) ∧
   (itersK (N_bits_Div64 17) (awp M_bits_Div64 N_bits_Div64 (sub (bodyOf Try.f44) [1, 1, 1, 1, 1, 1, 1, 1, 1, 1, 1, 1, 1, 1, 0, 2, 2])) (ctxK M_bits_Div64 N_bits_Div64 (bodyOf Try.f44) [1, 1, 1, 1, 1, 1, 1, 1, 1, 1, 1, 1, 1, 1, 0, 2] (retQ M_bits_Div64 Try.f44.results.toList [.d, .d] K)) (bits_Div64_s17 hi lo y (IntKind.u64.wrap ((IntKind.u64.wrap (↑(BitVec.ofInt IntKind.u64.bits (IntKind.u64.wrap (hi * (2 : Int) ^ min (IntKind.u64.wrap (lz64 y)).toNat IntKind.u64.bits)) ||| BitVec.ofInt IntKind.u64.bits (lo.fdiv ((2 : Int) ^ min (IntKind.u64.wrap ((64 : Int) - IntKind.u64.wrap (lz64 y))).toNat IntKind.u64.bits))).toNat : Int)).tdiv ((IntKind.u64.wrap (y * (2 : Int) ^ min (IntKind.u64.wrap (lz64 y)).toNat IntKind.u64.bits)).fdiv ((2 : Int) ^ min 32 IntKind.u64.bits)))) (IntKind.u64.wrap (IntKind.u64.wrap (↑(BitVec.ofInt IntKind.u64.bits (IntKind.u64.wrap (hi * (2 : Int) ^ min (IntKind.u64.wrap (lz64 y)).toNat IntKind.u64.bits)) ||| BitVec.ofInt IntKind.u64.bits (lo.fdiv ((2 : Int) ^ min (IntKind.u64.wrap ((64 : Int) - IntKind.u64.wrap (lz64 y))).toNat IntKind.u64.bits))).toNat : Int) - IntKind.u64.wrap (IntKind.u64.wrap ((IntKind.u64.wrap (↑(BitVec.ofInt IntKind.u64.bits (IntKind.u64.wrap (hi * (2 : Int) ^ min (IntKind.u64.wrap (lz64 y)).toNat IntKind.u64.bits)) ||| BitVec.ofInt IntKind.u64.bits (lo.fdiv ((2 : Int) ^ min (IntKind.u64.wrap ((64 : Int) - IntKind.u64.wrap (lz64 y))).toNat IntKind.u64.bits))).toNat : Int)).tdiv ((IntKind.u64.wrap (y * (2 : Int) ^ min (IntKind.u64.wrap (lz64 y)).toNat IntKind.u64.bits)).fdiv ((2 : Int) ^ min 32 IntKind.u64.bits))) * (IntKind.u64.wrap (y * (2 : Int) ^ min (IntKind.u64.wrap (lz64 y)).toNat IntKind.u64.bits)).fdiv ((2 : Int) ^ min 32 IntKind.u64.bits)))))))))))))))) := by kernel_rfl
theorem bits_Div64_l17 (hi : Int) (lo : Int) (y : Int) (v0 : Int) (v1 : Int) (k : Nat) (Q : Exit → S Un → Prop) :
    iterK (N_bits_Div64 17) (awp M_bits_Div64 N_bits_Div64 (sub (bodyOf Try.f44) [1, 1, 1, 1, 1, 1, 1, 1, 1, 1, 1, 1, 1, 1, 0, 2, 2])) Q (k + 1) (bits_Div64_s17 hi lo y v0 v1) =
(cnd (decide (v0 ≥ (4294967296 : Int)))
 (cnd (decide (IntKind.u64.wrap (v1 + (IntKind.u64.wrap (y * (2 : Int) ^ min (IntKind.u64.wrap (lz64 y)).toNat IntKind.u64.bits)).fdiv ((2 : Int) ^ min 32 IntKind.u64.bits)) ≥ (4294967296 : Int)))
  (Q (.exit 0) (bits_Div64_s17 hi lo y (IntKind.u64.wrap (v0 - (1 : Int))) (IntKind.u64.wrap (v1 + (IntKind.u64.wrap (y * (2 : Int) ^ min (IntKind.u64.wrap (lz64 y)).toNat IntKind.u64.bits)).fdiv ((2 : Int) ^ min 32 IntKind.u64.bits)))))
  (iterK (N_bits_Div64 17) (awp M_bits_Div64 N_bits_Div64 (sub (bodyOf Try.f44) [1, 1, 1, 1, 1, 1, 1, 1, 1, 1, 1, 1, 1, 1, 0, 2, 2])) Q k (bits_Div64_s17 hi lo y (IntKind.u64.wrap (v0 - (1 : Int))) (IntKind.u64.wrap (v1 + (IntKind.u64.wrap (y * (2 : Int) ^ min (IntKind.u64.wrap (lz64 y)).toNat IntKind.u64.bits)).fdiv ((2 : Int) ^ min 32 IntKind.u64.bits))))))
 (cnd (decide (IntKind.u64.wrap (v0 * IntKind.u64.wrap (↑(BitVec.ofInt IntKind.u64.bits (IntKind.u64.wrap (y * (2 : Int) ^ min (IntKind.u64.wrap (lz64 y)).toNat IntKind.u64.bits)) &&& BitVec.ofInt IntKind.u64.bits (4294967295 : Int)).toNat : Int)) > IntKind.u64.wrap (IntKind.u64.wrap ((4294967296 : Int) * v1) + (IntKind.u64.wrap (lo * (2 : Int) ^ min (IntKind.u64.wrap (lz64 y)).toNat IntKind.u64.bits)).fdiv ((2 : Int) ^ min 32 IntKind.u64.bits))))
  (cnd (decide (IntKind.u64.wrap (v1 + (IntKind.u64.wrap (y * (2 : Int) ^ min (IntKind.u64.wrap (lz64 y)).toNat IntKind.u64.bits)).fdiv ((2 : Int) ^ min 32 IntKind.u64.bits)) ≥ (4294967296 : Int)))
   (Q (.exit 0) (bits_Div64_s17 hi lo y (IntKind.u64.wrap (v0 - (1 : Int))) (IntKind.u64.wrap (v1 + (IntKind.u64.wrap (y * (2 : Int) ^ min (IntKind.u64.wrap (lz64 y)).toNat IntKind.u64.bits)).fdiv ((2 : Int) ^ min 32 IntKind.u64.bits)))))
   (iterK (N_bits_Div64 17) (awp M_bits_Div64 N_bits_Div64 (sub (bodyOf Try.f44) [1, 1, 1, 1, 1, 1, 1, 1, 1, 1, 1, 1, 1, 1, 0, 2, 2])) Q k (bits_Div64_s17 hi lo y (IntKind.u64.wrap (v0 - (1 : Int))) (IntKind.u64.wrap (v1 + (IntKind.u64.wrap (y * (2 : Int) ^ min (IntKind.u64.wrap (lz64 y)).toNat IntKind.u64.bits)).fdiv ((2 : Int) ^ min 32 IntKind.u64.bits))))))
  (Q (.exit 0) (bits_Div64_s17 hi lo y v0 v1)))) := by kernel_rfl
theorem bits_Div64_a17_x0 (hi : Int) (lo : Int) (y : Int) (v0 : Int) (v1 : Int) (K : List (A Un) → List (Ob Un) → Prop) :
    ctxK M_bits_Div64 N_bits_Div64 (bodyOf Try.f44) [1, 1, 1, 1, 1, 1, 1, 1, 1, 1, 1, 1, 1, 1, 0, 2] (retQ M_bits_Div64 Try.f44.results.toList [.d, .d] K) (.exit 0) (bits_Div64_s17 hi lo y v0 v1) =
((¬(IntKind.u64.wrap (y * (2 : Int) ^ min (IntKind.u64.wrap (lz64 y)).toNat IntKind.u64.bits)).fdiv ((2 : Int) ^ min 32 IntKind.u64.bits) = (0 : Int)) ∧
(itersK (N_bits_Div64 24) (awp M_bits_Div64 N_bits_Div64 (sub (bodyOf Try.f44) [1, 1, 1, 1, 1, 1, 1, 1, 1, 1, 1, 1, 1, 1, 1, 1, 1, 1, 0, 2, 2])) (ctxK M_bits_Div64 N_bits_Div64 (bodyOf Try.f44) [1, 1, 1, 1, 1, 1, 1, 1, 1, 1, 1, 1, 1, 1, 1, 1, 1, 1, 0, 2] (retQ M_bits_Div64 Try.f44.results.toList [.d, .d] K)) (bits_Div64_s24 hi lo y v0 (IntKind.u64.wrap (IntKind.u64.wrap (IntKind.u64.wrap (IntKind.u64.wrap (IntKind.u64.wrap (↑(BitVec.ofInt IntKind.u64.bits (IntKind.u64.wrap (hi * (2 : Int) ^ min (IntKind.u64.wrap (lz64 y)).toNat IntKind.u64.bits)) ||| BitVec.ofInt IntKind.u64.bits (lo.fdiv ((2 : Int) ^ min (IntKind.u64.wrap ((64 : Int) - IntKind.u64.wrap (lz64 y))).toNat IntKind.u64.bits))).toNat : Int) * (4294967296 : Int)) + (IntKind.u64.wrap (lo * (2 : Int) ^ min (IntKind.u64.wrap (lz64 y)).toNat IntKind.u64.bits)).fdiv ((2 : Int) ^ min 32 IntKind.u64.bits)) - IntKind.u64.wrap (v0 * IntKind.u64.wrap (y * (2 : Int) ^ min (IntKind.u64.wrap (lz64 y)).toNat IntKind.u64.bits))) - IntKind.u64.wrap (IntKind.u64.wrap ((IntKind.u64.wrap (IntKind.u64.wrap (IntKind.u64.wrap (IntKind.u64.wrap (↑(BitVec.ofInt IntKind.u64.bits (IntKind.u64.wrap (hi * (2 : Int) ^ min (IntKind.u64.wrap (lz64 y)).toNat IntKind.u64.bits)) ||| BitVec.ofInt IntKind.u64.bits (lo.fdiv ((2 : Int) ^ min (IntKind.u64.wrap ((64 : Int) - IntKind.u64.wrap (lz64 y))).toNat IntKind.u64.bits))).toNat : Int) * (4294967296 : Int)) + (IntKind.u64.wrap (lo * (2 : Int) ^ min (IntKind.u64.wrap (lz64 y)).toNat IntKind.u64.bits)).fdiv ((2 : Int) ^ min 32 IntKind.u64.bits)) - IntKind.u64.wrap (v0 * IntKind.u64.wrap (y * (2 : Int) ^ min (IntKind.u64.wrap (lz64 y)).toNat IntKind.u64.bits)))).tdiv ((IntKind.u64.wrap (y * (2 : Int) ^ min (IntKind.u64.wrap (lz64 y)).toNat IntKind.u64.bits)).fdiv ((2 : Int) ^ min 32 IntKind.u64.bits))) * (IntKind.u64.wrap (y * (2 : Int) ^ min (IntKind.u64.wrap (lz64 y)).toNat IntKind.u64.bits)).fdiv ((2 : Int) ^ min 32 IntKind.u64.bits)))) (IntKind.u64.wrap ((IntKind.u64.wrap (IntKind.u64.wrap (IntKind.u64.wrap (IntKind.u64.wrap (↑(BitVec.ofInt IntKind.u64.bits (IntKind.u64.wrap (hi * (2 : Int) ^ min (IntKind.u64.wrap (lz64 y)).toNat IntKind.u64.bits)) ||| BitVec.ofInt IntKind.u64.bits (lo.fdiv ((2 : Int) ^ min (IntKind.u64.wrap ((64 : Int) - IntKind.u64.wrap (lz64 y))).toNat IntKind.u64.bits))).toNat : Int) * (4294967296 : Int)) + (IntKind.u64.wrap (lo * (2 : Int) ^ min (IntKind.u64.wrap (lz64 y)).toNat IntKind.u64.bits)).fdiv ((2 : Int) ^ min 32 IntKind.u64.bits)) - IntKind.u64.wrap (v0 * IntKind.u64.wrap (y * (2 : Int) ^ min (IntKind.u64.wrap (lz64 y)).toNat IntKind.u64.bits)))).tdiv ((IntKind.u64.wrap (y * (2 : Int) ^ min (IntKind.u64.wrap (lz64 y)).toNat IntKind.u64.bits)).fdiv ((2 : Int) ^ min 32 IntKind.u64.bits))))))) := by kernel_rfl
theorem bits_Div64_l24 (hi : Int) (lo : Int) (y : Int) (v0 : Int) (v2 : Int) (v3 : Int) (k : Nat) (Q : Exit → S Un → Prop) :
    iterK (N_bits_Div64 24) (awp M_bits_Div64 N_bits_Div64 (sub (bodyOf Try.f44) [1, 1, 1, 1, 1, 1, 1, 1, 1, 1, 1, 1, 1, 1, 1, 1, 1, 1, 0, 2, 2])) Q (k + 1) (bits_Div64_s24 hi lo y v0 v2 v3) =
(cnd (decide (v3 ≥ (4294967296 : Int)))
 (cnd (decide (IntKind.u64.wrap (v2 + (IntKind.u64.wrap (y * (2 : Int) ^ min (IntKind.u64.wrap (lz64 y)).toNat IntKind.u64.bits)).fdiv ((2 : Int) ^ min 32 IntKind.u64.bits)) ≥ (4294967296 : Int)))
  (Q (.exit 2) (bits_Div64_s24 hi lo y v0 (IntKind.u64.wrap (v2 + (IntKind.u64.wrap (y * (2 : Int) ^ min (IntKind.u64.wrap (lz64 y)).toNat IntKind.u64.bits)).fdiv ((2 : Int) ^ min 32 IntKind.u64.bits))) (IntKind.u64.wrap (v3 - (1 : Int)))))
  (iterK (N_bits_Div64 24) (awp M_bits_Div64 N_bits_Div64 (sub (bodyOf Try.f44) [1, 1, 1, 1, 1, 1, 1, 1, 1, 1, 1, 1, 1, 1, 1, 1, 1, 1, 0, 2, 2])) Q k (bits_Div64_s24 hi lo y v0 (IntKind.u64.wrap (v2 + (IntKind.u64.wrap (y * (2 : Int) ^ min (IntKind.u64.wrap (lz64 y)).toNat IntKind.u64.bits)).fdiv ((2 : Int) ^ min 32 IntKind.u64.bits))) (IntKind.u64.wrap (v3 - (1 : Int))))))
 (cnd (decide (IntKind.u64.wrap (v3 * IntKind.u64.wrap (↑(BitVec.ofInt IntKind.u64.bits (IntKind.u64.wrap (y * (2 : Int) ^ min (IntKind.u64.wrap (lz64 y)).toNat IntKind.u64.bits)) &&& BitVec.ofInt IntKind.u64.bits (4294967295 : Int)).toNat : Int)) > IntKind.u64.wrap (IntKind.u64.wrap ((4294967296 : Int) * v2) + IntKind.u64.wrap (↑(BitVec.ofInt IntKind.u64.bits (IntKind.u64.wrap (lo * (2 : Int) ^ min (IntKind.u64.wrap (lz64 y)).toNat IntKind.u64.bits)) &&& BitVec.ofInt IntKind.u64.bits (4294967295 : Int)).toNat : Int))))
  (cnd (decide (IntKind.u64.wrap (v2 + (IntKind.u64.wrap (y * (2 : Int) ^ min (IntKind.u64.wrap (lz64 y)).toNat IntKind.u64.bits)).fdiv ((2 : Int) ^ min 32 IntKind.u64.bits)) ≥ (4294967296 : Int)))
   (Q (.exit 2) (bits_Div64_s24 hi lo y v0 (IntKind.u64.wrap (v2 + (IntKind.u64.wrap (y * (2 : Int) ^ min (IntKind.u64.wrap (lz64 y)).toNat IntKind.u64.bits)).fdiv ((2 : Int) ^ min 32 IntKind.u64.bits))) (IntKind.u64.wrap (v3 - (1 : Int)))))
   (iterK (N_bits_Div64 24) (awp M_bits_Div64 N_bits_Div64 (sub (bodyOf Try.f44) [1, 1, 1, 1, 1, 1, 1, 1, 1, 1, 1, 1, 1, 1, 1, 1, 1, 1, 0, 2, 2])) Q k (bits_Div64_s24 hi lo y v0 (IntKind.u64.wrap (v2 + (IntKind.u64.wrap (y * (2 : Int) ^ min (IntKind.u64.wrap (lz64 y)).toNat IntKind.u64.bits)).fdiv ((2 : Int) ^ min 32 IntKind.u64.bits))) (IntKind.u64.wrap (v3 - (1 : Int))))))
  (Q (.exit 2) (bits_Div64_s24 hi lo y v0 v2 v3)))) := by kernel_rfl
theorem bits_Div64_a24_x2 (hi : Int) (lo : Int) (y : Int) (v0 : Int) (v2 : Int) (v3 : Int) (K : List (A Un) → List (Ob Un) → Prop) :
    ctxK M_bits_Div64 N_bits_Div64 (bodyOf Try.f44) [1, 1, 1, 1, 1, 1, 1, 1, 1, 1, 1, 1, 1, 1, 1, 1, 1, 1, 0, 2] (retQ M_bits_Div64 Try.f44.results.toList [.d, .d] K) (.exit 2) (bits_Div64_s24 hi lo y v0 v2 v3) =
((¬IntKind.u64.wrap (lz64 y) < (0 : Int)) ∧
(K (A_bits_Div64 (IntKind.u64.wrap (IntKind.u64.wrap (v0 * (4294967296 : Int)) + v3), (IntKind.u64.wrap (IntKind.u64.wrap (IntKind.u64.wrap (IntKind.u64.wrap (IntKind.u64.wrap (IntKind.u64.wrap (IntKind.u64.wrap (↑(BitVec.ofInt IntKind.u64.bits (IntKind.u64.wrap (hi * (2 : Int) ^ min (IntKind.u64.wrap (lz64 y)).toNat IntKind.u64.bits)) ||| BitVec.ofInt IntKind.u64.bits (lo.fdiv ((2 : Int) ^ min (IntKind.u64.wrap ((64 : Int) - IntKind.u64.wrap (lz64 y))).toNat IntKind.u64.bits))).toNat : Int) * (4294967296 : Int)) + (IntKind.u64.wrap (lo * (2 : Int) ^ min (IntKind.u64.wrap (lz64 y)).toNat IntKind.u64.bits)).fdiv ((2 : Int) ^ min 32 IntKind.u64.bits)) - IntKind.u64.wrap (v0 * IntKind.u64.wrap (y * (2 : Int) ^ min (IntKind.u64.wrap (lz64 y)).toNat IntKind.u64.bits))) * (4294967296 : Int)) + IntKind.u64.wrap (↑(BitVec.ofInt IntKind.u64.bits (IntKind.u64.wrap (lo * (2 : Int) ^ min (IntKind.u64.wrap (lz64 y)).toNat IntKind.u64.bits)) &&& BitVec.ofInt IntKind.u64.bits (4294967295 : Int)).toNat : Int)) - IntKind.u64.wrap (v3 * IntKind.u64.wrap (y * (2 : Int) ^ min (IntKind.u64.wrap (lz64 y)).toNat IntKind.u64.bits)))).fdiv ((2 : Int) ^ min (IntKind.u64.wrap (lz64 y)).toNat IntKind.u64.bits))) (O_bits_Div64 (IntKind.u64.wrap (IntKind.u64.wrap (v0 * (4294967296 : Int)) + v3), (IntKind.u64.wrap (IntKind.u64.wrap (IntKind.u64.wrap (IntKind.u64.wrap (IntKind.u64.wrap (IntKind.u64.wrap (IntKind.u64.wrap (↑(BitVec.ofInt IntKind.u64.bits (IntKind.u64.wrap (hi * (2 : Int) ^ min (IntKind.u64.wrap (lz64 y)).toNat IntKind.u64.bits)) ||| BitVec.ofInt IntKind.u64.bits (lo.fdiv ((2 : Int) ^ min (IntKind.u64.wrap ((64 : Int) - IntKind.u64.wrap (lz64 y))).toNat IntKind.u64.bits))).toNat : Int) * (4294967296 : Int)) + (IntKind.u64.wrap (lo * (2 : Int) ^ min (IntKind.u64.wrap (lz64 y)).toNat IntKind.u64.bits)).fdiv ((2 : Int) ^ min 32 IntKind.u64.bits)) - IntKind.u64.wrap (v0 * IntKind.u64.wrap (y * (2 : Int) ^ min (IntKind.u64.wrap (lz64 y)).toNat IntKind.u64.bits))) * (4294967296 : Int)) + IntKind.u64.wrap (↑(BitVec.ofInt IntKind.u64.bits (IntKind.u64.wrap (lo * (2 : Int) ^ min (IntKind.u64.wrap (lz64 y)).toNat IntKind.u64.bits)) &&& BitVec.ofInt IntKind.u64.bits (4294967295 : Int)).toNat : Int)) - IntKind.u64.wrap (v3 * IntKind.u64.wrap (y * (2 : Int) ^ min (IntKind.u64.wrap (lz64 y)).toNat IntKind.u64.bits)))).fdiv ((2 : Int) ^ min (IntKind.u64.wrap (lz64 y)).toNat IntKind.u64.bits))))) := by kernel_rfl
def bits_Div64_S17 (hi : Int) (lo : Int) (y : Int) (v : Int × Int) : Option ((Int × Int) ⊕ (Int × Int)) :=
  if (decide (v.1 ≥ (4294967296 : Int))) = true then
   if (decide (IntKind.u64.wrap (v.2 + (IntKind.u64.wrap (y * (2 : Int) ^ min (IntKind.u64.wrap (lz64 y)).toNat IntKind.u64.bits)).fdiv ((2 : Int) ^ min 32 IntKind.u64.bits)) ≥ (4294967296 : Int))) = true then
    some (.inr ((IntKind.u64.wrap (v.1 - (1 : Int))), (IntKind.u64.wrap (v.2 + (IntKind.u64.wrap (y * (2 : Int) ^ min (IntKind.u64.wrap (lz64 y)).toNat IntKind.u64.bits)).fdiv ((2 : Int) ^ min 32 IntKind.u64.bits)))))
   else
    some (.inl ((IntKind.u64.wrap (v.1 - (1 : Int))), (IntKind.u64.wrap (v.2 + (IntKind.u64.wrap (y * (2 : Int) ^ min (IntKind.u64.wrap (lz64 y)).toNat IntKind.u64.bits)).fdiv ((2 : Int) ^ min 32 IntKind.u64.bits)))))
  else
   if (decide (IntKind.u64.wrap (v.1 * IntKind.u64.wrap (↑(BitVec.ofInt IntKind.u64.bits (IntKind.u64.wrap (y * (2 : Int) ^ min (IntKind.u64.wrap (lz64 y)).toNat IntKind.u64.bits)) &&& BitVec.ofInt IntKind.u64.bits (4294967295 : Int)).toNat : Int)) > IntKind.u64.wrap (IntKind.u64.wrap ((4294967296 : Int) * v.2) + (IntKind.u64.wrap (lo * (2 : Int) ^ min (IntKind.u64.wrap (lz64 y)).toNat IntKind.u64.bits)).fdiv ((2 : Int) ^ min 32 IntKind.u64.bits)))) = true then
    if (decide (IntKind.u64.wrap (v.2 + (IntKind.u64.wrap (y * (2 : Int) ^ min (IntKind.u64.wrap (lz64 y)).toNat IntKind.u64.bits)).fdiv ((2 : Int) ^ min 32 IntKind.u64.bits)) ≥ (4294967296 : Int))) = true then
     some (.inr ((IntKind.u64.wrap (v.1 - (1 : Int))), (IntKind.u64.wrap (v.2 + (IntKind.u64.wrap (y * (2 : Int) ^ min (IntKind.u64.wrap (lz64 y)).toNat IntKind.u64.bits)).fdiv ((2 : Int) ^ min 32 IntKind.u64.bits)))))
    else
     some (.inl ((IntKind.u64.wrap (v.1 - (1 : Int))), (IntKind.u64.wrap (v.2 + (IntKind.u64.wrap (y * (2 : Int) ^ min (IntKind.u64.wrap (lz64 y)).toNat IntKind.u64.bits)).fdiv ((2 : Int) ^ min 32 IntKind.u64.bits)))))
   else
    some (.inr (v.1, v.2))
def bits_Div64_L17 (hi : Int) (lo : Int) (y : Int) (v : Int × Int) : Option (Int × Int) := loopO (bits_Div64_S17 hi lo y) v
theorem bits_Div64_L17_eq (hi : Int) (lo : Int) (y : Int) (v : Int × Int) : bits_Div64_L17 hi lo y v = stepB (bits_Div64_L17 hi lo y) (bits_Div64_S17 hi lo y v) := loopO_eq _ _
def bits_Div64_Q17 (hi : Int) (lo : Int) (y : Int) (r : Int × Int) (Q : Exit → S Un → Prop) : Prop := Q (.exit 0) (bits_Div64_s17 hi lo y r.1 r.2)
theorem bits_Div64_Q17_x0 {hi : Int} {lo : Int} {y : Int} {r : Int × Int} {Q : Exit → S Un → Prop} (h : Q (.exit 0) (bits_Div64_s17 hi lo y r.1 r.2)) : bits_Div64_Q17 hi lo y r Q := h
theorem bits_Div64_L17_run {hi : Int} {lo : Int} {y : Int} {v : Int × Int} {r : Int × Int} (h : bits_Div64_L17 hi lo y v = some r) (Q : Exit → S Un → Prop) (hQ : bits_Div64_Q17 hi lo y r Q) : itersK (N_bits_Div64 17) (awp M_bits_Div64 N_bits_Div64 (sub (bodyOf Try.f44) [1, 1, 1, 1, 1, 1, 1, 1, 1, 1, 1, 1, 1, 1, 0, 2, 2])) Q (bits_Div64_s17 hi lo y v.1 v.2) := by
  refine @loop_run _ _ (bits_Div64_S17 hi lo y) (fun v => itersK (N_bits_Div64 17) (awp M_bits_Div64 N_bits_Div64 (sub (bodyOf Try.f44) [1, 1, 1, 1, 1, 1, 1, 1, 1, 1, 1, 1, 1, 1, 0, 2, 2])) Q (bits_Div64_s17 hi lo y v.1 v.2)) (fun r => bits_Div64_Q17 hi lo y r Q) ?_ v r h hQ
  intro v o h hI
  unfold bits_Div64_S17 at h
  rcases ite_some h with ⟨c1, h2⟩ | ⟨c1, h2⟩
  · rcases ite_some h2 with ⟨c3, h4⟩ | ⟨c3, h4⟩
    · cases h4
      exact itersK_mk 1 (mpr (bits_Div64_l17 hi lo y v.1 v.2 0 Q) (cnd_t c1 (cnd_t c3 hI)))
    · cases h4
      obtain ⟨k5, hk6⟩ := itersK_get hI
      exact itersK_mk (k5 + 1) (mpr (bits_Div64_l17 hi lo y v.1 v.2 k5 Q) (cnd_t c1 (cnd_f (bfalse c3) hk6)))
  · rcases ite_some h2 with ⟨c7, h8⟩ | ⟨c7, h8⟩
    · rcases ite_some h8 with ⟨c9, h10⟩ | ⟨c9, h10⟩
      · cases h10
        exact itersK_mk 1 (mpr (bits_Div64_l17 hi lo y v.1 v.2 0 Q) (cnd_f (bfalse c1) (cnd_t c7 (cnd_t c9 hI))))
      · cases h10
        obtain ⟨k11, hk12⟩ := itersK_get hI
        exact itersK_mk (k11 + 1) (mpr (bits_Div64_l17 hi lo y v.1 v.2 k11 Q) (cnd_f (bfalse c1) (cnd_t c7 (cnd_f (bfalse c9) hk12))))
    · cases h8
      exact itersK_mk 1 (mpr (bits_Div64_l17 hi lo y v.1 v.2 0 Q) (cnd_f (bfalse c1) (cnd_f (bfalse c7) hI)))
def bits_Div64_S24 (hi : Int) (lo : Int) (y : Int) (v : Int × Int × Int) : Option ((Int × Int × Int) ⊕ (Int × Int × Int)) :=
  if (decide (v.2.2 ≥ (4294967296 : Int))) = true then
   if (decide (IntKind.u64.wrap (v.2.1 + (IntKind.u64.wrap (y * (2 : Int) ^ min (IntKind.u64.wrap (lz64 y)).toNat IntKind.u64.bits)).fdiv ((2 : Int) ^ min 32 IntKind.u64.bits)) ≥ (4294967296 : Int))) = true then
    some (.inr (v.1, (IntKind.u64.wrap (v.2.1 + (IntKind.u64.wrap (y * (2 : Int) ^ min (IntKind.u64.wrap (lz64 y)).toNat IntKind.u64.bits)).fdiv ((2 : Int) ^ min 32 IntKind.u64.bits))), (IntKind.u64.wrap (v.2.2 - (1 : Int)))))
   else
    some (.inl (v.1, (IntKind.u64.wrap (v.2.1 + (IntKind.u64.wrap (y * (2 : Int) ^ min (IntKind.u64.wrap (lz64 y)).toNat IntKind.u64.bits)).fdiv ((2 : Int) ^ min 32 IntKind.u64.bits))), (IntKind.u64.wrap (v.2.2 - (1 : Int)))))
  else
   if (decide (IntKind.u64.wrap (v.2.2 * IntKind.u64.wrap (↑(BitVec.ofInt IntKind.u64.bits (IntKind.u64.wrap (y * (2 : Int) ^ min (IntKind.u64.wrap (lz64 y)).toNat IntKind.u64.bits)) &&& BitVec.ofInt IntKind.u64.bits (4294967295 : Int)).toNat : Int)) > IntKind.u64.wrap (IntKind.u64.wrap ((4294967296 : Int) * v.2.1) + IntKind.u64.wrap (↑(BitVec.ofInt IntKind.u64.bits (IntKind.u64.wrap (lo * (2 : Int) ^ min (IntKind.u64.wrap (lz64 y)).toNat IntKind.u64.bits)) &&& BitVec.ofInt IntKind.u64.bits (4294967295 : Int)).toNat : Int)))) = true then
    if (decide (IntKind.u64.wrap (v.2.1 + (IntKind.u64.wrap (y * (2 : Int) ^ min (IntKind.u64.wrap (lz64 y)).toNat IntKind.u64.bits)).fdiv ((2 : Int) ^ min 32 IntKind.u64.bits)) ≥ (4294967296 : Int))) = true then
     some (.inr (v.1, (IntKind.u64.wrap (v.2.1 + (IntKind.u64.wrap (y * (2 : Int) ^ min (IntKind.u64.wrap (lz64 y)).toNat IntKind.u64.bits)).fdiv ((2 : Int) ^ min 32 IntKind.u64.bits))), (IntKind.u64.wrap (v.2.2 - (1 : Int)))))
    else
     some (.inl (v.1, (IntKind.u64.wrap (v.2.1 + (IntKind.u64.wrap (y * (2 : Int) ^ min (IntKind.u64.wrap (lz64 y)).toNat IntKind.u64.bits)).fdiv ((2 : Int) ^ min 32 IntKind.u64.bits))), (IntKind.u64.wrap (v.2.2 - (1 : Int)))))
   else
    some (.inr (v.1, v.2.1, v.2.2))
def bits_Div64_L24 (hi : Int) (lo : Int) (y : Int) (v : Int × Int × Int) : Option (Int × Int × Int) := loopO (bits_Div64_S24 hi lo y) v
theorem bits_Div64_L24_eq (hi : Int) (lo : Int) (y : Int) (v : Int × Int × Int) : bits_Div64_L24 hi lo y v = stepB (bits_Div64_L24 hi lo y) (bits_Div64_S24 hi lo y v) := loopO_eq _ _
def bits_Div64_Q24 (hi : Int) (lo : Int) (y : Int) (r : Int × Int × Int) (Q : Exit → S Un → Prop) : Prop := Q (.exit 2) (bits_Div64_s24 hi lo y r.1 r.2.1 r.2.2)
theorem bits_Div64_Q24_x2 {hi : Int} {lo : Int} {y : Int} {r : Int × Int × Int} {Q : Exit → S Un → Prop} (h : Q (.exit 2) (bits_Div64_s24 hi lo y r.1 r.2.1 r.2.2)) : bits_Div64_Q24 hi lo y r Q := h
theorem bits_Div64_L24_run {hi : Int} {lo : Int} {y : Int} {v : Int × Int × Int} {r : Int × Int × Int} (h : bits_Div64_L24 hi lo y v = some r) (Q : Exit → S Un → Prop) (hQ : bits_Div64_Q24 hi lo y r Q) : itersK (N_bits_Div64 24) (awp M_bits_Div64 N_bits_Div64 (sub (bodyOf Try.f44) [1, 1, 1, 1, 1, 1, 1, 1, 1, 1, 1, 1, 1, 1, 1, 1, 1, 1, 0, 2, 2])) Q (bits_Div64_s24 hi lo y v.1 v.2.1 v.2.2) := by
  refine @loop_run _ _ (bits_Div64_S24 hi lo y) (fun v => itersK (N_bits_Div64 24) (awp M_bits_Div64 N_bits_Div64 (sub (bodyOf Try.f44) [1, 1, 1, 1, 1, 1, 1, 1, 1, 1, 1, 1, 1, 1, 1, 1, 1, 1, 0, 2, 2])) Q (bits_Div64_s24 hi lo y v.1 v.2.1 v.2.2)) (fun r => bits_Div64_Q24 hi lo y r Q) ?_ v r h hQ
  intro v o h hI
  unfold bits_Div64_S24 at h
  rcases ite_some h with ⟨c13, h14⟩ | ⟨c13, h14⟩
  · rcases ite_some h14 with ⟨c15, h16⟩ | ⟨c15, h16⟩
    · cases h16
      exact itersK_mk 1 (mpr (bits_Div64_l24 hi lo y v.1 v.2.1 v.2.2 0 Q) (cnd_t c13 (cnd_t c15 hI)))
    · cases h16
      obtain ⟨k17, hk18⟩ := itersK_get hI
      exact itersK_mk (k17 + 1) (mpr (bits_Div64_l24 hi lo y v.1 v.2.1 v.2.2 k17 Q) (cnd_t c13 (cnd_f (bfalse c15) hk18)))
  · rcases ite_some h14 with ⟨c19, h20⟩ | ⟨c19, h20⟩
    · rcases ite_some h20 with ⟨c21, h22⟩ | ⟨c21, h22⟩
      · cases h22
        exact itersK_mk 1 (mpr (bits_Div64_l24 hi lo y v.1 v.2.1 v.2.2 0 Q) (cnd_f (bfalse c13) (cnd_t c19 (cnd_t c21 hI))))
      · cases h22
        obtain ⟨k23, hk24⟩ := itersK_get hI
        exact itersK_mk (k23 + 1) (mpr (bits_Div64_l24 hi lo y v.1 v.2.1 v.2.2 k23 Q) (cnd_f (bfalse c13) (cnd_t c19 (cnd_f (bfalse c21) hk24))))
    · cases h20
      exact itersK_mk 1 (mpr (bits_Div64_l24 hi lo y v.1 v.2.1 v.2.2 0 Q) (cnd_f (bfalse c13) (cnd_f (bfalse c19) hI)))
def bits_Div64_fn (hi : Int) (lo : Int) (y : Int) : Option (Int × Int) :=
  if (y == (0 : Int)) = true then
   none
  else
   if (decide (y ≤ hi)) = true then
    none
   else
    if (hi == (0 : Int)) = true then
     if ¬y = (0 : Int) then
      if ¬y = (0 : Int) then
       some (IntKind.u64.wrap (lo.tdiv y), lo.tmod y)
      else none
     else none
    else
     if ¬IntKind.u64.wrap (lz64 y) < (0 : Int) then
      if ¬(32 : Int) < (0 : Int) then
       if ¬IntKind.u64.wrap (lz64 y) < (0 : Int) then
        if ¬IntKind.u64.wrap ((64 : Int) - IntKind.u64.wrap (lz64 y)) < (0 : Int) then
         if ¬IntKind.u64.wrap (lz64 y) < (0 : Int) then
          if ¬(32 : Int) < (0 : Int) then
           if ¬(IntKind.u64.wrap (y * (2 : Int) ^ min (IntKind.u64.wrap (lz64 y)).toNat IntKind.u64.bits)).fdiv ((2 : Int) ^ min 32 IntKind.u64.bits) = (0 : Int) then
            (bits_Div64_L17 hi lo y ((IntKind.u64.wrap ((IntKind.u64.wrap (↑(BitVec.ofInt IntKind.u64.bits (IntKind.u64.wrap (hi * (2 : Int) ^ min (IntKind.u64.wrap (lz64 y)).toNat IntKind.u64.bits)) ||| BitVec.ofInt IntKind.u64.bits (lo.fdiv ((2 : Int) ^ min (IntKind.u64.wrap ((64 : Int) - IntKind.u64.wrap (lz64 y))).toNat IntKind.u64.bits))).toNat : Int)).tdiv ((IntKind.u64.wrap (y * (2 : Int) ^ min (IntKind.u64.wrap (lz64 y)).toNat IntKind.u64.bits)).fdiv ((2 : Int) ^ min 32 IntKind.u64.bits)))), (IntKind.u64.wrap (IntKind.u64.wrap (↑(BitVec.ofInt IntKind.u64.bits (IntKind.u64.wrap (hi * (2 : Int) ^ min (IntKind.u64.wrap (lz64 y)).toNat IntKind.u64.bits)) ||| BitVec.ofInt IntKind.u64.bits (lo.fdiv ((2 : Int) ^ min (IntKind.u64.wrap ((64 : Int) - IntKind.u64.wrap (lz64 y))).toNat IntKind.u64.bits))).toNat : Int) - IntKind.u64.wrap (IntKind.u64.wrap ((IntKind.u64.wrap (↑(BitVec.ofInt IntKind.u64.bits (IntKind.u64.wrap (hi * (2 : Int) ^ min (IntKind.u64.wrap (lz64 y)).toNat IntKind.u64.bits)) ||| BitVec.ofInt IntKind.u64.bits (lo.fdiv ((2 : Int) ^ min (IntKind.u64.wrap ((64 : Int) - IntKind.u64.wrap (lz64 y))).toNat IntKind.u64.bits))).toNat : Int)).tdiv ((IntKind.u64.wrap (y * (2 : Int) ^ min (IntKind.u64.wrap (lz64 y)).toNat IntKind.u64.bits)).fdiv ((2 : Int) ^ min 32 IntKind.u64.bits))) * (IntKind.u64.wrap (y * (2 : Int) ^ min (IntKind.u64.wrap (lz64 y)).toNat IntKind.u64.bits)).fdiv ((2 : Int) ^ min 32 IntKind.u64.bits)))))) >>= fun o25 =>
             if ¬(IntKind.u64.wrap (y * (2 : Int) ^ min (IntKind.u64.wrap (lz64 y)).toNat IntKind.u64.bits)).fdiv ((2 : Int) ^ min 32 IntKind.u64.bits) = (0 : Int) then
              (bits_Div64_L24 hi lo y (o25.1, (IntKind.u64.wrap (IntKind.u64.wrap (IntKind.u64.wrap (IntKind.u64.wrap (IntKind.u64.wrap (↑(BitVec.ofInt IntKind.u64.bits (IntKind.u64.wrap (hi * (2 : Int) ^ min (IntKind.u64.wrap (lz64 y)).toNat IntKind.u64.bits)) ||| BitVec.ofInt IntKind.u64.bits (lo.fdiv ((2 : Int) ^ min (IntKind.u64.wrap ((64 : Int) - IntKind.u64.wrap (lz64 y))).toNat IntKind.u64.bits))).toNat : Int) * (4294967296 : Int)) + (IntKind.u64.wrap (lo * (2 : Int) ^ min (IntKind.u64.wrap (lz64 y)).toNat IntKind.u64.bits)).fdiv ((2 : Int) ^ min 32 IntKind.u64.bits)) - IntKind.u64.wrap (o25.1 * IntKind.u64.wrap (y * (2 : Int) ^ min (IntKind.u64.wrap (lz64 y)).toNat IntKind.u64.bits))) - IntKind.u64.wrap (IntKind.u64.wrap ((IntKind.u64.wrap (IntKind.u64.wrap (IntKind.u64.wrap (IntKind.u64.wrap (↑(BitVec.ofInt IntKind.u64.bits (IntKind.u64.wrap (hi * (2 : Int) ^ min (IntKind.u64.wrap (lz64 y)).toNat IntKind.u64.bits)) ||| BitVec.ofInt IntKind.u64.bits (lo.fdiv ((2 : Int) ^ min (IntKind.u64.wrap ((64 : Int) - IntKind.u64.wrap (lz64 y))).toNat IntKind.u64.bits))).toNat : Int) * (4294967296 : Int)) + (IntKind.u64.wrap (lo * (2 : Int) ^ min (IntKind.u64.wrap (lz64 y)).toNat IntKind.u64.bits)).fdiv ((2 : Int) ^ min 32 IntKind.u64.bits)) - IntKind.u64.wrap (o25.1 * IntKind.u64.wrap (y * (2 : Int) ^ min (IntKind.u64.wrap (lz64 y)).toNat IntKind.u64.bits)))).tdiv ((IntKind.u64.wrap (y * (2 : Int) ^ min (IntKind.u64.wrap (lz64 y)).toNat IntKind.u64.bits)).fdiv ((2 : Int) ^ min 32 IntKind.u64.bits))) * (IntKind.u64.wrap (y * (2 : Int) ^ min (IntKind.u64.wrap (lz64 y)).toNat IntKind.u64.bits)).fdiv ((2 : Int) ^ min 32 IntKind.u64.bits)))), (IntKind.u64.wrap ((IntKind.u64.wrap (IntKind.u64.wrap (IntKind.u64.wrap (IntKind.u64.wrap (↑(BitVec.ofInt IntKind.u64.bits (IntKind.u64.wrap (hi * (2 : Int) ^ min (IntKind.u64.wrap (lz64 y)).toNat IntKind.u64.bits)) ||| BitVec.ofInt IntKind.u64.bits (lo.fdiv ((2 : Int) ^ min (IntKind.u64.wrap ((64 : Int) - IntKind.u64.wrap (lz64 y))).toNat IntKind.u64.bits))).toNat : Int) * (4294967296 : Int)) + (IntKind.u64.wrap (lo * (2 : Int) ^ min (IntKind.u64.wrap (lz64 y)).toNat IntKind.u64.bits)).fdiv ((2 : Int) ^ min 32 IntKind.u64.bits)) - IntKind.u64.wrap (o25.1 * IntKind.u64.wrap (y * (2 : Int) ^ min (IntKind.u64.wrap (lz64 y)).toNat IntKind.u64.bits)))).tdiv ((IntKind.u64.wrap (y * (2 : Int) ^ min (IntKind.u64.wrap (lz64 y)).toNat IntKind.u64.bits)).fdiv ((2 : Int) ^ min 32 IntKind.u64.bits)))))) >>= fun o26 =>
               if ¬IntKind.u64.wrap (lz64 y) < (0 : Int) then
                some (IntKind.u64.wrap (IntKind.u64.wrap (o26.1 * (4294967296 : Int)) + o26.2.2), (IntKind.u64.wrap (IntKind.u64.wrap (IntKind.u64.wrap (IntKind.u64.wrap (IntKind.u64.wrap (IntKind.u64.wrap (IntKind.u64.wrap (↑(BitVec.ofInt IntKind.u64.bits (IntKind.u64.wrap (hi * (2 : Int) ^ min (IntKind.u64.wrap (lz64 y)).toNat IntKind.u64.bits)) ||| BitVec.ofInt IntKind.u64.bits (lo.fdiv ((2 : Int) ^ min (IntKind.u64.wrap ((64 : Int) - IntKind.u64.wrap (lz64 y))).toNat IntKind.u64.bits))).toNat : Int) * (4294967296 : Int)) + (IntKind.u64.wrap (lo * (2 : Int) ^ min (IntKind.u64.wrap (lz64 y)).toNat IntKind.u64.bits)).fdiv ((2 : Int) ^ min 32 IntKind.u64.bits)) - IntKind.u64.wrap (o26.1 * IntKind.u64.wrap (y * (2 : Int) ^ min (IntKind.u64.wrap (lz64 y)).toNat IntKind.u64.bits))) * (4294967296 : Int)) + IntKind.u64.wrap (↑(BitVec.ofInt IntKind.u64.bits (IntKind.u64.wrap (lo * (2 : Int) ^ min (IntKind.u64.wrap (lz64 y)).toNat IntKind.u64.bits)) &&& BitVec.ofInt IntKind.u64.bits (4294967295 : Int)).toNat : Int)) - IntKind.u64.wrap (o26.2.2 * IntKind.u64.wrap (y * (2 : Int) ^ min (IntKind.u64.wrap (lz64 y)).toNat IntKind.u64.bits)))).fdiv ((2 : Int) ^ min (IntKind.u64.wrap (lz64 y)).toNat IntKind.u64.bits))
               else none
             else none
           else none
          else none
         else none
        else none
       else none
      else none
     else none
theorem bits_Div64_run {hi : Int} {lo : Int} {y : Int} {r : Int × Int} (h : bits_Div64_fn hi lo y = some r) : Runs (awp M_bits_Div64 N_bits_Div64 (bodyOf Try.f44) (entry Try.f44.ntmps 0 [.d (.v (.s (.int .u64 hi))), .d (.v (.s (.int .u64 lo))), .d (.v (.s (.int .u64 y)))]) (retQ M_bits_Div64 Try.f44.results.toList [.d, .d] fun rs os => rs = A_bits_Div64 r ∧ os = O_bits_Div64 r)) := by
  constructor
  rw [bits_Div64_in hi lo y (fun rs os => rs = A_bits_Div64 r ∧ os = O_bits_Div64 r)]
  unfold bits_Div64_fn at h
  rcases ite_some h with ⟨c27, h28⟩ | ⟨c27, h28⟩
  · exact absurd h28 (by simp)
  · rcases ite_some h28 with ⟨c29, h30⟩ | ⟨c29, h30⟩
    · exact absurd h30 (by simp)
    · rcases ite_some h30 with ⟨c31, h32⟩ | ⟨c31, h32⟩
      · obtain ⟨c33, h34⟩ := ob_some h32
        obtain ⟨c35, h36⟩ := ob_some h34
        cases h36
        exact (cnd_f (bfalse c27) (cnd_f (bfalse c29) (cnd_t c31 (And.intro c33 (And.intro c35 ⟨rfl, rfl⟩)))))
      · obtain ⟨c37, h38⟩ := ob_some h32
        obtain ⟨c39, h40⟩ := ob_some h38
        obtain ⟨c41, h42⟩ := ob_some h40
        obtain ⟨c43, h44⟩ := ob_some h42
        obtain ⟨c45, h46⟩ := ob_some h44
        obtain ⟨c47, h48⟩ := ob_some h46
        obtain ⟨c49, h50⟩ := ob_some h48
        obtain ⟨o51, ho52, h53⟩ := bind_some h50
        obtain ⟨c54, h55⟩ := ob_some h53
        obtain ⟨o56, ho57, h58⟩ := bind_some h55
        obtain ⟨c59, h60⟩ := ob_some h58
        cases h60
        exact (cnd_f (bfalse c27) (cnd_f (bfalse c29) (cnd_f (bfalse c31) (And.intro c37 (And.intro c39 (And.intro c41 (And.intro c43 (And.intro c45 (And.intro c47 (And.intro c49 (bits_Div64_L17_run ho52 _ (bits_Div64_Q17_x0 (mpr (bits_Div64_a17_x0 hi lo y o51.1 o51.2 _) (And.intro c54 (bits_Div64_L24_run ho57 _ (bits_Div64_Q24_x2 (mpr (bits_Div64_a24_x2 hi lo y o56.1 o56.2.1 o56.2.2 _) (And.intro c59 ⟨rfl, rfl⟩))))))))))))))))))

theorem pow32 : ((2 : Int) ^ min 32 IntKind.u64.bits) = ((4294967296 : Nat) : Int) := by decide
theorem Div64_loop1 {hi lo y : Int} {d n : Nat}
    (Ey : IntKind.u64.wrap (y * (2 : Int) ^ min (IntKind.u64.wrap (lz64 y)).toNat IntKind.u64.bits) = (d : Int)) (El : IntKind.u64.wrap (lo * (2 : Int) ^ min (IntKind.u64.wrap (lz64 y)).toNat IntKind.u64.bits) = (n : Int))
    (hd : d < 18446744073709551616) (hd1 : 9223372036854775808 ≤ d) (hn : n < 18446744073709551616) (u : Nat) (hu : u < d) :
    ∀ (q r : Nat), q * (d / 4294967296) + r = u → r < 4294967296 → (u * 4294967296 + n / 4294967296) / d ≤ q →
      ∃ r', bits_Div64_L17 hi lo y ((q : Int), (r : Int)) = some ((((u * 4294967296 + n / 4294967296) / d : Nat) : Int), r') := by
  have hdm : d = d / 4294967296 * 4294967296 + d % 4294967296 := by omega
  have hy1 : 0 < d / 4294967296 := by omega
  have hu1 : n / 4294967296 < 4294967296 := by omega
  have hQ : (u * 4294967296 + n / 4294967296) / d < 4294967296 := by
    have := digit_lt (u := u) (y1 := d / 4294967296) (y0 := d % 4294967296) (u1 := n / 4294967296) (by omega) hu1
    rwa [← hdm] at this
  have hgreat : ∀ q r : Nat, q * (d / 4294967296) + r = u → 4294967296 * r + n / 4294967296 < q * (d % 4294967296) → (u * 4294967296 + n / 4294967296) / d < q := by
    intro q r h1 h2
    have := digit_great (y0 := d % 4294967296) h1 h2
    rwa [← hdm] at this
  have hsmall : ∀ q r : Nat, q * (d / 4294967296) + r = u → q * (d % 4294967296) ≤ 4294967296 * r + n / 4294967296 → q ≤ (u * 4294967296 + n / 4294967296) / d := by
    intro q r h1 h2
    have := digit_small (y0 := d % 4294967296) (u1 := n / 4294967296) (by omega) h1 h2
    rwa [← hdm] at this
  generalize hQd : (u * 4294967296 + n / 4294967296) / d = Q at *
  have hy1b : d / 4294967296 < 4294967296 := by omega
  have hy0b : d % 4294967296 < 4294967296 := by omega
  intro q
  induction q with
  | zero =>
    intro r h1 h2 h3
    have hq0 : Q = 0 := by omega
    subst hq0
    rw [bits_Div64_L17_eq, bits_Div64_S17]
    simp only [Ey, El, pow32, fdivn, and_low hd]
    have c1 : ¬ (((0 : Nat) : Int) ≥ 4294967296) := by decide
    have c2 : ¬ (IntKind.u64.wrap (((0 : Nat) : Int) * ((d % 4294967296 : Nat) : Int)) > IntKind.u64.wrap (IntKind.u64.wrap (4294967296 * (r : Int)) + ((n / 4294967296 : Nat) : Int))) := by
      rw [wrapu (n := 4294967296 * (r : Int)) (by omega), wrapu (n := 4294967296 * (r : Int) + _) (by omega)]
      have : ((0 : Nat) : Int) * ((d % 4294967296 : Nat) : Int) = 0 := by simp
      rw [this, wrapu (by omega)]; omega
    rw [if_neg (by simp), if_neg (by simpa using c2), stepB_inr]
    exact ⟨_, rfl⟩
  | succ q ih =>
    intro r h1 h2 h3
    have hq : (q + 1) * (d / 4294967296) = q * (d / 4294967296) + d / 4294967296 := Nat.succ_mul _ _
    have hqle : q ≤ q * (d / 4294967296) := Nat.le_mul_of_pos_right q hy1
    -- the round that takes one off
    have off : Q < q + 1 → ∃ r', stepB (bits_Div64_L17 hi lo y) (if (decide (IntKind.u64.wrap ((r : Int) + ((d / 4294967296 : Nat) : Int)) ≥ (4294967296 : Int))) = true then some (.inr (IntKind.u64.wrap (((q + 1 : Nat) : Int) - 1), IntKind.u64.wrap ((r : Int) + ((d / 4294967296 : Nat) : Int)))) else some (.inl (IntKind.u64.wrap (((q + 1 : Nat) : Int) - 1), IntKind.u64.wrap ((r : Int) + ((d / 4294967296 : Nat) : Int))))) = some ((Q : Int), r') := by
      intro hlt
      have w1 : IntKind.u64.wrap (((q + 1 : Nat) : Int) - 1) = (q : Int) := by rw [wrapu (by omega)]; omega
      have w2 : IntKind.u64.wrap ((r : Int) + ((d / 4294967296 : Nat) : Int)) = ((r + d / 4294967296 : Nat) : Int) := by rw [wrapu (by omega)]; omega
      rw [w1, w2]
      by_cases hr : 4294967296 ≤ r + d / 4294967296
      · have hqb : q < 4294967296 := by
          rcases Nat.lt_or_ge q 4294967296 with h | h
          · exact h
          · have := Nat.mul_le_mul_right (d / 4294967296) h
            omega
        have : q * (d % 4294967296) ≤ 4294967296 * (r + d / 4294967296) + n / 4294967296 := by
          have h5 : q * (d % 4294967296) ≤ 4294967296 * 4294967296 := Nat.mul_le_mul (by omega) (by omega)
          omega
        have := hsmall q (r + d / 4294967296) (by omega) this
        have : q = Q := by omega
        subst this
        rw [if_pos (by simp; omega), stepB_inr]; exact ⟨_, rfl⟩
      · rw [if_neg (by simp; omega), stepB_inl]
        exact ih (r + d / 4294967296) (by omega) (by omega) (by omega)
    rw [bits_Div64_L17_eq, bits_Div64_S17]
    simp only [Ey, El, pow32, fdivn, and_low hd]
    by_cases hb : 4294967296 ≤ q + 1
    · rw [if_pos (by simp; omega)]
      exact off (by omega)
    · rw [if_neg (by simp; omega)]
      have hp : (q + 1) * (d % 4294967296) ≤ 4294967295 * 4294967295 := Nat.mul_le_mul (by omega) (by omega)
      have w3 : IntKind.u64.wrap (((q + 1 : Nat) : Int) * ((d % 4294967296 : Nat) : Int)) = (((q + 1) * (d % 4294967296) : Nat) : Int) := by
        rw [← Int.natCast_mul, wrapu (by omega)]
      have w4 : IntKind.u64.wrap (IntKind.u64.wrap (4294967296 * (r : Int)) + ((n / 4294967296 : Nat) : Int)) = ((4294967296 * r + n / 4294967296 : Nat) : Int) := by
        rw [wrapu (n := 4294967296 * (r : Int)) (by omega), wrapu (by omega)]; omega
      rw [w3, w4]
      by_cases ht : 4294967296 * r + n / 4294967296 < (q + 1) * (d % 4294967296)
      · rw [if_pos (by simp only [decide_eq_true_eq]; omega)]
        exact off (hgreat (q + 1) r h1 ht)
      · rw [if_neg (by simp only [decide_eq_true_eq]; omega), stepB_inr]
        have := hsmall (q + 1) r h1 (by omega)
        have : q + 1 = Q := by omega
        subst this
        exact ⟨_, rfl⟩
theorem Div64_loop2 {hi lo y : Int} {d n : Nat}
    (Ey : IntKind.u64.wrap (y * (2 : Int) ^ min (IntKind.u64.wrap (lz64 y)).toNat IntKind.u64.bits) = (d : Int)) (El : IntKind.u64.wrap (lo * (2 : Int) ^ min (IntKind.u64.wrap (lz64 y)).toNat IntKind.u64.bits) = (n : Int))
    (hd : d < 18446744073709551616) (hd1 : 9223372036854775808 ≤ d) (hn : n < 18446744073709551616) (u : Nat) (hu : u < d) (z : Int) :
    ∀ (q r : Nat), q * (d / 4294967296) + r = u → r < 4294967296 → (u * 4294967296 + n % 4294967296) / d ≤ q →
      ∃ r', bits_Div64_L24 hi lo y (z, (r : Int), (q : Int)) = some (z, r', (((u * 4294967296 + n % 4294967296) / d : Nat) : Int)) := by
  have hdm : d = d / 4294967296 * 4294967296 + d % 4294967296 := by omega
  have hy1 : 0 < d / 4294967296 := by omega
  have hu1 : n % 4294967296 < 4294967296 := Nat.mod_lt _ (by decide)
  have hQ : (u * 4294967296 + n % 4294967296) / d < 4294967296 := by
    have := digit_lt (u := u) (y1 := d / 4294967296) (y0 := d % 4294967296) (u1 := n % 4294967296) (by omega) hu1
    rwa [← hdm] at this
  have hgreat : ∀ q r : Nat, q * (d / 4294967296) + r = u → 4294967296 * r + n % 4294967296 < q * (d % 4294967296) → (u * 4294967296 + n % 4294967296) / d < q := by
    intro q r h1 h2
    have := digit_great (y0 := d % 4294967296) h1 h2
    rwa [← hdm] at this
  have hsmall : ∀ q r : Nat, q * (d / 4294967296) + r = u → q * (d % 4294967296) ≤ 4294967296 * r + n % 4294967296 → q ≤ (u * 4294967296 + n % 4294967296) / d := by
    intro q r h1 h2
    have := digit_small (y0 := d % 4294967296) (u1 := n % 4294967296) (by omega) h1 h2
    rwa [← hdm] at this
  generalize hQd : (u * 4294967296 + n % 4294967296) / d = Q at *
  have hy1b : d / 4294967296 < 4294967296 := by omega
  have hy0b : d % 4294967296 < 4294967296 := by omega
  intro q
  induction q with
  | zero =>
    intro r h1 h2 h3
    have hq0 : Q = 0 := by omega
    subst hq0
    rw [bits_Div64_L24_eq, bits_Div64_S24]
    simp only [Ey, El, pow32, fdivn, and_low hd, and_low hn]
    have c1 : ¬ (((0 : Nat) : Int) ≥ 4294967296) := by decide
    have c2 : ¬ (IntKind.u64.wrap (((0 : Nat) : Int) * ((d % 4294967296 : Nat) : Int)) > IntKind.u64.wrap (IntKind.u64.wrap (4294967296 * (r : Int)) + ((n % 4294967296 : Nat) : Int))) := by
      rw [wrapu (n := 4294967296 * (r : Int)) (by omega), wrapu (n := 4294967296 * (r : Int) + _) (by omega)]
      have : ((0 : Nat) : Int) * ((d % 4294967296 : Nat) : Int) = 0 := by simp
      rw [this, wrapu (by omega)]; omega
    rw [if_neg (by simp), if_neg (by simpa using c2), stepB_inr]
    exact ⟨_, rfl⟩
  | succ q ih =>
    intro r h1 h2 h3
    have hq : (q + 1) * (d / 4294967296) = q * (d / 4294967296) + d / 4294967296 := Nat.succ_mul _ _
    have hqle : q ≤ q * (d / 4294967296) := Nat.le_mul_of_pos_right q hy1
    -- the round that takes one off
    have off : Q < q + 1 → ∃ r', stepB (bits_Div64_L24 hi lo y) (if (decide (IntKind.u64.wrap ((r : Int) + ((d / 4294967296 : Nat) : Int)) ≥ (4294967296 : Int))) = true then some (.inr (z, IntKind.u64.wrap ((r : Int) + ((d / 4294967296 : Nat) : Int)), IntKind.u64.wrap (((q + 1 : Nat) : Int) - 1))) else some (.inl (z, IntKind.u64.wrap ((r : Int) + ((d / 4294967296 : Nat) : Int)), IntKind.u64.wrap (((q + 1 : Nat) : Int) - 1)))) = some (z, r', (Q : Int)) := by
      intro hlt
      have w1 : IntKind.u64.wrap (((q + 1 : Nat) : Int) - 1) = (q : Int) := by rw [wrapu (by omega)]; omega
      have w2 : IntKind.u64.wrap ((r : Int) + ((d / 4294967296 : Nat) : Int)) = ((r + d / 4294967296 : Nat) : Int) := by rw [wrapu (by omega)]; omega
      rw [w1, w2]
      by_cases hr : 4294967296 ≤ r + d / 4294967296
      · have hqb : q < 4294967296 := by
          rcases Nat.lt_or_ge q 4294967296 with h | h
          · exact h
          · have := Nat.mul_le_mul_right (d / 4294967296) h
            omega
        have : q * (d % 4294967296) ≤ 4294967296 * (r + d / 4294967296) + n % 4294967296 := by
          have h5 : q * (d % 4294967296) ≤ 4294967296 * 4294967296 := Nat.mul_le_mul (by omega) (by omega)
          omega
        have := hsmall q (r + d / 4294967296) (by omega) this
        have : q = Q := by omega
        subst this
        rw [if_pos (by simp; omega), stepB_inr]; exact ⟨_, rfl⟩
      · rw [if_neg (by simp; omega), stepB_inl]
        exact ih (r + d / 4294967296) (by omega) (by omega) (by omega)
    rw [bits_Div64_L24_eq, bits_Div64_S24]
    simp only [Ey, El, pow32, fdivn, and_low hd, and_low hn]
    by_cases hb : 4294967296 ≤ q + 1
    · rw [if_pos (by simp; omega)]
      exact off (by omega)
    · rw [if_neg (by simp; omega)]
      have hp : (q + 1) * (d % 4294967296) ≤ 4294967295 * 4294967295 := Nat.mul_le_mul (by omega) (by omega)
      have w3 : IntKind.u64.wrap (((q + 1 : Nat) : Int) * ((d % 4294967296 : Nat) : Int)) = (((q + 1) * (d % 4294967296) : Nat) : Int) := by
        rw [← Int.natCast_mul, wrapu (by omega)]
      have w4 : IntKind.u64.wrap (IntKind.u64.wrap (4294967296 * (r : Int)) + ((n % 4294967296 : Nat) : Int)) = ((4294967296 * r + n % 4294967296 : Nat) : Int) := by
        rw [wrapu (n := 4294967296 * (r : Int)) (by omega), wrapu (by omega)]; omega
      rw [w3, w4]
      by_cases ht : 4294967296 * r + n % 4294967296 < (q + 1) * (d % 4294967296)
      · rw [if_pos (by simp only [decide_eq_true_eq]; omega)]
        exact off (hgreat (q + 1) r h1 ht)
      · rw [if_neg (by simp only [decide_eq_true_eq]; omega), stepB_inr]
        have := hsmall (q + 1) r h1 (by omega)
        have : q + 1 = Q := by omega
        subst this
        exact ⟨_, rfl⟩

theorem lz64_spec {y : Int} (h0 : 0 < y) (h1 : y ≤ 18446744073709551615) : ∃ s : Nat, lz64 y = (s : Int) ∧ s ≤ 63 ∧ 9223372036854775808 ≤ y.toNat * 2 ^ s ∧ y.toNat * 2 ^ s < 18446744073709551616 := by
  have key : ∀ (k x : Nat), x ≠ 0 → x < 2 ^ k → k ≤ 64 → 0 < Lib.bitLen x ∧ Lib.bitLen x ≤ k ∧ 2 ^ (Lib.bitLen x - 1) ≤ x ∧ x < 2 ^ Lib.bitLen x := by
    intro k
    induction k with
    | zero => intro x hx h _; simp at h; omega
    | succ k ih =>
      intro x hx h hk
      have h64 : x < 2 ^ 64 := Nat.lt_of_lt_of_le h (Nat.pow_le_pow_right (by decide) hk)
      rw [Lib.bitLen_half x hx h64]
      by_cases h2 : x / 2 = 0
      · have : x = 1 := by omega
        subst this
        have : Lib.bitLen (1 / 2) = 0 := by decide
        rw [this]; refine ⟨by omega, by omega, by decide, by decide⟩
      · have hlt : x / 2 < 2 ^ k := by rw [Nat.pow_succ] at h; omega
        obtain ⟨g1, g2, g3, g4⟩ := ih (x / 2) h2 hlt (by omega)
        refine ⟨by omega, by omega, ?_, ?_⟩
        · rw [show 1 + Lib.bitLen (x / 2) - 1 = (Lib.bitLen (x / 2) - 1) + 1 from by omega, Nat.pow_succ]; omega
        · rw [Nat.add_comm, Nat.pow_succ]; omega
  obtain ⟨g1, g2, g3, g4⟩ := key 64 y.toNat (by omega) (by omega) (by omega)
  refine ⟨64 - Lib.bitLen y.toNat, by unfold lz64; omega, by omega, ?_, ?_⟩
  · have : 2 ^ (Lib.bitLen y.toNat - 1) * 2 ^ (64 - Lib.bitLen y.toNat) = 9223372036854775808 := by
      rw [← Nat.pow_add, show Lib.bitLen y.toNat - 1 + (64 - Lib.bitLen y.toNat) = 63 from by omega]
    rw [← this]; exact Nat.mul_le_mul_right _ g3
  · have : 2 ^ (Lib.bitLen y.toNat) * 2 ^ (64 - Lib.bitLen y.toNat) = 18446744073709551616 := by
      rw [← Nat.pow_add, show Lib.bitLen y.toNat + (64 - Lib.bitLen y.toNat) = 64 from by omega]
    rw [← this]; exact Nat.mul_lt_mul_of_pos_right g4 (Nat.pow_pos (by decide))

def bits_Div64 (hi lo y : Int) : Int × Int := (((hi.toNat * 18446744073709551616 + lo.toNat) / y.toNat : Nat), ((hi.toNat * 18446744073709551616 + lo.toNat) % y.toNat : Nat))

theorem two_digits' {u n d q r : Nat} (hd : 0 < d) (h1 : d * q + r = u * 4294967296 + n / 4294967296) : (u * 18446744073709551616 + n) / d = q * 4294967296 + (r * 4294967296 + n % 4294967296) / d ∧
    (u * 18446744073709551616 + n) % d = (r * 4294967296 + n % 4294967296) % d := by
  have h2 : u * 18446744073709551616 + n = (r * 4294967296 + n % 4294967296) + d * (q * 4294967296) := by
    have : d * (q * 4294967296) = (d * q) * 4294967296 := by rw [Nat.mul_assoc]
    rw [this]; omega
  rw [h2, Nat.add_mul_div_left _ _ hd, Nat.add_mul_mod_self_left]
  exact ⟨by omega, Eq.refl _⟩
theorem two_digits {u n d : Nat} (hd : 0 < d) : (u * 18446744073709551616 + n) / d = (u * 4294967296 + n / 4294967296) / d * 4294967296 + ((u * 4294967296 + n / 4294967296) % d * 4294967296 + n % 4294967296) / d ∧
    (u * 18446744073709551616 + n) % d = ((u * 4294967296 + n / 4294967296) % d * 4294967296 + n % 4294967296) % d :=
  two_digits' hd (Nat.div_add_mod _ d)
theorem sub_wrap {U u1 P R : Nat} (h : U * 4294967296 + u1 = P + R) (hR : R < 18446744073709551616) :
    IntKind.u64.wrap (IntKind.u64.wrap (IntKind.u64.wrap ((U : Int) * 4294967296) + (u1 : Int)) - IntKind.u64.wrap (P : Int)) = (R : Int) := by
  simp only [wrapu_mod]; omega
theorem rem_wrap {u y : Nat} (h : u < 18446744073709551616) : IntKind.u64.wrap ((u : Int) - IntKind.u64.wrap (IntKind.u64.wrap ((u / y : Nat) : Int) * (y : Int))) = ((u % y : Nat) : Int) := by
  have h1 := Nat.div_mul_le_self u y
  have h2 : u / y ≤ u := Nat.div_le_self _ _
  have h3 := Nat.div_add_mod u y
  rw [Nat.mul_comm] at h3
  generalize u / y = q at *
  generalize u % y = r at *
  rw [wrapu (n := (q : Int)) (by omega), ← Int.natCast_mul, wrapu (n := ((q * y : Nat) : Int)) (by omega), wrapu (by omega)]
  omega
theorem bits_Div64_spec (hi lo y : Int) (h1 : WK .u64 hi) (h2 : WK .u64 lo) (h3 : WK .u64 y) (hlt : hi < y) : bits_Div64_fn hi lo y = some (bits_Div64 hi lo y) := by
  unfold WK at h1 h2 h3
  rw [u64_min, u64_max] at h1 h2 h3
  obtain ⟨s, e1, e2, e3, e4⟩ := lz64_spec (y := y) (by omega) h3.2
  obtain ⟨h, rfl⟩ := Int.eq_ofNat_of_zero_le h1.1
  obtain ⟨l, rfl⟩ := Int.eq_ofNat_of_zero_le h2.1
  obtain ⟨c, rfl⟩ := Int.eq_ofNat_of_zero_le h3.1
  simp only [Int.toNat_natCast] at e3 e4
  unfold bits_Div64_fn bits_Div64
  simp only [Int.toNat_natCast]
  have c0 : ¬ ((c : Int) = 0) := by omega
  have c1 : ¬ ((c : Int) ≤ (h : Int)) := by omega
  rw [if_neg (by simpa using c0), if_neg (by simpa using c1)]
  by_cases hz : h = 0
  · subst hz
    rw [if_pos (by simp), if_pos c0, if_pos c0, tdivn, tmodn]
    have : l / c ≤ l := Nat.div_le_self _ _
    have e : (0 * 18446744073709551616 + l) = l := by omega
    rw [e]
    generalize l / c = z at *
    rw [wrapu (by omega)]
  · rw [if_neg (by simpa using hz)]
    have ws : IntKind.u64.wrap (lz64 (c : Int)) = (s : Int) := by rw [e1, wrapu (by omega)]
    have hm : min s IntKind.u64.bits = s := by show min s 64 = s; omega
    have hp : ((2 : Int) ^ s) = ((2 ^ s : Nat) : Int) := by simp
    have Ey : IntKind.u64.wrap ((c : Int) * (2 : Int) ^ min (IntKind.u64.wrap (lz64 (c : Int))).toNat IntKind.u64.bits) = ((c * 2 ^ s : Nat) : Int) := by
      rw [ws, Int.toNat_natCast, hm, hp, ← Int.natCast_mul, wrapu (by omega)]
    have El : IntKind.u64.wrap ((l : Int) * (2 : Int) ^ min (IntKind.u64.wrap (lz64 (c : Int))).toNat IntKind.u64.bits) = ((l * 2 ^ s % 18446744073709551616 : Nat) : Int) := by
      rw [ws, Int.toNat_natCast, hm, hp, ← Int.natCast_mul, wrapu_mod]; omega
    have hsp : 2 ^ (64 - s) * 2 ^ s = 18446744073709551616 := by rw [← Nat.pow_add, show 64 - s + s = 64 from by omega]
    have hb : l / 2 ^ (64 - s) < 2 ^ s := by
      rw [Nat.div_lt_iff_lt_mul (Nat.pow_pos (by decide)), Nat.mul_comm, hsp]; omega
    have hcs : h * 2 ^ s + 2 ^ s ≤ c * 2 ^ s := by
      rw [← Nat.succ_mul]; exact Nat.mul_le_mul_right _ (by omega)
    have hspos : 0 < 2 ^ s := Nat.pow_pos (by decide)
    have hc2 : 2 ^ s * h = h * 2 ^ s := Nat.mul_comm _ _
    have Eh : IntKind.u64.wrap ((BitVec.ofInt IntKind.u64.bits (IntKind.u64.wrap ((h : Int) * (2 : Int) ^ min (IntKind.u64.wrap (lz64 (c : Int))).toNat IntKind.u64.bits)) ||| BitVec.ofInt IntKind.u64.bits ((l : Int).fdiv ((2 : Int) ^ min (IntKind.u64.wrap ((64 : Int) - IntKind.u64.wrap (lz64 (c : Int)))).toNat IntKind.u64.bits))).toNat : Int) = ((2 ^ s * h + l / 2 ^ (64 - s) : Nat) : Int) := by
      have a1 : IntKind.u64.wrap ((h : Int) * (2 : Int) ^ min (IntKind.u64.wrap (lz64 (c : Int))).toNat IntKind.u64.bits) = ((2 ^ s * h : Nat) : Int) := by
        rw [ws, Int.toNat_natCast, hm, hp, ← Int.natCast_mul, Nat.mul_comm h (2 ^ s), wrapu (by omega)]
      have a2 : (l : Int).fdiv ((2 : Int) ^ min (IntKind.u64.wrap ((64 : Int) - IntKind.u64.wrap (lz64 (c : Int)))).toNat IntKind.u64.bits) = ((l / 2 ^ (64 - s) : Nat) : Int) := by
        rw [ws, wrapu (n := 64 - (s : Int)) (by omega)]
        have : ((64 : Int) - (s : Int)).toNat = 64 - s := by omega
        rw [this, show min (64 - s) IntKind.u64.bits = 64 - s from by show min (64 - s) 64 = _; omega]
        rw [show ((2 : Int) ^ (64 - s)) = ((2 ^ (64 - s) : Nat) : Int) from by simp, fdivn]
      rw [a1, a2]
      generalize l / 2 ^ (64 - s) = b0 at *
      have hc2 : 2 ^ s * h = h * 2 ^ s := Nat.mul_comm _ _
      exact or_low hb (by omega)
    have hu : 2 ^ s * h + l / 2 ^ (64 - s) < c * 2 ^ s := by
      have hc2 : 2 ^ s * h = h * 2 ^ s := Nat.mul_comm _ _
      generalize l / 2 ^ (64 - s) = b0 at *
      omega
    have hun : (2 ^ s * h + l / 2 ^ (64 - s)) * 18446744073709551616 + l * 2 ^ s % 18446744073709551616 = (h * 18446744073709551616 + l) * 2 ^ s := by
      have g1 : l * 2 ^ s / 18446744073709551616 = l / 2 ^ (64 - s) := by
        rw [← hsp]; exact Nat.mul_div_mul_right _ _ (Nat.pow_pos (by decide))
      have g2 := Nat.div_add_mod (l * 2 ^ s) 18446744073709551616
      rw [g1] at g2
      have g3 : (h * 18446744073709551616 + l) * 2 ^ s = 2 ^ s * h * 18446744073709551616 + l * 2 ^ s := by
        rw [Nat.add_mul]; congr 1
        rw [Nat.mul_comm (2 ^ s) h, Nat.mul_right_comm]
      rw [g3]; omega
    have hq : (h * 18446744073709551616 + l) / c = ((2 ^ s * h + l / 2 ^ (64 - s)) * 18446744073709551616 + l * 2 ^ s % 18446744073709551616) / (c * 2 ^ s) := by
      rw [hun, Nat.mul_div_mul_right _ _ hspos]
    have hr : (h * 18446744073709551616 + l) % c = ((2 ^ s * h + l / 2 ^ (64 - s)) * 18446744073709551616 + l * 2 ^ s % 18446744073709551616) % (c * 2 ^ s) / 2 ^ s := by
      rw [hun, Nat.mul_mod_mul_right, Nat.mul_div_cancel _ hspos]
    have fs : ¬ (IntKind.u64.wrap (lz64 (c : Int)) < 0) := by rw [ws]; omega
    have f2 : ¬ (IntKind.u64.wrap ((64 : Int) - IntKind.u64.wrap (lz64 (c : Int))) < 0) := by rw [ws, wrapu (by omega)]; omega
    have f32 : ¬ ((32 : Int) < 0) := by decide
    simp only [Ey, El, Eh, pow32, fdivn, fs, f2, f32, not_false_eq_true, if_true]
    have hn : l * 2 ^ s % 18446744073709551616 < 18446744073709551616 := Nat.mod_lt _ (by decide)
    rw [hq, hr, ws, Int.toNat_natCast, hm, hp]
    generalize l * 2 ^ s % 18446744073709551616 = n at *
    generalize 2 ^ s * h + l / 2 ^ (64 - s) = u at *
    generalize c * 2 ^ s = d at *
    have hy1 : 0 < d / 4294967296 := by omega
    have fy : ¬ (((d / 4294967296 : Nat) : Int) = 0) := by omega
    rw [if_pos fy]
    have wn : ∀ {z : Nat}, z < 18446744073709551616 → IntKind.u64.wrap (z : Int) = (z : Int) := fun hz => wrapu ⟨Int.natCast_nonneg _, by omega⟩
    have hdm : d = d / 4294967296 * 4294967296 + d % 4294967296 := by omega
    have hd0 : 0 < d := by omega
    have hu64 : u < 18446744073709551616 := by omega
    obtain ⟨Q1, R1, hQ, hdm1, hR1⟩ : ∃ q r, (u * 4294967296 + n / 4294967296) / d = q ∧ d * q + r = u * 4294967296 + n / 4294967296 ∧ r < d := ⟨_, _, rfl, Nat.div_add_mod _ _, Nat.mod_lt _ hd0⟩
    obtain ⟨Q0, R0, hQ0e, hdm0, hR0⟩ : ∃ q r, (R1 * 4294967296 + n % 4294967296) / d = q ∧ d * q + r = R1 * 4294967296 + n % 4294967296 ∧ r < d := ⟨_, _, rfl, Nat.div_add_mod _ _, Nat.mod_lt _ hd0⟩
    have hn2 := Nat.mod_lt n (show 0 < 4294967296 by decide)
    have hQ1 : Q1 < 4294967296 := by
      rw [← hQ, Nat.div_lt_iff_lt_mul hd0]; omega
    have hQ0 : Q0 < 4294967296 := by
      rw [← hQ0e, Nat.div_lt_iff_lt_mul hd0]; omega
    have l1 : ∃ r', bits_Div64_L17 (h : Int) (l : Int) (c : Int) (((u / (d / 4294967296) : Nat) : Int), ((u % (d / 4294967296) : Nat) : Int)) = some ((Q1 : Int), r') := by
      rw [← hQ]
      refine Div64_loop1 (hi := (h : Int)) Ey El e4 e3 hn u hu _ _ (by rw [Nat.mul_comm]; exact Nat.div_add_mod _ _) (Nat.lt_trans (Nat.mod_lt u hy1) (by omega)) ?_
      have := digit_first (u := u) (y1 := d / 4294967296) (y0 := d % 4294967296) (u1 := n / 4294967296) hy1
      rw [← hdm] at this
      exact this.resolve_right (by omega)
    obtain ⟨r1, l1⟩ := l1
    have l2 : ∃ r', bits_Div64_L24 (h : Int) (l : Int) (c : Int) ((Q1 : Int), ((R1 % (d / 4294967296) : Nat) : Int), ((R1 / (d / 4294967296) : Nat) : Int)) = some ((Q1 : Int), r', (Q0 : Int)) := by
      rw [← hQ0e]
      refine Div64_loop2 (hi := (h : Int)) Ey El e4 e3 hn R1 hR1 (Q1 : Int) _ _ (by rw [Nat.mul_comm]; exact Nat.div_add_mod _ _) (Nat.lt_trans (Nat.mod_lt R1 hy1) (by omega)) ?_
      have := digit_first (u := R1) (y1 := d / 4294967296) (y0 := d % 4294967296) (u1 := n % 4294967296) hy1
      rw [← hdm] at this
      exact this.resolve_right (by omega)
    obtain ⟨r2, l2⟩ := l2
    have hq1 : u / (d / 4294967296) < 18446744073709551616 := Nat.lt_of_le_of_lt (Nat.div_le_self _ _) hu64
    have hq0 : R1 / (d / 4294967296) < 18446744073709551616 := Nat.lt_of_le_of_lt (Nat.div_le_self _ _) (by omega)
    simp only [tdivn, rem_wrap hu64]
    rw [wn hq1, l1]
    simp only [Option.bind_eq_bind, Option.bind_some]
    rw [if_pos fy]
    have td := two_digits' hd0 hdm1
    have s1 : IntKind.u64.wrap (IntKind.u64.wrap (IntKind.u64.wrap ((u : Int) * 4294967296) + ((n / 4294967296 : Nat) : Int)) - IntKind.u64.wrap ((Q1 : Int) * (d : Int))) = (R1 : Int) := by
      rw [← Int.natCast_mul Q1 d]; exact sub_wrap (U := u) (u1 := n / 4294967296) (P := Q1 * d) (R := R1) ((hdm1.symm).trans (congrArg (· + R1) (Nat.mul_comm d Q1))) (Nat.lt_trans hR1 e4)
    have s0 : IntKind.u64.wrap (IntKind.u64.wrap (IntKind.u64.wrap ((R1 : Int) * 4294967296) + ((n % 4294967296 : Nat) : Int)) - IntKind.u64.wrap ((Q0 : Int) * (d : Int))) = (R0 : Int) := by
      rw [← Int.natCast_mul Q0 d]; exact sub_wrap (U := R1) (u1 := n % 4294967296) (P := Q0 * d) (R := R0) ((hdm0.symm).trans (congrArg (· + R0) (Nat.mul_comm d Q0))) (Nat.lt_trans hR0 e4)
    simp only [s1, tdivn, rem_wrap (show R1 < 18446744073709551616 by omega)]
    rw [wn hq0, l2]
    have ws0 : ¬ ((s : Int) < 0) := by omega
    simp only [Option.bind_some, s1, and_low hn, s0, fdivn, ws0, not_false_eq_true, if_true]
    have e5 : (R1 * 4294967296 + n % 4294967296) % d = R0 := by
      rw [← hdm0, Nat.mul_add_mod]; exact Nat.mod_eq_of_lt hR0
    rw [td.1, td.2, hQ0e, e5, wrapu (n := (Q1 : Int) * 4294967296) (by omega), wrapu (by omega)]
    simp

def F_bits_Div64 : FnC Un := fun args => match args with
  | [x0, x1, x2] => (dI .u64 x0).bind fun hi => (dI .u64 x1).bind fun lo => (dI .u64 x2).bind fun y => some ([hi < y], A_bits_Div64 (bits_Div64 hi lo y), O_bits_Div64 (bits_Div64 hi lo y))
  | _ => none

theorem ok_bits_Div64 : FnOK 44 F_bits_Div64 := by
  intro args ob rs os h hob
  unfold F_bits_Div64 at h
  split at h
  · simp only [Option.bind_eq_some_iff, Option.some.injEq, Prod.mk.injEq] at h
    obtain ⟨hi, e0, lo, e1, y, e2, rfl, rfl, rfl⟩ := h
    obtain rfl := dI_eq e0
    obtain rfl := dI_eq e1
    obtain rfl := dI_eq e2
    exact ⟨fn_contract (M := M_bits_Div64) rfl (tbl_ok (l1 := [(50, F_bits_LeadingZeros64)]) (l2 := []) (l3 := []) (l4 := []) ⟨ok_bits_LeadingZeros64, trivial⟩ trivial trivial trivial) Try.func44 (by kernel_rfl) N_bits_Div64 0 [.d, .d] (fun hwf => bits_Div64_run (bits_Div64_spec hi lo y (wfArg hwf (a := .d (.v (.s (.int .u64 hi)))) (List.mem_of_getElem? (i := 0) rfl)) (wfArg hwf (a := .d (.v (.s (.int .u64 lo)))) (List.mem_of_getElem? (i := 1) rfl)) (wfArg hwf (a := .d (.v (.s (.int .u64 y)))) (List.mem_of_getElem? (i := 2) rfl)) (hob _ (List.mem_of_getElem? (i := 0) rfl)))), hasBody_of Try.func44 (by kernel_rfl) (by kernel_rfl)⟩
  · simp at h


end
end Go.Proofs.Ytjndihloefdplaa.B
