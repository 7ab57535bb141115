/- The library's Mul64 and LeadingZeros64. -/
import Derived.Test.YtjndihloefdplaaLscalar
import Derived.Test.YtjndihloefdplaaShelf
namespace Go.Proofs.Ytjndihloefdplaa.B
open Go Go.RowKit

def lz64 (x : Int) : Int := 64 - (Lib.bitLen x.toNat : Int)
def mulHi (x y : Int) : Int := ((x.toNat * y.toNat / 18446744073709551616 : Nat) : Int)
def mulLo (x y : Int) : Int := ((x.toNat * y.toNat % 18446744073709551616 : Nat) : Int)
def F_bits_LeadingZeros64 : FnC Un := fun args => match args with
  | [x0] => (dI .u64 x0).bind fun x => some ([], [.c (.s (.int .i64 (lz64 x)))], [])
  | _ => none
def F_bits_Mul64 : FnC Un := fun args => match args with
  | [x0, x1] => (dI .u64 x0).bind fun x => (dI .u64 x1).bind fun y => some ([], [.c (.s (.int .u64 (mulHi x y))), .c (.s (.int .u64 (mulLo x y)))], [])
  | _ => none
theorem u64_min : IntKind.u64.min = 0 := rfl
theorem u64_max : IntKind.u64.max = 18446744073709551615 := rfl
theorem lz64_range {x : Int} (h1 : x ≤ 18446744073709551615) : 0 ≤ lz64 x ∧ lz64 x ≤ 64 := by
  have := Lib.bitLen_le x.toNat 64 (by omega) (by omega)
  unfold lz64; omega
theorem mul_range {x y : Int} (hx : 0 ≤ x ∧ x ≤ 18446744073709551615) (hy : 0 ≤ y ∧ y ≤ 18446744073709551615) : 0 ≤ mulHi x y ∧ mulHi x y ≤ 18446744073709551615 ∧ 0 ≤ mulLo x y ∧ mulLo x y ≤ 18446744073709551615 := by
  have h1 : x.toNat * y.toNat < 18446744073709551616 * 18446744073709551616 := Nat.mul_lt_mul'' (by omega) (by omega)
  have h2 : x.toNat * y.toNat / 18446744073709551616 < 18446744073709551616 := Nat.div_lt_of_lt_mul h1
  have h3 : x.toNat * y.toNat % 18446744073709551616 < 18446744073709551616 := Nat.mod_lt _ (by decide)
  unfold mulHi mulLo; omega
theorem ok_bits_LeadingZeros64 : FnOK 50 F_bits_LeadingZeros64 := by
  intro args ob rs os h hob
  unfold F_bits_LeadingZeros64 at h
  split at h
  · rename_i x0
    simp only [Option.bind_eq_some_iff, Option.some.injEq, Prod.mk.injEq] at h
    obtain ⟨x, e0, rfl, rfl, rfl⟩ := h
    obtain rfl := dI_eq e0
    refine ⟨?_, hasBody_of Try.func50 (by kernel_rfl) (by kernel_rfl)⟩
    by_cases hx : 0 ≤ x ∧ x ≤ 18446744073709551615
    · have hr := lz64_range hx.2
      refine contract_scalar (oneC_i64.2 (by omega)) fun w vs St hvs => ?_
      match vs, hvs with
      | [v0], ⟨h0, _⟩ =>
        obtain ⟨rfl, -⟩ := drel_int h0
        exact Try.bits_LeadingZeros64 x w hx.1 hx.2
    · intro w St vs hbd hvs
      match vs, hvs with
      | [v0], ⟨h0, _⟩ =>
        obtain ⟨rfl, h1⟩ := drel_int h0
        rw [u64_min, u64_max] at h1
        exact absurd h1 hx
  · simp at h
theorem ok_bits_Mul64 : FnOK 43 F_bits_Mul64 := by
  intro args ob rs os h hob
  unfold F_bits_Mul64 at h
  split at h
  · rename_i x0 x1
    simp only [Option.bind_eq_some_iff, Option.some.injEq, Prod.mk.injEq] at h
    obtain ⟨x, e0, y, e1, rfl, rfl, rfl⟩ := h
    obtain rfl := dI_eq e0
    obtain rfl := dI_eq e1
    refine ⟨?_, hasBody_of Try.func43 (by kernel_rfl) (by kernel_rfl)⟩
    by_cases hx : (0 ≤ x ∧ x ≤ 18446744073709551615) ∧ (0 ≤ y ∧ y ≤ 18446744073709551615)
    · have hr := mul_range hx.1 hx.2
      refine contract_scalar2 (decide_eq_true (by rw [u64_min, u64_max]; omega)) (decide_eq_true (by rw [u64_min, u64_max]; omega)) fun w vs St hvs => ?_
      match vs, hvs with
      | [v0, v1], ⟨h0, h1, _⟩ =>
        obtain ⟨rfl, -⟩ := drel_int h0
        obtain ⟨rfl, -⟩ := drel_int h1
        have := Try.bits_Mul64 x.toNat y.toNat (by omega) (by omega) w
        rw [Int.toNat_of_nonneg hx.1.1, Int.toNat_of_nonneg hx.2.1] at this
        exact this
    · intro w St vs hbd hvs
      match vs, hvs with
      | [v0, v1], ⟨h0, h1, _⟩ =>
        obtain ⟨rfl, g0⟩ := drel_int h0
        obtain ⟨rfl, g1⟩ := drel_int h1
        rw [u64_min, u64_max] at g0 g1
        exact absurd ⟨g0, g1⟩ hx
  · simp at h

/-! ### numbers of 64 bits -/
theorem wrapu {n : Int} (h : 0 ≤ n ∧ n < 18446744073709551616) : IntKind.u64.wrap n = n := by
  have e : IntKind.u64.wrap n = n % 18446744073709551616 := by simp [IntKind.wrap, IntKind.signed, IntKind.bits]
  rw [e, Int.emod_eq_of_lt h.1 h.2]
theorem wrapu_mod (n : Int) : IntKind.u64.wrap n = n % 18446744073709551616 := by simp [IntKind.wrap, IntKind.signed, IntKind.bits]
theorem ofInt_toNat {a : Nat} (h : a < 18446744073709551616) : (BitVec.ofInt IntKind.u64.bits (a : Int)).toNat = a := by
  show (BitVec.ofInt 64 (a : Int)).toNat = a
  rw [BitVec.toNat_ofInt]
  have : ((a : Int) % ((2 ^ 64 : Nat) : Int)) = a := Int.emod_eq_of_lt (by omega) (by omega)
  rw [this]; rfl
theorem and_low {a : Nat} (h : a < 18446744073709551616) : IntKind.u64.wrap ((BitVec.ofInt IntKind.u64.bits (a : Int) &&& BitVec.ofInt IntKind.u64.bits (4294967295 : Int)).toNat : Int) = ((a % 4294967296 : Nat) : Int) := by
  have e : (BitVec.ofInt IntKind.u64.bits (a : Int) &&& BitVec.ofInt IntKind.u64.bits (4294967295 : Int)).toNat = a % 4294967296 := by
    have e2 := ofInt_toNat (a := 4294967295) (by decide)
    rw [BitVec.toNat_and, ofInt_toNat h]
    rw [show ((4294967295 : Nat) : Int) = (4294967295 : Int) from rfl] at e2
    rw [e2]
    exact Nat.and_two_pow_sub_one_eq_mod a 32
  rw [e]; exact wrapu (by omega)
theorem or_low {a b s : Nat} (hb : b < 2 ^ s) (h : 2 ^ s * a + b < 18446744073709551616) : IntKind.u64.wrap ((BitVec.ofInt IntKind.u64.bits ((2 ^ s * a : Nat) : Int) ||| BitVec.ofInt IntKind.u64.bits (b : Int)).toNat : Int) = ((2 ^ s * a + b : Nat) : Int) := by
  have e : (BitVec.ofInt IntKind.u64.bits ((2 ^ s * a : Nat) : Int) ||| BitVec.ofInt IntKind.u64.bits (b : Int)).toNat = 2 ^ s * a + b := by
    rw [BitVec.toNat_or, ofInt_toNat (by omega), ofInt_toNat (by omega)]
    exact (Nat.two_pow_add_eq_or_of_lt hb a).symm
  rw [e]; exact wrapu (by omega)
theorem fdivn (a b : Nat) : (a : Int).fdiv (b : Int) = ((a / b : Nat) : Int) := by
  rw [Int.fdiv_eq_ediv_of_nonneg _ (by omega)]; exact (Int.natCast_ediv a b).symm
theorem tdivn (a b : Nat) : (a : Int).tdiv (b : Int) = ((a / b : Nat) : Int) := by
  rw [Int.tdiv_eq_ediv_of_nonneg (by omega)]; exact (Int.natCast_ediv a b).symm
theorem tmodn (a b : Nat) : (a : Int).tmod (b : Int) = ((a % b : Nat) : Int) := by
  rw [Int.tmod_eq_emod_of_nonneg (by omega)]; exact (Int.natCast_emod a b).symm

/-! ### one digit of a long division -/
/-- A digit that is not too small, and what is left by its first half: too great, or right. -/
theorem digit_great {q r u y1 y0 u1 : Nat} (h : q * y1 + r = u) (ht : 4294967296 * r + u1 < q * y0) : (u * 4294967296 + u1) / (y1 * 4294967296 + y0) < q := by
  rw [Nat.div_lt_iff_lt_mul (by
    rcases Nat.eq_zero_or_pos (y1 * 4294967296 + y0) with h0 | h0
    · have : y0 = 0 := by omega
      subst this; omega
    · exact h0)]
  subst h
  have : q * (y1 * 4294967296 + y0) = q * y1 * 4294967296 + q * y0 := by rw [Nat.mul_add, Nat.mul_assoc]
  rw [this, Nat.add_mul]; omega
theorem digit_small {q r u y1 y0 u1 : Nat} (hy : 0 < y1 * 4294967296 + y0) (h : q * y1 + r = u) (ht : q * y0 ≤ 4294967296 * r + u1) : q ≤ (u * 4294967296 + u1) / (y1 * 4294967296 + y0) := by
  rw [Nat.le_div_iff_mul_le hy]
  subst h
  have : q * (y1 * 4294967296 + y0) = q * y1 * 4294967296 + q * y0 := by rw [Nat.mul_add, Nat.mul_assoc]
  rw [this, Nat.add_mul]; omega
theorem digit_first {u y1 y0 u1 : Nat} (hy : 0 < y1) : (u * 4294967296 + u1) / (y1 * 4294967296 + y0) ≤ u / y1 ∨ 4294967296 ≤ u1 := by
  rcases Nat.lt_or_ge u1 4294967296 with h | h
  · left
    rw [Nat.le_div_iff_mul_le hy]
    have h1 := Nat.div_mul_le_self (u * 4294967296 + u1) (y1 * 4294967296 + y0)
    generalize (u * 4294967296 + u1) / (y1 * 4294967296 + y0) = q at *
    have : q * (y1 * 4294967296 + y0) = q * y1 * 4294967296 + q * y0 := by rw [Nat.mul_add, Nat.mul_assoc]
    rw [this] at h1
    omega
  · exact .inr h
theorem digit_lt {u y1 y0 u1 : Nat} (hu : u < y1 * 4294967296 + y0) (h1 : u1 < 4294967296) : (u * 4294967296 + u1) / (y1 * 4294967296 + y0) < 4294967296 := by
  rw [Nat.div_lt_iff_lt_mul (by omega)]
  omega
end Go.Proofs.Ytjndihloefdplaa.B
