/- Functions: bitsub. (Printed by wip/tools/mkfn.py out of wip/src/bitsub.src.) -/
import Derived.Test.YtaepcbdcjbfgjaaBAwf
namespace Go.Proofs.Ytaepcbdcjbfgjaa.B
open Go Go.RowKit
set_option maxRecDepth 100000
noncomputable section
attribute [local irreducible] awp ctxK itersK iterK retQ retGQ awf ctxF loopF

/-! ### sets of bits as numbers -/
def popW : Nat → Nat → Nat
  | 0, _ => 0
  | w + 1, s => s % 2 + popW w (s / 2)
/-- Bits put at the places of a mask. -/
def depW : Nat → Nat → Nat → Nat
  | 0, _, _ => 0
  | w + 1, r, k => if r % 2 = 1 then 2 * depW w (r / 2) (k / 2) + k % 2 else 2 * depW w (r / 2) k
def placesW : Nat → Nat → Nat → List Nat
  | 0, _, _ => []
  | w + 1, off, s => if s % 2 = 1 then off :: placesW w (off + 1) (s / 2) else placesW w (off + 1) (s / 2)
def depL : List Nat → Nat → Nat
  | [], _ => 0
  | p :: ps, k => (k % 2) * 2 ^ p + depL ps (k / 2)
theorem and_two (a b : Nat) : a &&& b = 2 * (a / 2 &&& b / 2) + (if a % 2 = 1 ∧ b % 2 = 1 then 1 else 0) := by
  have h1 : (a &&& b) / 2 = (a / 2 &&& b / 2) := Nat.and_div_two
  have h2 := @Nat.and_mod_two_eq_one a b
  have h3 : (a &&& b) % 2 < 2 := Nat.mod_lt _ (by decide)
  split
  · rename_i h; have := h2.2 h; omega
  · rename_i h
    have : ¬ (a &&& b) % 2 = 1 := fun e => h (h2.1 e)
    omega
theorem popW_le : ∀ (w s : Nat), popW w s ≤ w
  | 0, _ => Nat.le_refl _
  | w + 1, s => by have := popW_le w (s / 2); simp only [popW]; omega
theorem popW_zero : ∀ w, popW w 0 = 0
  | 0 => rfl
  | w + 1 => by simp only [popW, Nat.zero_mod, Nat.zero_div, popW_zero w]
theorem popW_pos : ∀ {w s : Nat}, s < 2 ^ w → 0 < s → 0 < popW w s
  | 0, s, h, h0 => by simp at h; omega
  | w + 1, s, h, h0 => by
    simp only [popW]
    rcases Nat.eq_zero_or_pos (s % 2) with e | e
    · have := popW_pos (w := w) (s := s / 2) (by rw [Nat.pow_succ] at h; omega) (by omega); omega
    · omega
/-- Without its lowest bit. -/
theorem kern_pop : ∀ {w s : Nat}, s < 2 ^ w → 0 < s → popW w (s &&& (s - 1)) + 1 = popW w s
  | 0, s, h, h0 => by simp at h; omega
  | w + 1, s, h, h0 => by
    rw [Nat.pow_succ] at h
    rw [and_two]
    by_cases e : s % 2 = 1
    · have e1 : ¬ (s % 2 = 1 ∧ (s - 1) % 2 = 1) := by omega
      have e2 : (s - 1) / 2 = s / 2 := by omega
      rw [if_neg e1, e2, Nat.and_self]
      simp only [popW, Nat.add_zero]
      have e3 : 2 * (s / 2) % 2 = 0 := by omega
      have e4 : 2 * (s / 2) / 2 = s / 2 := by omega
      rw [e3, e4]; omega
    · have e1 : ¬ (s % 2 = 1 ∧ (s - 1) % 2 = 1) := by omega
      have e2 : (s - 1) / 2 = s / 2 - 1 := by omega
      rw [if_neg e1, e2]
      simp only [popW, Nat.add_zero]
      have e3 : 2 * (s / 2 &&& (s / 2 - 1)) % 2 = 0 := by omega
      have e4 : 2 * (s / 2 &&& (s / 2 - 1)) / 2 = (s / 2 &&& (s / 2 - 1)) := by omega
      have := kern_pop (w := w) (s := s / 2) (by omega) (by omega)
      rw [e3, e4]; omega
theorem kern_lt {s : Nat} (h : 0 < s) : (s &&& (s - 1)) < s := by
  have : s &&& (s - 1) ≤ s - 1 := Nat.and_le_right
  omega
/-- The lowest bit, and what is left. -/
theorem low_kern : ∀ {w s : Nat}, s < 2 ^ w → 0 < s → (s &&& (2 ^ w - s)) + (s &&& (s - 1)) = s
  | 0, s, h, h0 => by simp at h; omega
  | w + 1, s, h, h0 => by
    rw [Nat.pow_succ] at h ⊢
    rw [and_two s (2 ^ w * 2 - s), and_two s (s - 1)]
    by_cases e : s % 2 = 1
    · have e1 : ¬ (s % 2 = 1 ∧ (s - 1) % 2 = 1) := by omega
      have e2 : (s - 1) / 2 = s / 2 := by omega
      have e3 : s % 2 = 1 ∧ (2 ^ w * 2 - s) % 2 = 1 := by omega
      have e4 : (2 ^ w * 2 - s) / 2 = 2 ^ w - 1 - s / 2 := by omega
      rw [if_neg e1, if_pos e3, e2, e4, Nat.and_self]
      have : s / 2 &&& (2 ^ w - 1 - s / 2) = 0 := by
        apply Nat.eq_of_testBit_eq
        intro i
        rw [Nat.testBit_and, Nat.zero_testBit]
        by_cases hi : i < w
        · have hs : s / 2 < 2 ^ w := by omega
          have := Nat.testBit_two_pow_sub_succ hs i
          rw [show 2 ^ w - 1 - s / 2 = 2 ^ w - (s / 2 + 1) by omega, this]
          cases (s / 2).testBit i <;> simp
        · have hs : s / 2 < 2 ^ i := Nat.lt_of_lt_of_le (by omega) (Nat.pow_le_pow_right (by decide) (by omega : w ≤ i))
          rw [Nat.testBit_lt_two_pow hs]; rfl
      omega
    · have e1 : ¬ (s % 2 = 1 ∧ (s - 1) % 2 = 1) := by omega
      have e2 : (s - 1) / 2 = s / 2 - 1 := by omega
      have e3 : ¬ (s % 2 = 1 ∧ (2 ^ w * 2 - s) % 2 = 1) := by omega
      have e4 : (2 ^ w * 2 - s) / 2 = 2 ^ w - s / 2 := by omega
      rw [if_neg e1, if_neg e3, e2, e4]
      have := low_kern (w := w) (s := s / 2) (by omega) (by omega)
      omega
theorem depW_lt : ∀ (w r k : Nat), depW w r k < 2 ^ w
  | 0, _, _ => by simp [depW]
  | w + 1, r, k => by
    have h1 := depW_lt w (r / 2) (k / 2); have h2 := depW_lt w (r / 2) k
    rw [Nat.pow_succ]
    simp only [depW]; split <;> omega
theorem depW_zero : ∀ (w r : Nat), depW w r 0 = 0
  | 0, _ => rfl
  | w + 1, r => by simp only [depW, Nat.zero_div, Nat.zero_mod, depW_zero w]; split <;> rfl
theorem mul2_mod (w a c : Nat) (hc : c < 2) : (2 * a + c) % (2 ^ w * 2) = 2 * (a % 2 ^ w) + c := by
  have h1 := Nat.mod_lt a (Nat.two_pow_pos w)
  have h2 := Nat.div_add_mod a (2 ^ w)
  have h3 : 2 * a + c = (2 ^ w * 2) * (a / 2 ^ w) + (2 * (a % 2 ^ w) + c) := by
    have h4 : 2 ^ w * 2 * (a / 2 ^ w) = 2 * (2 ^ w * (a / 2 ^ w)) := by rw [Nat.mul_comm (2 ^ w) 2, Nat.mul_assoc]
    rw [h4]; omega
  rw [h3, Nat.mul_add_mod, Nat.mod_eq_of_lt (by omega)]
theorem and_compl {w r : Nat} (h : r < 2 ^ w) : r &&& (2 ^ w - 1 - r) = 0 := by
  apply Nat.eq_of_testBit_eq
  intro i
  rw [Nat.testBit_and, Nat.zero_testBit]
  by_cases hi : i < w
  · have := Nat.testBit_two_pow_sub_succ h i
    rw [show 2 ^ w - 1 - r = 2 ^ w - (r + 1) by omega, this]
    cases r.testBit i <;> simp
  · rw [Nat.testBit_lt_two_pow (Nat.lt_of_lt_of_le h (Nat.pow_le_pow_right (by decide) (by omega : w ≤ i)))]; rfl
theorem dep_same : ∀ (w r k : Nat), r < 2 ^ w → ((depW w r k + (2 ^ w - 1 - r)) % 2 ^ w &&& r) = depW w r k
  | 0, r, k, h => by simp at h; subst h; simp [depW]
  | w + 1, r, k, h => by
    rw [Nat.pow_succ] at h ⊢
    have hd1 := depW_lt w (r / 2) (k / 2)
    have hd2 := depW_lt w (r / 2) k
    have hmul : ∀ (a c : Nat), c < 2 → (2 * a + c) % (2 ^ w * 2) = 2 * (a % 2 ^ w) + c := fun a c hc => mul2_mod w a c hc
    by_cases e : r % 2 = 1
    · simp only [depW, if_pos e]
      have e1 : 2 * depW w (r / 2) (k / 2) + k % 2 + (2 ^ w * 2 - 1 - r) = 2 * (depW w (r / 2) (k / 2) + (2 ^ w - 1 - r / 2)) + k % 2 := by omega
      rw [e1, hmul _ _ (by omega), and_two]
      have e2 : (2 * ((depW w (r / 2) (k / 2) + (2 ^ w - 1 - r / 2)) % 2 ^ w) + k % 2) / 2 = (depW w (r / 2) (k / 2) + (2 ^ w - 1 - r / 2)) % 2 ^ w := by omega
      rw [e2, dep_same w (r / 2) (k / 2) (by omega)]
      split <;> omega
    · simp only [depW, if_neg e]
      have e1 : 2 * depW w (r / 2) k + (2 ^ w * 2 - 1 - r) = 2 * (depW w (r / 2) k + (2 ^ w - 1 - r / 2)) + 1 := by omega
      rw [e1, hmul _ _ (by omega), and_two]
      have e2 : (2 * ((depW w (r / 2) k + (2 ^ w - 1 - r / 2)) % 2 ^ w) + 1) / 2 = (depW w (r / 2) k + (2 ^ w - 1 - r / 2)) % 2 ^ w := by omega
      rw [e2, dep_same w (r / 2) k (by omega), if_neg (by omega)]; rfl
/-- The next part of a mask. -/
theorem dep_next : ∀ (w r k : Nat), r < 2 ^ w → ((depW w r k + (2 ^ w - 1 - r) + 1) % 2 ^ w &&& r) = depW w r (k + 1)
  | 0, r, k, h => by simp at h; subst h; simp [depW]
  | w + 1, r, k, h => by
    rw [Nat.pow_succ] at h ⊢
    have hd1 := depW_lt w (r / 2) (k / 2)
    have hd2 := depW_lt w (r / 2) k
    have hmul : ∀ a : Nat, (2 * a) % (2 ^ w * 2) = 2 * (a % 2 ^ w) := fun a => mul2_mod w a 0 (by decide)
    have hmul1 : ∀ a : Nat, (2 * a + 1) % (2 ^ w * 2) = 2 * (a % 2 ^ w) + 1 := fun a => mul2_mod w a 1 (by decide)
    by_cases e : r % 2 = 1
    · simp only [depW, if_pos e]
      by_cases b : k % 2 = 1
      · have ih := dep_next w (r / 2) (k / 2) (by omega)
        have e1 : 2 * depW w (r / 2) (k / 2) + k % 2 + (2 ^ w * 2 - 1 - r) + 1 = 2 * (depW w (r / 2) (k / 2) + (2 ^ w - 1 - r / 2) + 1) := by omega
        rw [e1, hmul, and_two]
        have e2 : 2 * ((depW w (r / 2) (k / 2) + (2 ^ w - 1 - r / 2) + 1) % 2 ^ w) / 2 = (depW w (r / 2) (k / 2) + (2 ^ w - 1 - r / 2) + 1) % 2 ^ w := by omega
        rw [e2, ih, if_neg (by omega)]
        have e3 : (k + 1) / 2 = k / 2 + 1 := by omega
        have e4 : (k + 1) % 2 = 0 := by omega
        rw [e3, e4]
      · have e1 : 2 * depW w (r / 2) (k / 2) + k % 2 + (2 ^ w * 2 - 1 - r) + 1 = 2 * (depW w (r / 2) (k / 2) + (2 ^ w - 1 - r / 2)) + 1 := by omega
        rw [e1, hmul1, and_two]
        have e2 : (2 * ((depW w (r / 2) (k / 2) + (2 ^ w - 1 - r / 2)) % 2 ^ w) + 1) / 2 = (depW w (r / 2) (k / 2) + (2 ^ w - 1 - r / 2)) % 2 ^ w := by omega
        rw [e2, dep_same w (r / 2) (k / 2) (by omega), if_pos (by omega)]
        have e3 : (k + 1) / 2 = k / 2 := by omega
        have e4 : (k + 1) % 2 = 1 := by omega
        rw [e3, e4]
    · simp only [depW, if_neg e]
      have ih := dep_next w (r / 2) k (by omega)
      have e1 : 2 * depW w (r / 2) k + (2 ^ w * 2 - 1 - r) + 1 = 2 * (depW w (r / 2) k + (2 ^ w - 1 - r / 2) + 1) := by omega
      rw [e1, hmul, and_two]
      have e2 : 2 * ((depW w (r / 2) k + (2 ^ w - 1 - r / 2) + 1) % 2 ^ w) / 2 = (depW w (r / 2) k + (2 ^ w - 1 - r / 2) + 1) % 2 ^ w := by omega
      rw [e2, ih, if_neg (by omega)]; rfl
theorem depL_dep : ∀ (w off r k : Nat), depL (placesW w off r) k = 2 ^ off * depW w r k
  | 0, off, r, k => by simp [placesW, depL, depW]
  | w + 1, off, r, k => by
    simp only [placesW, depW]
    split
    · simp only [depL]
      rw [depL_dep w (off + 1) (r / 2) (k / 2), Nat.pow_succ, Nat.mul_add, Nat.mul_assoc, Nat.mul_comm (k % 2)]; omega
    · rw [depL_dep w (off + 1) (r / 2) k, Nat.pow_succ, Nat.mul_assoc]
theorem places_len : ∀ (w off s : Nat), (placesW w off s).length = popW w s
  | 0, _, _ => rfl
  | w + 1, off, s => by
    simp only [placesW, popW]
    split
    · rw [List.length_cons, places_len w (off + 1) (s / 2)]; omega
    · rw [places_len w (off + 1) (s / 2)]; omega
theorem places_bits : ∀ (w off s : Nat), placesW w off s = ((List.range' off w).filter fun i => s.testBit (i - off))
  | 0, _, _ => rfl
  | w + 1, off, s => by
    simp only [placesW]
    rw [List.range'_succ, List.filter_cons]
    have h0 : s.testBit (off - off) = decide (s % 2 = 1) := by rw [Nat.sub_self, Nat.testBit_zero]
    have hr : (List.range' (off + 1) w).filter (fun i => s.testBit (i - off)) = (List.range' (off + 1) w).filter (fun i => (s / 2).testBit (i - (off + 1))) := by
      refine List.filter_congr fun i hi => ?_
      have : off + 1 ≤ i := (List.mem_range'_1.1 hi).1
      rw [show i - off = (i - (off + 1)) + 1 by omega, Nat.testBit_succ]
    rw [h0, hr, places_bits w (off + 1) (s / 2)]
    by_cases e : s % 2 = 1
    · rw [if_pos e, if_pos (by simpa using e)]
    · rw [if_neg e, if_neg (by simpa using e)]
/-- All bits of a mask. -/
theorem dep_all : ∀ (w r : Nat), r < 2 ^ w → depW w r (2 ^ popW w r - 1) = r
  | 0, r, h => by simp at h; subst h; rfl
  | w + 1, r, h => by
    rw [Nat.pow_succ] at h
    simp only [depW, popW]
    have ih := dep_all w (r / 2) (by omega)
    by_cases e : r % 2 = 1
    · rw [if_pos e, e]
      have h1 : (2 ^ (1 + popW w (r / 2)) - 1) / 2 = 2 ^ popW w (r / 2) - 1 := by rw [Nat.pow_add]; omega
      have h2 : (2 ^ (1 + popW w (r / 2)) - 1) % 2 = 1 := by have := Nat.two_pow_pos (popW w (r / 2)); rw [Nat.pow_add]; omega
      rw [h1, h2, ih]; omega
    · have e0 : r % 2 = 0 := by omega
      rw [if_neg e, e0, Nat.zero_add, ih]; omega
theorem dep_mono : ∀ (w r k k' : Nat), k < k' → k' < 2 ^ popW w r → depW w r k < depW w r k'
  | 0, r, k, k', h, h' => by simp [popW] at h'; omega
  | w + 1, r, k, k', h, h' => by
    simp only [depW]
    simp only [popW] at h'
    by_cases e : r % 2 = 1
    · rw [e, Nat.pow_add] at h'
      rw [if_pos e, if_pos e]
      rcases Nat.lt_or_ge (k / 2) (k' / 2) with g | g
      · have := dep_mono w (r / 2) (k / 2) (k' / 2) g (by omega); omega
      · have e1 : k / 2 = k' / 2 := by omega
        rw [e1]; omega
    · have e0 : r % 2 = 0 := by omega
      rw [e0, Nat.zero_add] at h'
      rw [if_neg e, if_neg e]
      have := dep_mono w (r / 2) k k' h h'; omega
theorem dep_sub : ∀ (w r k : Nat), depW w r k &&& r = depW w r k
  | 0, r, k => by simp [depW]
  | w + 1, r, k => by
    simp only [depW]
    split
    · rename_i e
      rw [and_two]
      have e2 : (2 * depW w (r / 2) (k / 2) + k % 2) / 2 = depW w (r / 2) (k / 2) := by omega
      rw [e2, dep_sub w (r / 2) (k / 2)]
      split <;> omega
    · rename_i e
      rw [and_two]
      have e2 : (2 * depW w (r / 2) k) / 2 = depW w (r / 2) k := by omega
      rw [e2, dep_sub w (r / 2) k, if_neg (by omega)]; rfl

end
end Go.Proofs.Ytaepcbdcjbfgjaa.B
