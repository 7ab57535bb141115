/- Functions: bits2. (Printed by wip/tools/mkfn.py out of wip/src/bits2.src.) -/
import Derived.Test.YtaepcbdcjbfgjaaBAwf
import Derived.Test.YtaepcbdcjbfgjaaSbitsub
namespace Go.Proofs.Ytaepcbdcjbfgjaa.B
open Go Go.RowKit
set_option maxRecDepth 100000
noncomputable section
attribute [local irreducible] awp ctxK itersK iterK retQ retGQ awf ctxF loopF

/-! ### the machine's operations on sets of bits -/
theorem bvn (x : Int) : (BitVec.ofInt 64 x).toNat = (x % 18446744073709551616).toNat := BitVec.toNat_ofInt ..
theorem bvn_nat {a : Nat} (h : a < 2 ^ 64) : (BitVec.ofInt 64 (a : Int)).toNat = a := by rw [bvn]; omega
theorem w_nat {a : Nat} (h : a < 2 ^ 63) : IntKind.i64.wrap (a : Int) = (a : Int) := by rw [IntKind.wrap_i64]; omega
theorem w_and {a nb : Nat} {b : Int} (ha : a < 2 ^ 63) (hb : (b % 18446744073709551616).toNat = nb) : IntKind.i64.wrap ((BitVec.ofInt 64 (a : Int) &&& BitVec.ofInt 64 b).toNat : Int) = ((a &&& nb : Nat) : Int) := by
  rw [BitVec.toNat_and, bvn_nat (by omega), bvn, hb, w_nat]
  exact Nat.lt_of_le_of_lt Nat.and_le_left ha
theorem w_and' {a nb : Nat} {b : Int} (ha : a < 2 ^ 63) (hb : (b % 18446744073709551616).toNat = nb) : IntKind.i64.wrap ((BitVec.ofInt 64 b &&& BitVec.ofInt 64 (a : Int)).toNat : Int) = ((nb &&& a : Nat) : Int) := by
  rw [BitVec.and_comm, w_and ha hb, Nat.and_comm]
theorem w_andNat {a b : Nat} (ha : a < 2 ^ 63) (hb : b < 2 ^ 63) : IntKind.i64.wrap ((BitVec.ofInt 64 (a : Int) &&& BitVec.ofInt 64 (b : Int)).toNat : Int) = ((a &&& b : Nat) : Int) := w_and ha (by omega)
theorem w_orNat {a b : Nat} (ha : a < 2 ^ 63) (hb : b < 2 ^ 63) : IntKind.i64.wrap ((BitVec.ofInt 64 (a : Int) ||| BitVec.ofInt 64 (b : Int)).toNat : Int) = ((a ||| b : Nat) : Int) := by
  rw [BitVec.toNat_or, bvn_nat (by omega), bvn_nat (by omega), w_nat (Nat.or_lt_two_pow ha hb)]
theorem w_andnNat {a b : Nat} (ha : a < 2 ^ 63) (hb : b < 2 ^ 63) : IntKind.i64.wrap ((BitVec.ofInt 64 (a : Int) &&& ~~~BitVec.ofInt 64 (b : Int)).toNat : Int) = ((a &&& (2 ^ 64 - 1 - b) : Nat) : Int) := by
  rw [BitVec.toNat_and, BitVec.toNat_not, bvn_nat (by omega), bvn_nat (by omega), w_nat (Nat.lt_of_le_of_lt Nat.and_le_left ha)]
/-! ### bits one by one -/
theorem bit_compl {w m i : Nat} (h : m < 2 ^ w) (hi : i < w) : (2 ^ w - 1 - m).testBit i = !m.testBit i := by
  have := Nat.testBit_two_pow_sub_succ h i
  rw [show 2 ^ w - 1 - m = 2 ^ w - (m + 1) by omega, this]
  simp [hi]
theorem bit_high {w m i : Nat} (h : m < 2 ^ w) (hi : w ≤ i) : m.testBit i = false := Nat.testBit_lt_two_pow (Nat.lt_of_lt_of_le h (Nat.pow_le_pow_right (by decide) hi))
/-- Without a part of it. -/
theorem and_sub : ∀ (w r m : Nat), r < 2 ^ w → m &&& r = m → (r &&& (2 ^ w - 1 - m)) = r - m
  | 0, r, m, h, _ => by simp at h; subst h; simp
  | w + 1, r, m, h, hm => by
    rw [Nat.pow_succ] at h ⊢
    have hm2 := hm
    rw [and_two] at hm2
    have hmr : m ≤ r := by rw [← hm]; exact Nat.and_le_right
    have h1 : m / 2 &&& r / 2 = m / 2 := by
      have := @Nat.and_div_two m r
      rw [hm] at this; exact this.symm
    have ih := and_sub w (r / 2) (m / 2) (by omega) h1
    have hb : m % 2 = 1 → r % 2 = 1 := by
      intro e
      have := (@Nat.and_mod_two_eq_one m r).1 (by rw [hm]; exact e)
      exact this.2
    rw [and_two]
    have e1 : (2 ^ w * 2 - 1 - m) / 2 = 2 ^ w - 1 - m / 2 := by omega
    rw [e1, ih]
    by_cases hr : r % 2 = 1
    · by_cases hm1 : m % 2 = 1
      · rw [if_neg (by omega)]; omega
      · rw [if_pos (by omega)]; omega
    · rw [if_neg (by omega)]; omega
theorem or_two (a b : Nat) : a ||| b = 2 * (a / 2 ||| b / 2) + (if a % 2 = 1 ∨ b % 2 = 1 then 1 else 0) := by
  have h1 : (a ||| b) / 2 = (a / 2 ||| b / 2) := Nat.or_div_two
  have h2 := @Nat.or_mod_two_eq_one a b
  have h3 : (a ||| b) % 2 < 2 := Nat.mod_lt _ (by decide)
  split
  · rename_i h; have := h2.2 h; omega
  · rename_i h
    have : ¬ (a ||| b) % 2 = 1 := fun e => h (h2.1 e)
    omega
/-- What shares no bit is added. -/
theorem or_add : ∀ (w a b : Nat), a < 2 ^ w → b < 2 ^ w → a &&& b = 0 → a ||| b = a + b
  | 0, a, b, h, h', _ => by simp at h h'; subst h h'; rfl
  | w + 1, a, b, h, h', hab => by
    rw [Nat.pow_succ] at h h'
    have h1 : a / 2 &&& b / 2 = 0 := by
      have := @Nat.and_div_two a b
      rw [hab] at this; exact this.symm
    have ih := or_add w (a / 2) (b / 2) (by omega) (by omega) h1
    have hb : ¬ (a % 2 = 1 ∧ b % 2 = 1) := by
      intro e
      have := (@Nat.and_mod_two_eq_one a b).2 e
      rw [hab] at this; simp at this
    rw [or_two, ih]
    split <;> omega
theorem pop_more : ∀ (w s : Nat), s < 2 ^ w → popW (w + 1) s = popW w s
  | 0, s, h => by simp at h; subst h; rfl
  | w + 1, s, h => by
    rw [Nat.pow_succ] at h
    have ih := pop_more w (s / 2) (by omega)
    simp only [popW] at ih ⊢
    omega
theorem dep_more : ∀ (w r k : Nat), r < 2 ^ w → depW (w + 1) r k = depW w r k
  | 0, r, k, h => by simp at h; subst h; rfl
  | w + 1, r, k, h => by
    rw [Nat.pow_succ] at h
    have i1 := dep_more w (r / 2) (k / 2) (by omega)
    have i2 := dep_more w (r / 2) k (by omega)
    have e1 : depW (w + 2) r k = if r % 2 = 1 then 2 * depW (w + 1) (r / 2) (k / 2) + k % 2 else 2 * depW (w + 1) (r / 2) k := rfl
    rw [e1, i1, i2]
    rfl
/-- The lowest place, and the others. -/
theorem places_low : ∀ (w off s : Nat), s < 2 ^ w → 0 < s → ∃ p, placesW w off s = p :: placesW w off (s &&& (s - 1)) ∧ off ≤ p ∧ p < off + w ∧ 2 ^ (p - off) + (s &&& (s - 1)) = s
  | 0, off, s, h, h0 => by simp at h; omega
  | w + 1, off, s, h, h0 => by
    rw [Nat.pow_succ] at h
    rw [and_two]
    by_cases e : s % 2 = 1
    · have e1 : ¬ (s % 2 = 1 ∧ (s - 1) % 2 = 1) := by omega
      have e2 : (s - 1) / 2 = s / 2 := by omega
      rw [if_neg e1, e2, Nat.and_self]
      refine ⟨off, ?_, Nat.le_refl _, by omega, by rw [Nat.sub_self]; omega⟩
      simp only [placesW, if_pos e]
      have e3 : ¬ (2 * (s / 2) + 0) % 2 = 1 := by omega
      have e4 : (2 * (s / 2) + 0) / 2 = s / 2 := by omega
      rw [if_neg e3, e4]
    · have e1 : ¬ (s % 2 = 1 ∧ (s - 1) % 2 = 1) := by omega
      have e2 : (s - 1) / 2 = s / 2 - 1 := by omega
      rw [if_neg e1, e2]
      obtain ⟨p, h1, h2, h3, h4⟩ := places_low w (off + 1) (s / 2) (by omega) (by omega)
      refine ⟨p, ?_, by omega, by omega, ?_⟩
      · simp only [placesW, if_neg e]
        have e3 : ¬ (2 * (s / 2 &&& s / 2 - 1) + 0) % 2 = 1 := by omega
        have e4 : (2 * (s / 2 &&& s / 2 - 1) + 0) / 2 = (s / 2 &&& s / 2 - 1) := by omega
        rw [if_neg e3, e4]; exact h1
      · rw [show p - off = (p - (off + 1)) + 1 by omega, Nat.pow_succ]; omega
/-! ### each two parts of a set -/
def lowN (s : Nat) : Nat := s &&& (2 ^ 64 - s)
def restN (s : Nat) : Nat := s &&& (s - 1)
def splitN (s k : Nat) : Int × Int := (((lowN s + depW 64 (restN s) k : Nat) : Int), ((restN s - depW 64 (restN s) k : Nat) : Int))
def splitsA (set : Int) : List (Int × Int) := if set ≤ 0 ∨ popW 64 set.toNat < 2 ∨ popW 64 set.toNat > 8 then [] else (List.range (2 ^ (popW 64 set.toNat - 1) - 1)).map (splitN set.toNat)
theorem low_rest {s : Nat} (h : s < 2 ^ 63) (h0 : 0 < s) : lowN s + restN s = s := low_kern (w := 64) (by omega) h0
theorem rest_lt {s : Nat} (h0 : 0 < s) : restN s < s := kern_lt h0
theorem rest_pop {s : Nat} (h : s < 2 ^ 63) (h0 : 0 < s) : popW 64 (restN s) + 1 = popW 64 s := kern_pop (by omega) h0
theorem low_and_rest {s : Nat} (h : s < 2 ^ 63) (h0 : 0 < s) : lowN s &&& restN s = 0 := by
  -- the lowest bit is a power of two that the rest lacks
  obtain ⟨p, h1, _, h3, h4⟩ := places_low 64 0 s (by omega) h0
  have e : lowN s = 2 ^ p := by have := low_rest h h0; unfold restN at this; rw [Nat.sub_zero] at h4; omega
  have hb := places_bits 64 0 (restN s)
  have hb2 := places_bits 64 0 s
  have hr : (restN s).testBit p = false := by
    cases hc : (restN s).testBit p with
    | false => rfl
    | true =>
      exfalso
      have hm : p ∈ placesW 64 0 (restN s) := by
        rw [hb, List.mem_filter, List.mem_range'_1]
        exact ⟨by omega, by rw [Nat.sub_zero]; exact hc⟩
      have hn : (placesW 64 0 s).Pairwise (· < ·) := by rw [hb2]; exact List.Pairwise.filter _ List.pairwise_lt_range'
      rw [h1] at hn
      have := (List.pairwise_cons.1 hn).1 p hm
      omega
  rw [e]
  apply Nat.eq_of_testBit_eq
  intro i
  rw [Nat.testBit_and, Nat.zero_testBit, Nat.testBit_two_pow]
  by_cases hi : p = i
  · subst hi; rw [hr, Bool.and_false]
  · simp [hi]
theorem dep_all64 {s : Nat} (h : s < 2 ^ 63) (h0 : 0 < s) : depW 64 (restN s) (2 ^ (popW 64 s - 1) - 1) = restN s := by
  have e : popW 64 s - 1 = popW 64 (restN s) := by have := rest_pop h h0; omega
  rw [e]
  exact dep_all 64 (restN s) (by have := rest_lt h0; omega)
theorem dep_lt_rest {s k : Nat} (h : s < 2 ^ 63) (h0 : 0 < s) (hk : k < 2 ^ (popW 64 s - 1) - 1) : depW 64 (restN s) k < restN s := by
  have e : popW 64 s - 1 = popW 64 (restN s) := by have := rest_pop h h0; omega
  have := dep_mono 64 (restN s) k (2 ^ (popW 64 s - 1) - 1) hk (by rw [← e]; omega)
  rw [dep_all64 h h0] at this
  exact this
theorem dep_le_rest (s k : Nat) : depW 64 (restN s) k ≤ restN s := by
  have := dep_sub 64 (restN s) k
  rw [← this]; exact Nat.and_le_right
theorem low_pos {s : Nat} (h : s < 2 ^ 63) (h0 : 0 < s) : 0 < lowN s := by have := low_rest h h0; have := rest_lt h0; omega
theorem low_dep {s k : Nat} (h : s < 2 ^ 63) (h0 : 0 < s) : lowN s &&& depW 64 (restN s) k = 0 := by
  have h1 := low_and_rest h h0
  have h2 := dep_sub 64 (restN s) k
  rw [← h2, Nat.and_comm (depW 64 (restN s) k), ← Nat.and_assoc, h1, Nat.zero_and]
theorem low_or {s k : Nat} (h : s < 2 ^ 63) (h0 : 0 < s) : lowN s ||| depW 64 (restN s) k = lowN s + depW 64 (restN s) k := by
  have h1 := low_rest h h0
  have h2 := dep_le_rest s k
  exact or_add 64 _ _ (by omega) (by omega) (low_dep h h0)
theorem rest_andn {s k : Nat} (h : s < 2 ^ 63) (h0 : 0 < s) : restN s &&& (2 ^ 64 - 1 - depW 64 (restN s) k) = restN s - depW 64 (restN s) k :=
  and_sub 64 _ _ (by have := rest_lt h0; omega) (dep_sub 64 _ _)
theorem split_parts {s k : Nat} (h : s < 2 ^ 63) (h0 : 0 < s) : (lowN s + depW 64 (restN s) k ||| (restN s - depW 64 (restN s) k)) = s ∧ (lowN s + depW 64 (restN s) k &&& (restN s - depW 64 (restN s) k)) = 0 ∧ (lowN s + depW 64 (restN s) k &&& lowN s) = lowN s := by
  have h1 := low_rest h h0
  have hl := rest_lt h0
  have hd := depW_lt 64 (restN s) k
  have e1 := low_and_rest h h0
  have e2 := dep_sub 64 (restN s) k
  have es : lowN s ||| restN s = s := by rw [or_add 64 _ _ (by omega) (by omega) e1, h1]
  rw [← low_or (k := k) h h0, ← rest_andn (k := k) h h0]
  generalize depW 64 (restN s) k = d at e2 hd
  have b1 : ∀ i, ((lowN s).testBit i && (restN s).testBit i) = false := fun i => by rw [← Nat.testBit_and, e1, Nat.zero_testBit]
  have b2 : ∀ i, (d.testBit i && (restN s).testBit i) = d.testBit i := fun i => by rw [← Nat.testBit_and, e2]
  have b3 : ∀ i, ((restN s).testBit i && (2 ^ 64 - 1 - d).testBit i) = ((restN s).testBit i && !d.testBit i) := fun i => by
    by_cases hi : i < 64
    · rw [bit_compl hd hi]
    · rw [bit_high (w := 64) (m := restN s) (by omega) (by omega)]; rfl
  refine ⟨?_, ?_, ?_⟩
  · rw [← es]
    rw [es]
    apply Nat.eq_of_testBit_eq
    intro i
    conv => rhs; rw [← es]
    rw [Nat.testBit_or, Nat.testBit_or, Nat.testBit_and, b3, Nat.testBit_or]
    have q1 := b1 i
    have q2 := b2 i
    revert q1 q2
    cases (lowN s).testBit i <;> cases (restN s).testBit i <;> cases d.testBit i <;> simp
  · apply Nat.eq_of_testBit_eq
    intro i
    rw [Nat.testBit_and, Nat.testBit_or, Nat.testBit_and, b3, Nat.zero_testBit]
    have q1 := b1 i
    have q2 := b2 i
    revert q1 q2
    cases (lowN s).testBit i <;> cases (restN s).testBit i <;> cases d.testBit i <;> simp
  · apply Nat.eq_of_testBit_eq
    intro i
    rw [Nat.testBit_and, Nat.testBit_or]
    cases (lowN s).testBit i <;> simp
/-- A place's bit of a mask below it. -/
theorem bit_free {o i : Nat} (h : o < 2 ^ i) : o &&& 2 ^ i = 0 := by
  apply Nat.eq_of_testBit_eq
  intro j
  rw [Nat.testBit_and, Nat.zero_testBit, Nat.testBit_two_pow]
  by_cases e : i = j
  · subst e; rw [bit_high h (Nat.le_refl _)]; rfl
  · simp [e]
theorem or_bit {o i : Nat} (h : o < 2 ^ i) : o ||| 2 ^ i = o + 2 ^ i := or_add (i + 1) _ _ (by rw [Nat.pow_succ]; omega) (by rw [Nat.pow_succ]; have := Nat.two_pow_pos i; omega) (bit_free h)
theorem bit_there {o i : Nat} (h : o < 2 ^ i) : (o + 2 ^ i) &&& 2 ^ i = 2 ^ i := by
  rw [← or_bit h]
  apply Nat.eq_of_testBit_eq
  intro j
  rw [Nat.testBit_and, Nat.testBit_or]
  cases (2 ^ i).testBit j <;> simp
theorem pop_count : ∀ (w off s n : Nat), (List.range' off w).foldl (fun n i => n + (if s.testBit (i - off) then 1 else 0)) n = n + popW w s := by
  intro w off s n
  have key : ∀ (l : List Nat) (n : Nat), l.foldl (fun n i => n + (if s.testBit (i - off) then 1 else 0)) n = n + (l.filter fun i => s.testBit (i - off)).length := by
    intro l
    induction l with
    | nil => intro n; rfl
    | cons x l ih =>
      intro n
      rw [List.foldl_cons, ih, List.filter_cons]
      split <;> simp <;> omega
  rw [key, ← places_bits, places_len]
/-! ### masks of leaves -/
def nextTo (fr w : Int) : Int := min (fr + min (max w 0) 2147483648) 2147483648
def usesIn (uses : List Int) (fr to : Int) : Bool := uses.any fun a => decide (a ≥ fr ∧ a < to)
def maskGo (uses : List Int) : List Int → Nat → Int → Nat → Nat
  | [], _, _, o => o
  | w :: r, i, fr, o => maskGo uses r (i + 1) (nextTo fr w) (if usesIn uses fr (nextTo fr w) = true then o + 2 ^ i else o)
def maskA (uses widths : List Int) : Nat := maskGo uses (widths.take 62) 0 0 0
theorem nextTo_ge {fr w : Int} (h : fr ≤ 2147483648) : fr ≤ nextTo fr w ∧ nextTo fr w ≤ 2147483648 := by unfold nextTo; omega
theorem mask_lt (uses : List Int) : ∀ (r : List Int) (i : Nat) (fr : Int) (o : Nat), o < 2 ^ i → maskGo uses r i fr o < 2 ^ (i + r.length)
  | [], i, fr, o, h => h
  | w :: r, i, fr, o, h => by
    have h2 := mask_lt uses r (i + 1) (nextTo fr w) (if usesIn uses fr (nextTo fr w) = true then o + 2 ^ i else o) (by rw [Nat.pow_succ]; split <;> omega)
    rw [List.length_cons, show i + (r.length + 1) = i + 1 + r.length by omega]
    exact h2
theorem maskA_lt (uses widths : List Int) : maskA uses widths < 2 ^ 62 := by
  have h := mask_lt uses (widths.take 62) 0 0 0 (by decide)
  refine Nat.lt_of_lt_of_le h (Nat.pow_le_pow_right (by decide) ?_)
  rw [List.length_take]; omega
theorem usesIn_or {ua ub uc : List Int} (h : ∀ x, x ∈ uc ↔ x ∈ ua ∨ x ∈ ub) (fr to : Int) : usesIn uc fr to = (usesIn ua fr to || usesIn ub fr to) := by
  unfold usesIn
  rw [Bool.eq_iff_iff, Bool.or_eq_true, List.any_eq_true, List.any_eq_true, List.any_eq_true]
  constructor
  · rintro ⟨x, hx, hp⟩
    rcases (h x).1 hx with e | e
    · exact .inl ⟨x, e, hp⟩
    · exact .inr ⟨x, e, hp⟩
  · rintro (⟨x, hx, hp⟩ | ⟨x, hx, hp⟩)
    · exact ⟨x, (h x).2 (.inl hx), hp⟩
    · exact ⟨x, (h x).2 (.inr hx), hp⟩
theorem mask_or {ua ub uc : List Int} (h : ∀ x, x ∈ uc ↔ x ∈ ua ∨ x ∈ ub) : ∀ (r : List Int) (i : Nat) (fr : Int) (oa ob : Nat), oa < 2 ^ i → ob < 2 ^ i → maskGo uc r i fr (oa ||| ob) = maskGo ua r i fr oa ||| maskGo ub r i fr ob
  | [], _, _, _, _, _, _ => rfl
  | w :: r, i, fr, oa, ob, ha, hb => by
    have hab : oa ||| ob < 2 ^ i := Nat.or_lt_two_pow ha hb
    simp only [maskGo]
    rw [usesIn_or h]
    have st : (if (usesIn ua fr (nextTo fr w) || usesIn ub fr (nextTo fr w)) = true then (oa ||| ob) + 2 ^ i else oa ||| ob) = ((if usesIn ua fr (nextTo fr w) = true then oa + 2 ^ i else oa) ||| (if usesIn ub fr (nextTo fr w) = true then ob + 2 ^ i else ob)) := by
      rw [← or_bit hab, ← or_bit ha, ← or_bit hb]
      apply Nat.eq_of_testBit_eq
      intro j
      cases usesIn ua fr (nextTo fr w) <;> cases usesIn ub fr (nextTo fr w) <;> simp only [Bool.or_true, Bool.or_false, Bool.false_eq_true, if_true, if_false, Nat.testBit_or] <;> cases oa.testBit j <;> cases ob.testBit j <;> cases (2 ^ i).testBit j <;> rfl
    rw [st]
    exact mask_or h r (i + 1) (nextTo fr w) _ _ (by rw [Nat.pow_succ]; split <;> omega) (by rw [Nat.pow_succ]; split <;> omega)
theorem maskA_or {ua ub uc : List Int} (h : ∀ x, x ∈ uc ↔ x ∈ ua ∨ x ∈ ub) (widths : List Int) : maskA uc widths = maskA ua widths ||| maskA ub widths :=
  mask_or h (widths.take 62) 0 0 0 0 (by decide) (by decide)
theorem mask_none {uses : List Int} : ∀ (r : List Int) (i : Nat) (fr : Int) (o : Nat), fr ≤ 2147483648 → (∀ u ∈ uses, u < fr) → maskGo uses r i fr o = o
  | [], _, _, _, _, _ => rfl
  | w :: r, i, fr, o, hf, h => by
    have hn := nextTo_ge (w := w) hf
    have e : usesIn uses fr (nextTo fr w) = false := by
      unfold usesIn
      rw [List.any_eq_false]
      intro x hx
      have := h x hx
      rw [decide_eq_true_eq]; omega
    simp only [maskGo]
    rw [e, if_neg (by decide)]
    exact mask_none r (i + 1) _ o hn.2 (fun u hu => by have := h u hu; omega)
theorem mask_within {uses : List Int} (hne : uses ≠ []) (w : Int) (hw : 0 ≤ w ∧ w ≤ 1000) (rest : List Int) : ∀ (pre : List Int) (i : Nat) (fr : Int) (o : Nat), (∀ x ∈ pre, 0 ≤ x ∧ x ≤ 1000) → 0 ≤ fr → fr + 1000 * (pre.length + 1) ≤ 2147483648 → (∀ u ∈ uses, fr + pre.foldl (· + ·) 0 ≤ u ∧ u < fr + pre.foldl (· + ·) 0 + w) → maskGo uses (pre ++ w :: rest) i fr o = o + 2 ^ (i + pre.length)
  | [], i, fr, o, _, h0, hf, hu => by
    simp only [List.foldl_nil, Int.add_zero, List.length_nil, Nat.add_zero] at hu ⊢
    rw [List.nil_append]
    have en : nextTo fr w = fr + w := by simp only [List.length_nil] at hf; unfold nextTo; omega
    simp only [maskGo]
    obtain ⟨x, l, rfl⟩ := List.exists_cons_of_ne_nil hne
    have e : usesIn (x :: l) fr (nextTo fr w) = true := by
      unfold usesIn
      rw [List.any_cons, en, decide_eq_true (show x ≥ fr ∧ x < fr + w from by have := hu x List.mem_cons_self; omega)]; rfl
    rw [e, if_pos rfl]
    exact mask_none rest (i + 1) _ _ (by rw [en]; simp only [List.length_nil] at hf; omega) (fun u hu' => by have := hu u hu'; rw [en]; omega)
  | y :: pre, i, fr, o, hp, h0, hf, hu => by
    have hy := hp y List.mem_cons_self
    rw [List.length_cons] at hf
    have en : nextTo fr y = fr + y := by unfold nextTo; omega
    have fs : ∀ (l : List Int) (a b : Int), l.foldl (· + ·) (a + b) = a + l.foldl (· + ·) b := by
      intro l
      induction l with
      | nil => intro a b; rfl
      | cons z l ih => intro a b; rw [List.foldl_cons, List.foldl_cons, Int.add_assoc, ih]
    have e0 : (y :: pre).foldl (· + ·) 0 = y + pre.foldl (· + ·) 0 := by rw [List.foldl_cons, ← fs pre y 0]; congr 1; omega
    have hs : 0 ≤ pre.foldl (· + ·) 0 := by
      have : ∀ (l : List Int), (∀ x ∈ l, 0 ≤ x ∧ x ≤ 1000) → 0 ≤ l.foldl (· + ·) (0 : Int) := by
        intro l
        induction l with
        | nil => intro _; exact Int.le_refl 0
        | cons z l ih =>
          intro h
          have e : (z :: l).foldl (· + ·) (0 : Int) = z + l.foldl (· + ·) 0 := by rw [List.foldl_cons, ← fs l z 0]; congr 1; omega
          have h1 := ih (fun x hx => h x (List.mem_cons_of_mem _ hx))
          have h2 := h z List.mem_cons_self
          rw [e]; omega
      exact this pre (fun x hx => hp x (List.mem_cons_of_mem _ hx))
    rw [e0] at hu
    have e : usesIn uses fr (nextTo fr y) = false := by
      unfold usesIn
      rw [List.any_eq_false]
      intro x hx
      have := hu x hx
      rw [decide_eq_true_eq, en]; omega
    rw [List.cons_append]
    simp only [maskGo]
    rw [e, if_neg (by decide), en, mask_within hne w hw rest pre (i + 1) (fr + y) o (fun x hx => hp x (List.mem_cons_of_mem _ hx)) (by omega) (by omega) (fun u hu' => by have := hu u hu'; omega), List.length_cons]
    congr 2
    omega
/-- The way of the plain answer through the places. -/
theorem mask_inner (fr to : Int) (i : Nat) : ∀ (l : List Int) (o : Nat), o < 2 ^ i →
    l.foldl (fun o u => if u ≥ fr ∧ u < to ∧ o &&& 2 ^ i = 0 then o + 2 ^ i else o) o = if usesIn l fr to = true then o + 2 ^ i else o := by
  have done : ∀ (l : List Int) (o : Nat), o < 2 ^ i → l.foldl (fun o u => if u ≥ fr ∧ u < to ∧ o &&& 2 ^ i = 0 then o + 2 ^ i else o) (o + 2 ^ i) = o + 2 ^ i := by
    intro l
    induction l with
    | nil => intro o _; rfl
    | cons x l ih =>
      intro o h
      rw [List.foldl_cons, if_neg (by rw [bit_there h]; have := Nat.two_pow_pos i; omega)]
      exact ih o h
  intro l
  induction l with
  | nil => intro o _; rfl
  | cons x l ih =>
    intro o h
    rw [List.foldl_cons]
    unfold usesIn at ih ⊢
    rw [List.any_cons]
    by_cases hx : x ≥ fr ∧ x < to
    · rw [if_pos ⟨hx.1, hx.2, bit_free h⟩, done l o h, decide_eq_true hx, Bool.true_or, if_pos rfl]
    · rw [if_neg (fun e => hx ⟨e.1, e.2.1⟩), ih o h, decide_eq_false hx, Bool.false_or]
/-! ### the machine's own forms -/
theorem k_and {a nb : Nat} {b : Int} (ha : a < 2 ^ 63) (hb : (b % 18446744073709551616).toNat = nb) : IntKind.i64.wrap ((BitVec.ofInt IntKind.i64.bits (a : Int) &&& BitVec.ofInt IntKind.i64.bits b).toNat : Int) = ((a &&& nb : Nat) : Int) := w_and ha hb
theorem k_and' {a nb : Nat} {b : Int} (ha : a < 2 ^ 63) (hb : (b % 18446744073709551616).toNat = nb) : IntKind.i64.wrap ((BitVec.ofInt IntKind.i64.bits b &&& BitVec.ofInt IntKind.i64.bits (a : Int)).toNat : Int) = ((nb &&& a : Nat) : Int) := w_and' ha hb
theorem k_andNat {a b : Nat} (ha : a < 2 ^ 63) (hb : b < 2 ^ 63) : IntKind.i64.wrap ((BitVec.ofInt IntKind.i64.bits (a : Int) &&& BitVec.ofInt IntKind.i64.bits (b : Int)).toNat : Int) = ((a &&& b : Nat) : Int) := w_andNat ha hb
theorem k_orNat {a b : Nat} (ha : a < 2 ^ 63) (hb : b < 2 ^ 63) : IntKind.i64.wrap ((BitVec.ofInt IntKind.i64.bits (a : Int) ||| BitVec.ofInt IntKind.i64.bits (b : Int)).toNat : Int) = ((a ||| b : Nat) : Int) := w_orNat ha hb
theorem k_andnNat {a b : Nat} (ha : a < 2 ^ 63) (hb : b < 2 ^ 63) : IntKind.i64.wrap ((BitVec.ofInt IntKind.i64.bits (a : Int) &&& ~~~BitVec.ofInt IntKind.i64.bits (b : Int)).toNat : Int) = ((a &&& (2 ^ 64 - 1 - b) : Nat) : Int) := w_andnNat ha hb
theorem k_shl {n : Nat} (h : n < 63) : IntKind.i64.wrap ((1 : Int) * (2 : Int) ^ min n IntKind.i64.bits) = ((2 ^ n : Nat) : Int) := by
  have e : min n IntKind.i64.bits = n := Nat.min_eq_left (by show n ≤ 64; omega)
  rw [e, Int.one_mul]
  have e2 : (2 : Int) ^ n = ((2 ^ n : Nat) : Int) := by rw [Int.natCast_pow]; rfl
  rw [e2, w_nat (Nat.pow_lt_pow_right (by decide) h)]
theorem and_pow {s i : Nat} : ((s &&& 2 ^ i : Nat) : Int) ≠ 0 ↔ s.testBit i = true := by
  have hn : (s &&& 2 ^ i) ≠ 0 ↔ s.testBit i = true := by
    constructor
    · intro h
      cases hb : s.testBit i with
      | true => rfl
      | false =>
        exfalso
        apply h
        apply Nat.eq_of_testBit_eq
        intro j
        rw [Nat.testBit_and, Nat.zero_testBit, Nat.testBit_two_pow]
        by_cases e : i = j
        · subst e; rw [hb]; rfl
        · simp [e]
    · intro h e
      have := congrArg (fun x => x.testBit i) e
      simp [Nat.testBit_and, h] at this
  rw [← hn]
  omega
theorem k_bit {s i : Nat} (hs : s < 2 ^ 63) (hi : i < 63) : (IntKind.i64.wrap ((BitVec.ofInt IntKind.i64.bits (s : Int) &&& BitVec.ofInt IntKind.i64.bits (IntKind.i64.wrap ((1 : Int) * (2 : Int) ^ min i IntKind.i64.bits))).toNat : Int) != (0 : Int)) = s.testBit i := by
  rw [k_shl hi, k_andNat hs (Nat.pow_lt_pow_right (by decide) hi)]
  rw [Bool.eq_iff_iff, bne_iff_ne, and_pow]
theorem places_more : ∀ (w off s : Nat), s < 2 ^ w → placesW (w + 1) off s = placesW w off s
  | 0, off, s, h => by simp at h; subst h; rfl
  | w + 1, off, s, h => by
    rw [Nat.pow_succ] at h
    have ih := places_more w (off + 1) (s / 2) (by omega)
    have e1 : placesW (w + 2) off s = if s % 2 = 1 then off :: placesW (w + 1) (off + 1) (s / 2) else placesW (w + 1) (off + 1) (s / 2) := rfl
    rw [e1, ih]
    rfl
/-! ### links -/
theorem b_zero (x : BitVec 64) : (IntKind.i64.wrap (x.toNat : Int) == 0) = decide (x = 0#64) := by
  have h := x.isLt
  rw [Bool.eq_iff_iff, beq_iff_eq, decide_eq_true_eq, IntKind.wrap_i64]
  constructor
  · intro e
    apply BitVec.eq_of_toNat_eq
    rw [BitVec.toNat_ofNat]; omega
  · intro e
    rw [e, BitVec.toNat_ofNat]; rfl
theorem b_back (x : BitVec 64) : BitVec.ofInt 64 (IntKind.i64.wrap (x.toNat : Int)) = x := by
  have h := x.isLt
  apply BitVec.eq_of_toNat_eq
  rw [bvn, IntKind.wrap_i64]; omega
theorem b_int {m : Int} (h : -9223372036854775808 ≤ m ∧ m ≤ 9223372036854775807) : IntKind.i64.wrap ((BitVec.ofInt 64 m).toNat : Int) = m := by
  rw [bvn, IntKind.wrap_i64]; omega
theorem b_eq {m : Int} (h : -9223372036854775808 ≤ m ∧ m ≤ 9223372036854775807) (x : BitVec 64) : (IntKind.i64.wrap (x.toNat : Int) == m) = decide (x = BitVec.ofInt 64 m) := by
  rw [Bool.eq_iff_iff, beq_iff_eq, decide_eq_true_eq]
  constructor
  · intro e; rw [← e, b_back]
  · intro e; rw [e, b_int h]
theorem link_sub (m c : BitVec 64) : m &&& c = m ↔ m &&& ~~~c = 0#64 := by
  constructor
  · intro e
    apply BitVec.eq_of_getElem_eq
    intro i hi
    have := congrArg (fun x : BitVec 64 => x[i]) e
    simp only [BitVec.getElem_and, BitVec.getElem_not, BitVec.getElem_zero] at this ⊢
    cases hm : m[i] <;> cases hc : c[i] <;> simp_all
  · intro e
    apply BitVec.eq_of_getElem_eq
    intro i hi
    have := congrArg (fun x : BitVec 64 => x[i]) e
    simp only [BitVec.getElem_and, BitVec.getElem_not, BitVec.getElem_zero] at this ⊢
    cases hm : m[i] <;> cases hc : c[i] <;> simp_all
def linkB (m a b : Int) : Bool := (IntKind.i64.wrap ((BitVec.ofInt IntKind.i64.bits m &&& BitVec.ofInt IntKind.i64.bits a).toNat : Int) != (0 : Int)) && ((IntKind.i64.wrap ((BitVec.ofInt IntKind.i64.bits m &&& BitVec.ofInt IntKind.i64.bits b).toNat : Int) != (0 : Int)) && (IntKind.i64.wrap ((BitVec.ofInt IntKind.i64.bits m &&& ~~~BitVec.ofInt IntKind.i64.bits (IntKind.i64.wrap ((BitVec.ofInt IntKind.i64.bits a ||| BitVec.ofInt IntKind.i64.bits b).toNat : Int))).toNat : Int) == (0 : Int)))
theorem link_third {m : Int} (h : -9223372036854775808 ≤ m ∧ m ≤ 9223372036854775807) (c : Int) : (IntKind.i64.wrap ((BitVec.ofInt IntKind.i64.bits m &&& ~~~BitVec.ofInt IntKind.i64.bits c).toNat : Int) == (0 : Int)) = (IntKind.i64.wrap ((BitVec.ofInt IntKind.i64.bits m &&& BitVec.ofInt IntKind.i64.bits c).toNat : Int) == m) := by
  show (IntKind.i64.wrap ((BitVec.ofInt 64 m &&& ~~~BitVec.ofInt 64 c).toNat : Int) == (0 : Int)) = (IntKind.i64.wrap ((BitVec.ofInt 64 m &&& BitVec.ofInt 64 c).toNat : Int) == m)
  rw [b_zero, b_eq h]
  exact decide_eq_decide.2 (link_sub _ _).symm
theorem linkB_symm (m a b : Int) : linkB m a b = linkB m b a := by
  unfold linkB
  rw [BitVec.or_comm (BitVec.ofInt IntKind.i64.bits a)]
  cases (IntKind.i64.wrap ((BitVec.ofInt IntKind.i64.bits m &&& BitVec.ofInt IntKind.i64.bits a).toNat : Int) != (0 : Int)) <;> cases (IntKind.i64.wrap ((BitVec.ofInt IntKind.i64.bits m &&& BitVec.ofInt IntKind.i64.bits b).toNat : Int) != (0 : Int)) <;> simp
theorem low_sub (s : Nat) : lowN s &&& s = lowN s := by
  unfold lowN
  rw [Nat.and_comm, ← Nat.and_assoc, Nat.and_self]

end
end Go.Proofs.Ytaepcbdcjbfgjaa.B
