/- The costs, as plain functions. -/
import Derived.Lib.BitFns
namespace Go.Proofs.Ytkoemlkjaanndaa.K

def within (n : Int) : Int := if n < 0 then 0 else if 1000000000000 < n then 1000000000000 else n

theorem within_bd (n : Int) : 0 ≤ within n ∧ within n ≤ 1000000000000 := by
  unfold within; split <;> (try split) <;> omega
theorem within_of {n : Int} (h0 : 0 ≤ n) (h1 : n ≤ 1000000000000) : within n = n := by
  unfold within; rw [if_neg (by omega), if_neg (by omega)]
theorem within_mono {a b : Int} (h : a ≤ b) : within a ≤ within b := by
  unfold within; split <;> (try split) <;> (try split) <;> (try split) <;> omega
theorem within_within (n : Int) : within (within n) = within n := within_of (within_bd n).1 (within_bd n).2

def sumL (l : List Int) : Int := l.foldl (fun n x => within (n + within x)) 0

theorem sumL_bd (l : List Int) : 0 ≤ sumL l ∧ sumL l ≤ 1000000000000 := by
  rcases List.eq_nil_or_concat l with rfl | ⟨a, b, rfl⟩
  · simp [sumL]
  · simp only [sumL, List.concat_eq_append, List.foldl_append, List.foldl_cons, List.foldl_nil]; exact within_bd _

theorem sumL_snoc (xs : List Int) (k : Nat) (h : k < xs.length) : sumL (xs.take (k + 1)) = within (sumL (xs.take k) + within (xs.getD k 0)) := by
  rw [List.take_succ_eq_append_getElem h]
  simp only [sumL, List.foldl_append, List.foldl_cons, List.foldl_nil]
  rw [List.getD_eq_getElem?_getD, List.getElem?_eq_getElem h]; rfl

def add (a b : Int) : Int := within (within a + within b)
theorem sumL2 (a b : Int) : sumL [a, b] = add a b := by
  simp only [sumL, List.foldl_cons, List.foldl_nil, Int.zero_add, within_within, add]
theorem add_bd (a b : Int) : 0 ≤ add a b ∧ add a b ≤ 1000000000000 := within_bd _
theorem add_comm (a b : Int) : add a b = add b a := by unfold add; rw [Int.add_comm]
theorem add_assoc (a b c : Int) : add (add a b) c = add a (add b c) := by
  have h1 := within_bd a; have h2 := within_bd b; have h3 := within_bd c
  unfold add; rw [within_within, within_within]
  generalize within a = x at *; generalize within b = y at *; generalize within c = z at *
  unfold within; repeat' split
  all_goals omega
theorem add_mono {a b c d : Int} (h : a ≤ c) (k : b ≤ d) : add a b ≤ add c d := by
  have := within_mono h; have := within_mono k
  exact within_mono (by omega)
theorem sumL_cons4 (a b c d : Int) : sumL [a, b, c, d] = add (add a b) (add c d) := by
  have e : sumL [a, b, c, d] = within (within (add a b + within c) + within d) := by
    simp only [sumL, List.foldl_cons, List.foldl_nil, Int.zero_add, within_within, add]
  have h1 := add_bd a b; have h2 := within_bd c; have h3 := within_bd d
  rw [e]; unfold add; rw [within_within, within_within]
  have h1 := add_bd a b
  unfold add at h1
  generalize within (within a + within b) = x at *; generalize within c = y at *; generalize within d = z at *
  unfold within; repeat' split
  all_goals omega

def mul (a b : Int) : Int := if 0 < within a ∧ 1000000000000 / within a < within b then 1000000000000 else within a * within b
theorem mul_le {A B M : Int} (hA : 0 < A) (hB : 0 ≤ B) (h : ¬ M / A < B) : 0 ≤ A * B ∧ A * B ≤ M := by
  refine ⟨Int.mul_nonneg (by omega) hB, ?_⟩
  have h1 : B ≤ M / A := by omega
  have h2 := Int.mul_le_mul_of_nonneg_left h1 (Int.le_of_lt hA)
  have h3 : A * (M / A) ≤ M := Int.mul_ediv_self_le (by omega)
  omega
theorem mul_bd (a b : Int) : 0 ≤ mul a b ∧ mul a b ≤ 1000000000000 := by
  have h1 := within_bd a; have h2 := within_bd b
  unfold mul; split
  · omega
  · rename_i h
    by_cases h0 : 0 < within a
    · exact mul_le h0 h2.1 (fun h' => h ⟨h0, h'⟩)
    · have : within a = 0 := by omega
      rw [this]; simp
/-- The product, cut at the greatest cost. -/
theorem mul_eq (a b : Int) : mul a b = within (within a * within b) := by
  have h1 := within_bd a; have h2 := within_bd b
  unfold mul
  generalize within a = A at *; generalize within b = B at *
  by_cases h0 : 0 < A
  · by_cases h3 : 1000000000000 / A < B
    · rw [if_pos ⟨h0, h3⟩]
      have h4 : 1000000000000 < A * B := by
        have := Int.lt_mul_of_ediv_lt h0 h3
        rw [Int.mul_comm]; exact this
      unfold within; rw [if_neg (by omega), if_pos h4]
    · rw [if_neg (fun h => h3 h.2)]
      have := mul_le h0 h2.1 h3
      rw [within_of this.1 this.2]
  · have : A = 0 := by omega
    subst this; rw [if_neg (by omega)]; simp [within]
theorem mul_comm (a b : Int) : mul a b = mul b a := by rw [mul_eq, mul_eq, Int.mul_comm]
theorem mul_mono {a b c d : Int} (h : a ≤ c) (k : b ≤ d) : mul a b ≤ mul c d := by
  rw [mul_eq, mul_eq]
  have h1 := within_mono h; have h2 := within_mono k
  exact within_mono (Int.mul_le_mul h1 h2 (within_bd b).1 (within_bd c).1)
theorem mul_succ {a : Int} (b : Int) (h0 : 0 ≤ a) (h1 : a < 1000000000000) : mul (a + 1) b = add (mul a b) b := by
  rw [mul_eq, mul_eq, within_of (n := a + 1) (by omega) (by omega), within_of (n := a) (by omega) (by omega)]
  unfold add; rw [within_within]
  have h2 := within_bd b
  have h3 : (a + 1) * within b = a * within b + within b := by rw [Int.add_mul, Int.one_mul]
  have h4 : 0 ≤ a * within b := Int.mul_nonneg h0 h2.1
  rw [h3]
  generalize a * within b = x at *; generalize within b = y at *
  unfold within; repeat' split
  all_goals omega

def blen (n : Int) : Int := (Lib.bitLen (within n).toNat : Nat)
def sort (n c : Int) : Int := add c (mul n (blen n))
theorem bitLenAux_le (k n : Nat) : Lib.bitLenAux k n ≤ k := by
  induction k generalizing n with
  | zero => simp [Lib.bitLenAux]
  | succ k ih => simp only [Lib.bitLenAux]; split <;> (try have := ih (n / 2)) <;> omega
theorem blen_bd (n : Int) : 0 ≤ blen n ∧ blen n ≤ 64 := by
  unfold blen Lib.bitLen
  have := bitLenAux_le 64 (within n).toNat
  omega
theorem bitLenAux_mono (k : Nat) : ∀ {n m : Nat}, n ≤ m → Lib.bitLenAux k n ≤ Lib.bitLenAux k m := by
  induction k with
  | zero => intro n m _; simp [Lib.bitLenAux]
  | succ k ih =>
    intro n m h; simp only [Lib.bitLenAux]
    have := ih (n := n / 2) (m := m / 2) (by omega)
    split <;> split <;> omega
theorem blen_mono {a b : Int} (h : a ≤ b) : blen a ≤ blen b := by
  have := within_mono h
  have := bitLenAux_mono 64 (n := (within a).toNat) (m := (within b).toNat) (by omega)
  unfold blen Lib.bitLen; omega
theorem sort_mono {a b c d : Int} (h : a ≤ c) (k : b ≤ d) : sort a b ≤ sort c d := add_mono k (mul_mono h (blen_mono h))

def scan (a b : Int) : Int := add (mul 10 a) b
def seek (a b : Int) : Int := add (mul 10 a) (mul 11 b)
def nest (a b c : Int) : Int := add b (mul a c)
def hash (a b c d : Int) : Int := add (add b d) (add a (mul 2 c))
def merge (a b c d : Int) : Int := add (add (sort a b) (sort c d)) (add a c)
def each (a b : Int) : Int := add b a
/-- All costs of four numbers. -/
def all (a b c d : Int) : List Int := [add a b, mul a b, scan a b, seek a b, nest a b c, hash a b c d, merge a b c d, sort a b, each a b]

/-! what the plans cost at least -/
theorem within_eq (b : Int) : max 0 (min b 1000000000000) = within b := by unfold within; split <;> (try split) <;> omega
theorem add_ge_left (a b : Int) : within a ≤ add a b := by
  have h1 := within_bd a; have h2 := within_bd b
  unfold add
  have h3 : within (within a) ≤ within (within a + within b) := within_mono (by omega)
  rw [within_within] at h3; exact h3
theorem add_ge_right (a b : Int) : within b ≤ add a b := by rw [add_comm]; exact add_ge_left b a
theorem le_add_left {x a : Int} (b : Int) (h : within x ≤ within a) : within x ≤ add a b := Int.le_trans h (add_ge_left a b)
theorem le_add_right {x b : Int} (a : Int) (h : within x ≤ within b) : within x ≤ add a b := Int.le_trans h (add_ge_right a b)
theorem within_add (a b : Int) : within (add a b) = add a b := within_of (add_bd a b).1 (add_bd a b).2
theorem nest_ge (a b c : Int) : within b ≤ nest a b c := add_ge_left _ _
theorem hash_ge (a b c d : Int) : within b ≤ hash a b c d ∧ within d ≤ hash a b c d := by
  unfold hash
  exact ⟨le_add_left _ (by rw [within_add]; exact add_ge_left _ _), le_add_left _ (by rw [within_add]; exact add_ge_right _ _)⟩
theorem sort_ge (a b : Int) : within b ≤ sort a b := add_ge_left _ _
theorem within_sort (a b : Int) : within (sort a b) = sort a b := within_add _ _
theorem merge_ge (a b c d : Int) : within b ≤ merge a b c d ∧ within d ≤ merge a b c d := by
  unfold merge
  have h1 := sort_ge a b; have h2 := sort_ge c d
  exact ⟨le_add_left _ (by rw [within_add]; exact le_add_left _ (by rw [within_sort]; exact h1)), le_add_left _ (by rw [within_add]; exact le_add_right _ (by rw [within_sort]; exact h2))⟩
theorem blen_pos {n : Int} (h : 0 < within n) : 1 ≤ blen n := by
  unfold blen Lib.bitLen
  have h2 : (within n).toNat ≠ 0 := by omega
  rw [show (64 : Nat) = 63 + 1 from rfl, Lib.bitLenAux, if_neg h2]
  omega
theorem le_mul_blen (n : Int) : within n ≤ mul n (blen n) := by
  have h0 := within_bd n
  rw [mul_eq]
  by_cases h : 0 < within n
  · have h1 := blen_pos h
    have h2 := blen_bd n
    rw [within_of (n := blen n) (by omega) (by omega)]
    have h3 : within n * 1 ≤ within n * blen n := Int.mul_le_mul_of_nonneg_left h1 h0.1
    have h4 := within_mono h3
    rw [Int.mul_one, within_within] at h4; exact h4
  · have h1 := within_bd (within n * within (blen n)); omega
theorem each_le_sort (n b : Int) : each n b ≤ sort n b := by
  unfold each sort add
  have := le_mul_blen n
  have h2 : within n ≤ within (mul n (blen n)) := by
    rw [within_of (n := mul n (blen n)) (mul_bd _ _).1 (mul_bd _ _).2]; exact this
  exact within_mono (by omega)
theorem sort_zero (n : Int) (h0 : 0 ≤ n) (h1 : n ≤ 10000000000) : sort n 0 = n * blen n := by
  have hb := blen_bd n
  have h2 : 0 ≤ n * blen n := Int.mul_nonneg h0 hb.1
  have h3 : n * blen n ≤ n * 64 := Int.mul_le_mul_of_nonneg_left hb.2 h0
  unfold sort add
  rw [mul_eq, within_of (n := n) h0 (by omega), within_of (n := blen n) (by omega) (by omega), within_within, within_of (n := 0) (by omega) (by omega), Int.zero_add, within_within, within_of h2 (by omega)]
theorem sort_twice (n : Int) (h0 : 0 ≤ n) (h1 : n ≤ 5000000000) : add (sort n 0) (sort n 0) ≤ sort (n + n) 0 := by
  rw [sort_zero n h0 (by omega), sort_zero (n + n) (by omega) (by omega)]
  have hb := blen_bd n; have hb2 := blen_bd (n + n)
  have h2 : 0 ≤ n * blen n := Int.mul_nonneg h0 hb.1
  have h3 : n * blen n ≤ n * 64 := Int.mul_le_mul_of_nonneg_left hb.2 h0
  have h4 : blen n ≤ blen (n + n) := blen_mono (by omega)
  have h5 : n * blen n ≤ n * blen (n + n) := Int.mul_le_mul_of_nonneg_left h4 h0
  unfold add
  rw [within_of (n := n * blen n) h2 (by omega), within_of (by omega) (by omega), Int.add_mul]
  omega

theorem all_mono {a b c d a' b' c' d' : Int} (h1 : a ≤ a') (h2 : b ≤ b') (h3 : c ≤ c') (h4 : d ≤ d') (i : Nat) : (all a b c d).getD i 0 ≤ (all a' b' c' d').getD i 0 := by
  have e0 := add_mono h1 h2
  have e1 := mul_mono h1 h2
  have e2 : scan a b ≤ scan a' b' := add_mono (mul_mono (Int.le_refl _) h1) h2
  have e3 : seek a b ≤ seek a' b' := add_mono (mul_mono (Int.le_refl _) h1) (mul_mono (Int.le_refl _) h2)
  have e4 : nest a b c ≤ nest a' b' c' := add_mono h2 (mul_mono h1 h3)
  have e5 : hash a b c d ≤ hash a' b' c' d' := add_mono (add_mono h2 h4) (add_mono h1 (mul_mono (Int.le_refl _) h3))
  have e6 : merge a b c d ≤ merge a' b' c' d' := add_mono (add_mono (sort_mono h1 h2) (sort_mono h3 h4)) (add_mono h1 h3)
  have e7 := sort_mono h1 h2
  have e8 : each a b ≤ each a' b' := add_mono h2 h1
  match i with
  | 0 => exact e0 | 1 => exact e1 | 2 => exact e2 | 3 => exact e3 | 4 => exact e4 | 5 => exact e5 | 6 => exact e6 | 7 => exact e7 | 8 => exact e8
  | n + 9 => simp [all]
theorem all_bd (a b c d : Int) (i : Nat) : 0 ≤ (all a b c d).getD i 0 ∧ (all a b c d).getD i 0 ≤ 1000000000000 := by
  match i with
  | 0 => exact add_bd _ _ | 1 => exact mul_bd _ _ | 2 => exact add_bd _ _ | 3 => exact add_bd _ _ | 4 => exact add_bd _ _ | 5 => exact add_bd _ _ | 6 => exact add_bd _ _ | 7 => exact add_bd _ _ | 8 => exact add_bd _ _
  | n + 9 => simp [all]
end Go.Proofs.Ytkoemlkjaanndaa.K
