/- Functions: guess1. (Printed by wip/tools/mkfn.py out of wip/src/guess1.src.) -/
import Derived.Test.YtjndihloefdplaaBLib
import Derived.Test.YtjndihloefdplaaSspec
import Derived.Test.YtjndihloefdplaaSlcmp
import Derived.Test.YtjndihloefdplaaSvcmp
import Derived.Test.YtjndihloefdplaaSbits
namespace Go.Proofs.Ytjndihloefdplaa.B
open Go Go.RowKit
set_option maxRecDepth 100000
noncomputable section
attribute [local irreducible] awp ctxK itersK iterK retQ retGQ

/-! ### guesses -/
/-- A number within the bounds of sizes. -/
def szI (n : Int) : Int := min (max n 0) 1000000000000
/-- n times a by b, at most 'most'. -/
def by4 (n a b most : Int) : Int := if b = 0 then 0 else min most (n * a / b)
def othersI (c : ColStat) : Int := max (szI c.distinct - c.common.length) 0
def allI (c : ColStat) : Int := c.common.foldl (fun a x => szI (a + szI x.n)) (szI (szI c.nulls + othersI c))
def knownC (c : ColStat) : Column := ⟨c, szI c.nulls, othersI c, allI c⟩

theorem szI_range (n : Int) : 0 ≤ szI n ∧ szI n ≤ 1000000000000 := by unfold szI; omega
theorem szI_id {n : Int} (h : 0 ≤ n ∧ n ≤ 1000000000000) : szI n = n := by unfold szI; omega
theorem othersI_range (c : ColStat) : 0 ≤ othersI c ∧ othersI c ≤ 1000000000000 := by
  have := szI_range c.distinct
  unfold othersI; omega
theorem allF_range : ∀ (l : List Often) (a : Int), 0 ≤ a ∧ a ≤ 1000000000000 → 0 ≤ l.foldl (fun a x => szI (a + szI x.n)) a ∧ l.foldl (fun a x => szI (a + szI x.n)) a ≤ 1000000000000
  | [], _, h => h
  | x :: l, a, _ => allF_range l _ (szI_range _)
theorem allI_range (c : ColStat) : 0 ≤ allI c ∧ allI c ≤ 1000000000000 := allF_range _ _ (szI_range _)

/-! ### guess.size -/
def M_guess_size : Mc Un := mach (tbl []) (tbl []) (tbl []) (tbl [])
def N_guess_size : Nat → NS := fun l => (look l []).getD ⟨[], [], [], [], []⟩
def A_guess_size (r : Int) : List (A Un) := [.c (.s (.int .i64 r))]
def O_guess_size (_r : Int) : List (Ob Un) := []
theorem guess_size_in (n : Int) (K : List (A Un) → List (Ob Un) → Prop) :
    awp M_guess_size N_guess_size (bodyOf Try.f29) (entry Try.f29.ntmps 0 [.d (.v (.s (.int .i64 n)))]) (retQ M_guess_size Try.f29.results.toList [.d] K) =
(K (A_guess_size (List.foldl (fun a b => if b < a then b else a) (List.foldl (fun a b => if a < b then b else a) n [(0 : Int)]) [(1000000000000 : Int)])) (O_guess_size (List.foldl (fun a b => if b < a then b else a) (List.foldl (fun a b => if a < b then b else a) n [(0 : Int)]) [(1000000000000 : Int)]))) := by kernel_rfl
def guess_size_fn (n : Int) : Option (Int) :=
  some (List.foldl (fun a b => if b < a then b else a) (List.foldl (fun a b => if a < b then b else a) n [(0 : Int)]) [(1000000000000 : Int)])
theorem guess_size_run {n : Int} {r : Int} (h : guess_size_fn n = some r) : Runs (awp M_guess_size N_guess_size (bodyOf Try.f29) (entry Try.f29.ntmps 0 [.d (.v (.s (.int .i64 n)))]) (retQ M_guess_size Try.f29.results.toList [.d] fun rs os => rs = A_guess_size r ∧ os = O_guess_size r)) := by
  constructor
  rw [guess_size_in n (fun rs os => rs = A_guess_size r ∧ os = O_guess_size r)]
  unfold guess_size_fn at h
  cases h
  exact ⟨rfl, rfl⟩
def guess_size (n : Int) : Int :=
  (List.foldl (fun a b => if b < a then b else a) (List.foldl (fun a b => if a < b then b else a) n [(0 : Int)]) [(1000000000000 : Int)])
theorem guess_size_eq (n : Int) : guess_size_fn n = some (guess_size n) := by unfold guess_size_fn guess_size; repeat (first | rfl | split)

def F_guess_size : FnC Un := fun args => match args with
  | [x0] => (dI .i64 x0).bind fun n => some ([], A_guess_size (guess_size n), O_guess_size (guess_size n))
  | _ => none

theorem ok_guess_size : FnOK 29 F_guess_size := by
  intro args ob rs os h hob
  unfold F_guess_size at h
  split at h
  · simp only [Option.bind_eq_some_iff, Option.some.injEq, Prod.mk.injEq] at h
    obtain ⟨n, e0, rfl, rfl, rfl⟩ := h
    obtain rfl := dI_eq e0
    exact ⟨fn_contract (M := M_guess_size) rfl (tbl_ok (l1 := []) (l2 := []) (l3 := []) (l4 := []) trivial trivial trivial trivial) Try.func29 (by kernel_rfl) N_guess_size 0 [.d] (fun hwf => guess_size_run (guess_size_eq n)), hasBody_of Try.func29 (by kernel_rfl) (by kernel_rfl)⟩
  · simp at h

@[simp] theorem guess_size_spec (n : Int) : guess_size n = szI n := by
  unfold guess_size szI
  simp only [List.foldl]
  repeat' split
  all_goals omega


/-! ### guess.by -/
def M_guess_by : Mc Un := mach (tbl [(43, F_bits_Mul64), (44, F_bits_Div64)]) (tbl []) (tbl []) (tbl [])
def N_guess_by : Nat → NS := fun l => (look l []).getD ⟨[], [], [], [], []⟩
def A_guess_by (r : Int) : List (A Un) := [.c (.s (.int .i64 r))]
def O_guess_by (_r : Int) : List (Ob Un) := []
theorem guess_by_in (n : Int) (a : Int) (b : Int) (most : Int) (K : List (A Un) → List (Ob Un) → Prop) :
    awp M_guess_by N_guess_by (bodyOf Try.f30) (entry Try.f30.ntmps 0 [.d (.v (.s (.int .i64 n))), .d (.v (.s (.int .i64 a))), .d (.v (.s (.int .i64 b))), .d (.v (.s (.int .i64 most)))]) (retQ M_guess_by Try.f30.results.toList [.d] K) =
(cnd (b == (0 : Int))
 (K (A_guess_by ((0 : Int))) (O_guess_by ((0 : Int))))
 (cnd (decide (mulHi (IntKind.u64.wrap n) (IntKind.u64.wrap a) ≥ IntKind.u64.wrap b))
  (K (A_guess_by (most)) (O_guess_by (most)))
  ((mulHi (IntKind.u64.wrap n) (IntKind.u64.wrap a) < IntKind.u64.wrap b) ∧
  (cnd (decide ((bits_Div64 (mulHi (IntKind.u64.wrap n) (IntKind.u64.wrap a)) (mulLo (IntKind.u64.wrap n) (IntKind.u64.wrap a)) (IntKind.u64.wrap b)).fst > IntKind.u64.wrap most))
   (K (A_guess_by (most)) (O_guess_by (most)))
   (K (A_guess_by (IntKind.i64.wrap (bits_Div64 (mulHi (IntKind.u64.wrap n) (IntKind.u64.wrap a)) (mulLo (IntKind.u64.wrap n) (IntKind.u64.wrap a)) (IntKind.u64.wrap b)).fst)) (O_guess_by (IntKind.i64.wrap (bits_Div64 (mulHi (IntKind.u64.wrap n) (IntKind.u64.wrap a)) (mulLo (IntKind.u64.wrap n) (IntKind.u64.wrap a)) (IntKind.u64.wrap b)).fst))))))) := by kernel_rfl
def guess_by_fn (n : Int) (a : Int) (b : Int) (most : Int) : Option (Int) :=
  if (b == (0 : Int)) = true then
   some ((0 : Int))
  else
   if (decide (mulHi (IntKind.u64.wrap n) (IntKind.u64.wrap a) ≥ IntKind.u64.wrap b)) = true then
    some (most)
   else
    if mulHi (IntKind.u64.wrap n) (IntKind.u64.wrap a) < IntKind.u64.wrap b then
     if (decide ((bits_Div64 (mulHi (IntKind.u64.wrap n) (IntKind.u64.wrap a)) (mulLo (IntKind.u64.wrap n) (IntKind.u64.wrap a)) (IntKind.u64.wrap b)).fst > IntKind.u64.wrap most)) = true then
      some (most)
     else
      some (IntKind.i64.wrap (bits_Div64 (mulHi (IntKind.u64.wrap n) (IntKind.u64.wrap a)) (mulLo (IntKind.u64.wrap n) (IntKind.u64.wrap a)) (IntKind.u64.wrap b)).fst)
    else none
theorem guess_by_run {n : Int} {a : Int} {b : Int} {most : Int} {r : Int} (h : guess_by_fn n a b most = some r) : Runs (awp M_guess_by N_guess_by (bodyOf Try.f30) (entry Try.f30.ntmps 0 [.d (.v (.s (.int .i64 n))), .d (.v (.s (.int .i64 a))), .d (.v (.s (.int .i64 b))), .d (.v (.s (.int .i64 most)))]) (retQ M_guess_by Try.f30.results.toList [.d] fun rs os => rs = A_guess_by r ∧ os = O_guess_by r)) := by
  constructor
  rw [guess_by_in n a b most (fun rs os => rs = A_guess_by r ∧ os = O_guess_by r)]
  unfold guess_by_fn at h
  rcases ite_some h with ⟨c1, h2⟩ | ⟨c1, h2⟩
  · cases h2
    exact (cnd_t c1 ⟨rfl, rfl⟩)
  · rcases ite_some h2 with ⟨c3, h4⟩ | ⟨c3, h4⟩
    · cases h4
      exact (cnd_f (bfalse c1) (cnd_t c3 ⟨rfl, rfl⟩))
    · obtain ⟨c5, h6⟩ := ob_some h4
      rcases ite_some h6 with ⟨c7, h8⟩ | ⟨c7, h8⟩
      · cases h8
        exact (cnd_f (bfalse c1) (cnd_f (bfalse c3) (And.intro c5 (cnd_t c7 ⟨rfl, rfl⟩))))
      · cases h8
        exact (cnd_f (bfalse c1) (cnd_f (bfalse c3) (And.intro c5 (cnd_f (bfalse c7) ⟨rfl, rfl⟩))))

def guess_by (n a b most : Int) : Int := by4 n a b most

@[simp] theorem guess_by_eq (n a b most : Int) : guess_by n a b most = by4 n a b most := by unfold guess_by; rfl
theorem guess_by_spec (n a b most : Int) (h1 : WI n) (h2 : WI a) (h3 : WI b) (h4 : WI most) (p1 : 0 ≤ n ∧ 0 ≤ a ∧ 0 ≤ b ∧ 0 ≤ most) : guess_by_fn n a b most = some (guess_by n a b most) := by
  obtain ⟨n, rfl⟩ := Int.eq_ofNat_of_zero_le p1.1
  obtain ⟨a, rfl⟩ := Int.eq_ofNat_of_zero_le p1.2.1
  obtain ⟨b, rfl⟩ := Int.eq_ofNat_of_zero_le p1.2.2.1
  obtain ⟨most, rfl⟩ := Int.eq_ofNat_of_zero_le p1.2.2.2
  unfold WI at h1 h2 h3 h4
  unfold guess_by_fn guess_by by4
  by_cases hb : b = 0
  · subst hb; simp
  · have hb' : ¬ ((b : Int) = 0) := by omega
    rw [if_neg (by simpa using hb), if_neg hb']
    have w1 : IntKind.u64.wrap (n : Int) = (n : Int) := wrapu (by omega)
    have w2 : IntKind.u64.wrap (a : Int) = (a : Int) := wrapu (by omega)
    have w3 : IntKind.u64.wrap (b : Int) = (b : Int) := wrapu (by omega)
    have w4 : IntKind.u64.wrap (most : Int) = (most : Int) := wrapu (by omega)
    have m1 : mulHi (n : Int) (a : Int) = ((n * a / 18446744073709551616 : Nat) : Int) := by unfold mulHi; simp only [Int.toNat_natCast]
    have m2 : mulLo (n : Int) (a : Int) = ((n * a % 18446744073709551616 : Nat) : Int) := by unfold mulLo; simp only [Int.toNat_natCast]
    have m3 : bits_Div64 (((n * a / 18446744073709551616 : Nat) : Int)) (((n * a % 18446744073709551616 : Nat) : Int)) (b : Int) = (((n * a / b : Nat) : Int), ((n * a % b : Nat) : Int)) := by
      have e : n * a / 18446744073709551616 * 18446744073709551616 + n * a % 18446744073709551616 = n * a := by
        rw [Nat.mul_comm]; exact Nat.div_add_mod _ _
      unfold bits_Div64; simp only [Int.toNat_natCast, e]
    have hpos : 0 < b := by omega
    have hcast : ((n : Int) * (a : Int) / (b : Int)) = ((n * a / b : Nat) : Int) := by rw [← Int.natCast_mul n a]; exact (Int.natCast_ediv _ _).symm
    simp only [w1, w2, w3, w4, m1, m2, m3, hcast]
    have hx : b ≤ n * a / 18446744073709551616 → most ≤ n * a / b := by
      intro hh
      rw [Nat.le_div_iff_mul_le hpos]
      have h5 : b * 18446744073709551616 ≤ n * a := Nat.le_trans (Nat.mul_le_mul_right _ hh) (Nat.div_mul_le_self _ _)
      have h6 : most * b ≤ 18446744073709551616 * b := Nat.mul_le_mul_right b (by omega)
      rw [Nat.mul_comm 18446744073709551616 b] at h6
      exact Nat.le_trans h6 h5
    obtain ⟨x, hxe⟩ : ∃ x, n * a / 18446744073709551616 = x := ⟨_, rfl⟩
    obtain ⟨q, hqe⟩ : ∃ q, n * a / b = q := ⟨_, rfl⟩
    simp only [hxe, hqe] at hx ⊢
    by_cases hh : (x : Int) ≥ (b : Int)
    · have := hx (by omega)
      simp only [hh, decide_true, if_true]; congr 1; omega
    · have hh2 : (x : Int) < (b : Int) := by omega
      simp only [hh, hh2, decide_false, Bool.false_eq_true, if_false, if_true]
      by_cases h7 : (q : Int) > (most : Int)
      · simp only [h7, decide_true, if_true]; congr 1; omega
      · simp only [h7, decide_false, Bool.false_eq_true, if_false]
        rw [wrap_id (by omega)]; congr 1; omega

def F_guess_by : FnC Un := fun args => match args with
  | [x0, x1, x2, x3] => (dI .i64 x0).bind fun n => (dI .i64 x1).bind fun a => (dI .i64 x2).bind fun b => (dI .i64 x3).bind fun most => some ([0 ≤ n ∧ 0 ≤ a ∧ 0 ≤ b ∧ 0 ≤ most], A_guess_by (guess_by n a b most), O_guess_by (guess_by n a b most))
  | _ => none

theorem ok_guess_by : FnOK 30 F_guess_by := by
  intro args ob rs os h hob
  unfold F_guess_by at h
  split at h
  · simp only [Option.bind_eq_some_iff, Option.some.injEq, Prod.mk.injEq] at h
    obtain ⟨n, e0, a, e1, b, e2, most, e3, rfl, rfl, rfl⟩ := h
    obtain rfl := dI_eq e0
    obtain rfl := dI_eq e1
    obtain rfl := dI_eq e2
    obtain rfl := dI_eq e3
    exact ⟨fn_contract (M := M_guess_by) rfl (tbl_ok (l1 := [(43, F_bits_Mul64), (44, F_bits_Div64)]) (l2 := []) (l3 := []) (l4 := []) ⟨ok_bits_Mul64, ok_bits_Div64, trivial⟩ trivial trivial trivial) Try.func30 (by kernel_rfl) N_guess_by 0 [.d] (fun hwf => guess_by_run (guess_by_spec n a b most (wfArg hwf (a := .d (.v (.s (.int .i64 n)))) (List.mem_of_getElem? (i := 0) rfl)) (wfArg hwf (a := .d (.v (.s (.int .i64 a)))) (List.mem_of_getElem? (i := 1) rfl)) (wfArg hwf (a := .d (.v (.s (.int .i64 b)))) (List.mem_of_getElem? (i := 2) rfl)) (wfArg hwf (a := .d (.v (.s (.int .i64 most)))) (List.mem_of_getElem? (i := 3) rfl)) (hob _ (List.mem_of_getElem? (i := 0) rfl)))), hasBody_of Try.func30 (by kernel_rfl) (by kernel_rfl)⟩
  · simp at h


/-! ### guess.known -/
def M_guess_known : Mc Un := mach (tbl [(29, F_guess_size)]) (tbl []) (tbl []) (tbl [])
def N_guess_known : Nat → NS := fun l => (look l [(4, { ts := [false, false, true, true, false, false, false, false, false, false, false, false, false, false, false, false, false, false, false, false, false, false, false, false, false, false, false, true, true, true, false, false, false, false, false, false, false, false, false, false, false, false, false], bs := [false, false, true, true, false, false, false, false, false, false, false, false, false, false, false, false, false, false, false, false, false, false, false, false, false, false, false, false, false, false, false, false, false, false, false, false, false, false, false, false, false, false, false], nm := [], gb := [3], gs := [] })]).getD ⟨[], [], [], [], []⟩
def A_guess_known (r : Column) : List (A Un) := [.agg (encC Ty.column r)]
def O_guess_known (_r : Column) : List (Ob Un) := []
def guess_known_s4 (c : ColStat) (b3 : Column) (v0 : Int) : S Un := (st 43 43 172 0 [(2, AV.one (A.c (C.bx (2 : Nat) (0 : Nat)))), (3, AV.one (A.c (C.bx (3 : Nat) (0 : Nat)))), (27, AV.one (A.c (C.sl Ty.often c.common false))), (28, AV.one (A.c (C.s (Value.int IntKind.i64 (↑c.common.length : Int))))), (29, AV.one (A.c (C.s (Value.int IntKind.i64 v0))))] [(2, some (false, [C.s (Value.int IntKind.i64 (0 : Int)), C.s (Value.int IntKind.i64 (0 : Int)), C.sl Ty.val [] true, C.sl Ty.often [] true, C.s (Value.int IntKind.i64 (0 : Int)), C.s (Value.int IntKind.i64 (0 : Int)), C.s (Value.int IntKind.i64 (0 : Int))])), (3, some (false, encC Ty.column (b3)))] [])
theorem guess_known_in (c : ColStat) (K : List (A Un) → List (Ob Un) → Prop) :
    awp M_guess_known N_guess_known (bodyOf Try.f33) (entry Try.f33.ntmps 0 [.d (.agg (enc Ty.colStat c))]) (retQ M_guess_known Try.f33.results.toList [.d] K) =
(itersK (N_guess_known 4) (awp M_guess_known N_guess_known (sub (bodyOf Try.f33) [1, 1, 1, 0, 1, 2, 2])) (ctxK M_guess_known N_guess_known (bodyOf Try.f33) [1, 1, 1, 0, 1, 2] (retQ M_guess_known Try.f33.results.toList [.d] K)) (guess_known_s4 c ({ c := c, nulls := guess_size c.nulls, others := List.foldl (fun a b => if a < b then b else a) (IntKind.i64.wrap (guess_size c.distinct - (↑c.common.length : Int))) [(0 : Int)], all := guess_size (IntKind.i64.wrap (guess_size c.nulls + List.foldl (fun a b => if a < b then b else a) (IntKind.i64.wrap (guess_size c.distinct - (↑c.common.length : Int))) [(0 : Int)])) }) (0 : Int))) := by kernel_rfl
theorem guess_known_l4 (c : ColStat) (b3 : Column) (v0 : Int) (k : Nat) (Q : Exit → S Un → Prop) :
    iterK (N_guess_known 4) (awp M_guess_known N_guess_known (sub (bodyOf Try.f33) [1, 1, 1, 0, 1, 2, 2])) Q (k + 1) (guess_known_s4 c b3 v0) =
(cnd (decide (v0 < (↑c.common.length : Int)))
 (((0 : Int) ≤ v0 ∧ v0 < (↑c.common.length : Int)) ∧
 (iterK (N_guess_known 4) (awp M_guess_known N_guess_known (sub (bodyOf Try.f33) [1, 1, 1, 0, 1, 2, 2])) Q k (guess_known_s4 c ({ c := b3.c, nulls := b3.nulls, others := b3.others, all := guess_size (IntKind.i64.wrap (b3.all + guess_size (c.common.getD v0.toNat zeroOften).n)) }) (IntKind.i64.wrap (v0 + (1 : Int))))))
 (Q (.exit 0) (guess_known_s4 c b3 v0))) := by kernel_rfl
theorem guess_known_a4_x0 (c : ColStat) (b3 : Column) (v0 : Int) (K : List (A Un) → List (Ob Un) → Prop) :
    ctxK M_guess_known N_guess_known (bodyOf Try.f33) [1, 1, 1, 0, 1, 2] (retQ M_guess_known Try.f33.results.toList [.d] K) (.exit 0) (guess_known_s4 c b3 v0) =
(K (A_guess_known (b3)) (O_guess_known (b3))) := by kernel_rfl
def guess_known_S4 (c : ColStat) (v : Column × Int) : Option ((Column × Int) ⊕ (Column × Int)) :=
  if (decide (v.2 < (↑c.common.length : Int))) = true then
   if (0 : Int) ≤ v.2 ∧ v.2 < (↑c.common.length : Int) then
    some (.inl (({ c := v.1.c, nulls := v.1.nulls, others := v.1.others, all := guess_size (IntKind.i64.wrap (v.1.all + guess_size (c.common.getD v.2.toNat zeroOften).n)) }), (IntKind.i64.wrap (v.2 + (1 : Int)))))
   else none
  else
   some (.inr (v.1, v.2))
def guess_known_L4 (c : ColStat) (v : Column × Int) : Option (Column × Int) := loopO (guess_known_S4 c) v
theorem guess_known_L4_eq (c : ColStat) (v : Column × Int) : guess_known_L4 c v = stepB (guess_known_L4 c) (guess_known_S4 c v) := loopO_eq _ _
def guess_known_Q4 (c : ColStat) (r : Column × Int) (Q : Exit → S Un → Prop) : Prop := Q (.exit 0) (guess_known_s4 c r.1 r.2)
theorem guess_known_Q4_x0 {c : ColStat} {r : Column × Int} {Q : Exit → S Un → Prop} (h : Q (.exit 0) (guess_known_s4 c r.1 r.2)) : guess_known_Q4 c r Q := h
theorem guess_known_L4_run {c : ColStat} {v : Column × Int} {r : Column × Int} (h : guess_known_L4 c v = some r) (Q : Exit → S Un → Prop) (hQ : guess_known_Q4 c r Q) : itersK (N_guess_known 4) (awp M_guess_known N_guess_known (sub (bodyOf Try.f33) [1, 1, 1, 0, 1, 2, 2])) Q (guess_known_s4 c v.1 v.2) := by
  refine @loop_run _ _ (guess_known_S4 c) (fun v => itersK (N_guess_known 4) (awp M_guess_known N_guess_known (sub (bodyOf Try.f33) [1, 1, 1, 0, 1, 2, 2])) Q (guess_known_s4 c v.1 v.2)) (fun r => guess_known_Q4 c r Q) ?_ v r h hQ
  intro v o h hI
  unfold guess_known_S4 at h
  rcases ite_some h with ⟨c1, h2⟩ | ⟨c1, h2⟩
  · obtain ⟨c3, h4⟩ := ob_some h2
    cases h4
    obtain ⟨k5, hk6⟩ := itersK_get hI
    exact itersK_mk (k5 + 1) (mpr (guess_known_l4 c v.1 v.2 k5 Q) (cnd_t c1 (And.intro c3 hk6)))
  · cases h2
    exact itersK_mk 1 (mpr (guess_known_l4 c v.1 v.2 0 Q) (cnd_f (bfalse c1) hI))
def guess_known_fn (c : ColStat) : Option (Column) :=
  (guess_known_L4 c (({ c := c, nulls := guess_size c.nulls, others := List.foldl (fun a b => if a < b then b else a) (IntKind.i64.wrap (guess_size c.distinct - (↑c.common.length : Int))) [(0 : Int)], all := guess_size (IntKind.i64.wrap (guess_size c.nulls + List.foldl (fun a b => if a < b then b else a) (IntKind.i64.wrap (guess_size c.distinct - (↑c.common.length : Int))) [(0 : Int)])) }), (0 : Int))) >>= fun o7 =>
   some (o7.1)
theorem guess_known_run {c : ColStat} {r : Column} (h : guess_known_fn c = some r) : Runs (awp M_guess_known N_guess_known (bodyOf Try.f33) (entry Try.f33.ntmps 0 [.d (.agg (enc Ty.colStat c))]) (retQ M_guess_known Try.f33.results.toList [.d] fun rs os => rs = A_guess_known r ∧ os = O_guess_known r)) := by
  constructor
  rw [guess_known_in c (fun rs os => rs = A_guess_known r ∧ os = O_guess_known r)]
  unfold guess_known_fn at h
  obtain ⟨o8, ho9, h10⟩ := bind_some h
  cases h10
  exact (guess_known_L4_run ho9 _ (guess_known_Q4_x0 (mpr (guess_known_a4_x0 c o8.1 o8.2 _) ⟨rfl, rfl⟩)))

def guess_known (c : ColStat) : Column := knownC c

@[simp] theorem guess_known_eq (c : ColStat) : guess_known c = knownC c := by unfold guess_known; rfl
theorem guess_known_loop (c : ColStat) (hc : c.common.length ≤ 9223372036854775807) : ∀ (r : List Often) (i : Nat) (x : Column), c.common.drop i = r → i ≤ c.common.length → (0 ≤ x.all ∧ x.all ≤ 1000000000000) →
    guess_known_L4 c (x, (i : Int)) = some (⟨x.c, x.nulls, x.others, r.foldl (fun a x => szI (a + szI x.n)) x.all⟩, (c.common.length : Int)) := by
  intro r
  induction r with
  | nil =>
    intro i x h1 h2 _
    have e1 := drop_nil h1
    have hn : ¬ ((i : Int) < c.common.length) := by omega
    have : i = c.common.length := by omega
    subst this
    rw [guess_known_L4_eq, guess_known_S4]; simp
  | cons y r ih =>
    intro i x h1 h2 h3
    obtain ⟨a1, a2, a3, _⟩ := drop_cons h1
    have hp : (i : Int) < c.common.length := by omega
    have hi : (0 : Int) ≤ i := by omega
    have hy := szI_range y.n
    have hw : IntKind.i64.wrap (x.all + szI y.n) = x.all + szI y.n := wrap_id (by omega)
    rw [guess_known_L4_eq, guess_known_S4]
    simp only [hp, hi, decide_true, if_true, and_self, Int.toNat_natCast, a2, guess_size_spec, hw]
    rw [wrap_succ a1 hc, stepB_inl, ih (i + 1) _ a3 (by omega) (szI_range _)]
    rfl
theorem guess_known_spec (c : ColStat) (hc : WS .colStat c) : guess_known_fn c = some (guess_known c) := by
  have hl : c.common.length ≤ 9223372036854775807 := (hc.colStat_common).len
  have h1 := szI_range c.nulls
  have h2 := szI_range c.distinct
  have h3 := othersI_range c
  unfold guess_known_fn guess_known knownC
  have e1 : List.foldl (fun a b => if a < b then b else a) (IntKind.i64.wrap (guess_size c.distinct - (c.common.length : Int))) [(0 : Int)] = othersI c := by
    rw [guess_size_spec, wrap_id (by omega)]
    unfold othersI
    simp only [List.foldl]; split <;> omega
  have e2 : IntKind.i64.wrap (guess_size c.nulls + othersI c) = szI c.nulls + othersI c := by rw [guess_size_spec, wrap_id (by omega)]
  rw [e1, e2]
  have := guess_known_loop c hl c.common 0 ⟨c, szI c.nulls, othersI c, szI (szI c.nulls + othersI c)⟩ rfl (by omega) (szI_range _)
  simp only [guess_size_spec]
  erw [this]
  rfl

def F_guess_known : FnC Un := fun args => match args with
  | [x0] => (dS .colStat x0).bind fun c => some ([], A_guess_known (guess_known c), O_guess_known (guess_known c))
  | _ => none

theorem ok_guess_known : FnOK 33 F_guess_known := by
  intro args ob rs os h hob
  unfold F_guess_known at h
  split at h
  · simp only [Option.bind_eq_some_iff, Option.some.injEq, Prod.mk.injEq] at h
    obtain ⟨c, e0, rfl, rfl, rfl⟩ := h
    obtain rfl := dS_eq e0
    exact ⟨fn_contract (M := M_guess_known) rfl (tbl_ok (l1 := [(29, F_guess_size)]) (l2 := []) (l3 := []) (l4 := []) ⟨ok_guess_size, trivial⟩ trivial trivial trivial) Try.func33 (by kernel_rfl) N_guess_known 0 [.d] (fun hwf => guess_known_run (guess_known_spec c (wfArg hwf (a := .d (.agg (enc Ty.colStat c))) (List.mem_of_getElem? (i := 0) rfl)))), hasBody_of Try.func33 (by kernel_rfl) (by kernel_rfl)⟩
  · simp at h

/-- The share of some rows, per million. -/
def shareA (all n : Int) : Int := if all = 0 then 0 else min 1000000 (n * 1000000 / all)
/-- The share of one value. -/
def eqF (all others : Int) (w : Val) : List Often → Int
  | [] => shareA all (min others 1)
  | x :: r => if ordV x.v w = 0 then shareA all (szI x.n) else eqF all others w r


/-! ### (guess.column).share -/
def M_column_share : Mc Un := mach (tbl [(30, F_guess_by)]) (tbl []) (tbl []) (tbl [])
def N_column_share : Nat → NS := fun l => (look l []).getD ⟨[], [], [], [], []⟩
def A_column_share (r : Int) : List (A Un) := [.c (.s (.int .i64 r))]
def O_column_share (_r : Int) : List (Ob Un) := []
theorem column_share_in (c : Column) (n : Int) (K : List (A Un) → List (Ob Un) → Prop) :
    awp M_column_share N_column_share (bodyOf Try.f23) (entry Try.f23.ntmps 0 [.d (.agg (enc Ty.column c)), .d (.v (.s (.int .i64 n)))]) (retQ M_column_share Try.f23.results.toList [.d] K) =
(((0 : Int) ≤ n ∧ (0 : Int) ≤ (1000000 : Int) ∧ (0 : Int) ≤ c.all ∧ (0 : Int) ≤ (1000000 : Int)) ∧
(K (A_column_share (guess_by n (1000000 : Int) c.all (1000000 : Int))) (O_column_share (guess_by n (1000000 : Int) c.all (1000000 : Int))))) := by kernel_rfl
def column_share_fn (c : Column) (n : Int) : Option (Int) :=
  if (0 : Int) ≤ n ∧ (0 : Int) ≤ (1000000 : Int) ∧ (0 : Int) ≤ c.all ∧ (0 : Int) ≤ (1000000 : Int) then
   some (guess_by n (1000000 : Int) c.all (1000000 : Int))
  else none
theorem column_share_run {c : Column} {n : Int} {r : Int} (h : column_share_fn c n = some r) : Runs (awp M_column_share N_column_share (bodyOf Try.f23) (entry Try.f23.ntmps 0 [.d (.agg (enc Ty.column c)), .d (.v (.s (.int .i64 n)))]) (retQ M_column_share Try.f23.results.toList [.d] fun rs os => rs = A_column_share r ∧ os = O_column_share r)) := by
  constructor
  rw [column_share_in c n (fun rs os => rs = A_column_share r ∧ os = O_column_share r)]
  unfold column_share_fn at h
  obtain ⟨c1, h2⟩ := ob_some h
  cases h2
  exact (And.intro c1 ⟨rfl, rfl⟩)

def column_share (c : Column) (n : Int) : Int := shareA c.all n

@[simp] theorem column_share_eq (c : Column) (n : Int) : column_share c n = shareA c.all n := by unfold column_share; rfl
theorem column_share_spec (c : Column) (n : Int) (_hc : WS .column c) (_hn : WI n) (h : 0 ≤ n ∧ 0 ≤ c.all) : column_share_fn c n = some (column_share c n) := by
  unfold column_share_fn column_share shareA
  rw [if_pos (by omega)]; rfl

def F_column_share : FnC Un := fun args => match args with
  | [x0, x1] => (dS .column x0).bind fun c => (dI .i64 x1).bind fun n => some ([0 ≤ n ∧ 0 ≤ c.all], A_column_share (column_share c n), O_column_share (column_share c n))
  | _ => none

theorem ok_column_share : FnOK 23 F_column_share := by
  intro args ob rs os h hob
  unfold F_column_share at h
  split at h
  · simp only [Option.bind_eq_some_iff, Option.some.injEq, Prod.mk.injEq] at h
    obtain ⟨c, e0, n, e1, rfl, rfl, rfl⟩ := h
    obtain rfl := dS_eq e0
    obtain rfl := dI_eq e1
    exact ⟨fn_contract (M := M_column_share) rfl (tbl_ok (l1 := [(30, F_guess_by)]) (l2 := []) (l3 := []) (l4 := []) ⟨ok_guess_by, trivial⟩ trivial trivial trivial) Try.func23 (by kernel_rfl) N_column_share 0 [.d] (fun hwf => column_share_run (column_share_spec c n (wfArg hwf (a := .d (.agg (enc Ty.column c))) (List.mem_of_getElem? (i := 0) rfl)) (wfArg hwf (a := .d (.v (.s (.int .i64 n)))) (List.mem_of_getElem? (i := 1) rfl)) (hob _ (List.mem_of_getElem? (i := 0) rfl)))), hasBody_of Try.func23 (by kernel_rfl) (by kernel_rfl)⟩
  · simp at h


/-! ### (guess.column).equal -/
def M_column_equal : Mc Un := mach (tbl [(45, F_value_Order), (29, F_guess_size), (23, F_column_share)]) (tbl []) (tbl []) (tbl [])
def N_column_equal : Nat → NS := fun l => (look l [(2, { ts := [false, false, true, true, true, false, false, false, false, true, true, true, false, false, false, false, false, false, false, false, false, false, false, false, false, false, false, false, false, false, false], bs := [false, false, true, true, false, false, false, false, false, false, false, false, false, false, false, false, false, false, false, false, false, false, false, false, false, false, false, false, false, false, false], nm := [], gb := [], gs := [] })]).getD ⟨[], [], [], [], []⟩
def A_column_equal (r : Int) : List (A Un) := [.c (.s (.int .i64 r))]
def O_column_equal (_r : Int) : List (Ob Un) := []
def column_equal_s2 (c : Column) (w : Val) (v0 : Int) : S Un := (st 31 31 124 0 [(2, AV.one (A.c (C.bx (2 : Nat) (0 : Nat)))), (3, AV.one (A.c (C.bx (3 : Nat) (0 : Nat)))), (4, AV.one (A.c (C.s (Value.int IntKind.i64 (0 : Int))))), (9, AV.one (A.c (C.sl Ty.often c.c.common false))), (10, AV.one (A.c (C.s (Value.int IntKind.i64 (↑c.c.common.length : Int))))), (11, AV.one (A.c (C.s (Value.int IntKind.i64 v0))))] [(2, some (false, encC Ty.column (c))), (3, some (false, encC Ty.val (w)))] [])
def column_equal_e2_ret (c : Column) (w : Val) (v0 : Int) (v1 : Int) : S Un := (st 31 31 124 0 [(2, AV.one (A.c (C.bx (2 : Nat) (0 : Nat)))), (3, AV.one (A.c (C.bx (3 : Nat) (0 : Nat)))), (4, AV.one (A.c (C.s (Value.int IntKind.i64 v1)))), (9, AV.one (A.c (C.sl Ty.often c.c.common false))), (10, AV.one (A.c (C.s (Value.int IntKind.i64 (↑c.c.common.length : Int))))), (11, AV.one (A.c (C.s (Value.int IntKind.i64 v0))))] [(2, some (false, encC Ty.column (c))), (3, some (false, encC Ty.val (w)))] [])
theorem column_equal_in (c : Column) (w : Val) (K : List (A Un) → List (Ob Un) → Prop) :
    awp M_column_equal N_column_equal (bodyOf Try.f34) (entry Try.f34.ntmps 0 [.d (.agg (enc Ty.column c)), .d (.agg (enc Ty.val w))]) (retQ M_column_equal Try.f34.results.toList [.d] K) =
(itersK (N_column_equal 2) (awp M_column_equal N_column_equal (sub (bodyOf Try.f34) [1, 0, 1, 2, 2])) (ctxK M_column_equal N_column_equal (bodyOf Try.f34) [1, 0, 1, 2] (retQ M_column_equal Try.f34.results.toList [.d] K)) (column_equal_s2 c w (0 : Int))) := by kernel_rfl
theorem column_equal_l2 (c : Column) (w : Val) (v0 : Int) (k : Nat) (Q : Exit → S Un → Prop) :
    iterK (N_column_equal 2) (awp M_column_equal N_column_equal (sub (bodyOf Try.f34) [1, 0, 1, 2, 2])) Q (k + 1) (column_equal_s2 c w v0) =
(cnd (decide (v0 < (↑c.c.common.length : Int)))
 (((0 : Int) ≤ v0 ∧ v0 < (↑c.c.common.length : Int)) ∧
 (cnd (value_Order (c.c.common.getD v0.toNat zeroOften).v w == (0 : Int))
  (((0 : Int) ≤ guess_size (c.c.common.getD v0.toNat zeroOften).n ∧ (0 : Int) ≤ c.all) ∧
  (Q .ret (column_equal_e2_ret c w v0 (column_share c (guess_size (c.c.common.getD v0.toNat zeroOften).n)))))
  (iterK (N_column_equal 2) (awp M_column_equal N_column_equal (sub (bodyOf Try.f34) [1, 0, 1, 2, 2])) Q k (column_equal_s2 c w (IntKind.i64.wrap (v0 + (1 : Int)))))))
 (Q (.exit 0) (column_equal_s2 c w v0))) := by kernel_rfl
theorem column_equal_a2_ret (c : Column) (w : Val) (v0 : Int) (v1 : Int) (K : List (A Un) → List (Ob Un) → Prop) :
    ctxK M_column_equal N_column_equal (bodyOf Try.f34) [1, 0, 1, 2] (retQ M_column_equal Try.f34.results.toList [.d] K) .ret (column_equal_e2_ret c w v0 v1) =
(K (A_column_equal (v1)) (O_column_equal (v1))) := by kernel_rfl
theorem column_equal_a2_x0 (c : Column) (w : Val) (v0 : Int) (K : List (A Un) → List (Ob Un) → Prop) :
    ctxK M_column_equal N_column_equal (bodyOf Try.f34) [1, 0, 1, 2] (retQ M_column_equal Try.f34.results.toList [.d] K) (.exit 0) (column_equal_s2 c w v0) =
(((0 : Int) ≤ List.foldl (fun a b => if b < a then b else a) c.others [(1 : Int)] ∧ (0 : Int) ≤ c.all) ∧
(K (A_column_equal (column_share c (List.foldl (fun a b => if b < a then b else a) c.others [(1 : Int)]))) (O_column_equal (column_share c (List.foldl (fun a b => if b < a then b else a) c.others [(1 : Int)]))))) := by kernel_rfl
def column_equal_S2 (c : Column) (w : Val) (v : Int) : Option ((Int) ⊕ ((Int × Int) ⊕ (Int))) :=
  if (decide (v < (↑c.c.common.length : Int))) = true then
   if (0 : Int) ≤ v ∧ v < (↑c.c.common.length : Int) then
    if (value_Order (c.c.common.getD v.toNat zeroOften).v w == (0 : Int)) = true then
     if (0 : Int) ≤ guess_size (c.c.common.getD v.toNat zeroOften).n ∧ (0 : Int) ≤ c.all then
      some (.inr (.inl (v, (column_share c (guess_size (c.c.common.getD v.toNat zeroOften).n)))))
     else none
    else
     some (.inl (IntKind.i64.wrap (v + (1 : Int))))
   else none
  else
   some (.inr (.inr v))
def column_equal_L2 (c : Column) (w : Val) (v : Int) : Option ((Int × Int) ⊕ (Int)) := loopO (column_equal_S2 c w) v
theorem column_equal_L2_eq (c : Column) (w : Val) (v : Int) : column_equal_L2 c w v = stepB (column_equal_L2 c w) (column_equal_S2 c w v) := loopO_eq _ _
def column_equal_Q2 (c : Column) (w : Val) (r : (Int × Int) ⊕ (Int)) (Q : Exit → S Un → Prop) : Prop := match r with | .inl x => Q .ret (column_equal_e2_ret c w x.1 x.2) | .inr x => Q (.exit 0) (column_equal_s2 c w x)
theorem column_equal_Q2_ret {c : Column} {w : Val} {x : Int × Int} {Q : Exit → S Un → Prop} (h : Q .ret (column_equal_e2_ret c w x.1 x.2)) : column_equal_Q2 c w (.inl x) Q := h
theorem column_equal_Q2_x0 {c : Column} {w : Val} {x : Int} {Q : Exit → S Un → Prop} (h : Q (.exit 0) (column_equal_s2 c w x)) : column_equal_Q2 c w (.inr x) Q := h
theorem column_equal_L2_run {c : Column} {w : Val} {v : Int} {r : (Int × Int) ⊕ (Int)} (h : column_equal_L2 c w v = some r) (Q : Exit → S Un → Prop) (hQ : column_equal_Q2 c w r Q) : itersK (N_column_equal 2) (awp M_column_equal N_column_equal (sub (bodyOf Try.f34) [1, 0, 1, 2, 2])) Q (column_equal_s2 c w v) := by
  refine @loop_run _ _ (column_equal_S2 c w) (fun v => itersK (N_column_equal 2) (awp M_column_equal N_column_equal (sub (bodyOf Try.f34) [1, 0, 1, 2, 2])) Q (column_equal_s2 c w v)) (fun r => column_equal_Q2 c w r Q) ?_ v r h hQ
  intro v o h hI
  unfold column_equal_S2 at h
  rcases ite_some h with ⟨c1, h2⟩ | ⟨c1, h2⟩
  · obtain ⟨c3, h4⟩ := ob_some h2
    rcases ite_some h4 with ⟨c5, h6⟩ | ⟨c5, h6⟩
    · obtain ⟨c7, h8⟩ := ob_some h6
      cases h8
      exact itersK_mk 1 (mpr (column_equal_l2 c w v 0 Q) (cnd_t c1 (And.intro c3 (cnd_t c5 (And.intro c7 hI)))))
    · cases h6
      obtain ⟨k9, hk10⟩ := itersK_get hI
      exact itersK_mk (k9 + 1) (mpr (column_equal_l2 c w v k9 Q) (cnd_t c1 (And.intro c3 (cnd_f (bfalse c5) hk10))))
  · cases h2
    exact itersK_mk 1 (mpr (column_equal_l2 c w v 0 Q) (cnd_f (bfalse c1) hI))
def column_equal_fn (c : Column) (w : Val) : Option (Int) :=
  (column_equal_L2 c w (0 : Int)) >>= fun o11 => match o11 with
   | .inl o12 =>
     some (o12.2)
   | .inr o13 =>
     if (0 : Int) ≤ List.foldl (fun a b => if b < a then b else a) c.others [(1 : Int)] ∧ (0 : Int) ≤ c.all then
      some (column_share c (List.foldl (fun a b => if b < a then b else a) c.others [(1 : Int)]))
     else none
theorem column_equal_run {c : Column} {w : Val} {r : Int} (h : column_equal_fn c w = some r) : Runs (awp M_column_equal N_column_equal (bodyOf Try.f34) (entry Try.f34.ntmps 0 [.d (.agg (enc Ty.column c)), .d (.agg (enc Ty.val w))]) (retQ M_column_equal Try.f34.results.toList [.d] fun rs os => rs = A_column_equal r ∧ os = O_column_equal r)) := by
  constructor
  rw [column_equal_in c w (fun rs os => rs = A_column_equal r ∧ os = O_column_equal r)]
  unfold column_equal_fn at h
  obtain ⟨o14, ho15, h16⟩ := bind_some h
  rcases o14 with o17 | o18
  · cases h16
    exact (column_equal_L2_run ho15 _ (column_equal_Q2_ret (mpr (column_equal_a2_ret c w o17.1 o17.2 _) ⟨rfl, rfl⟩)))
  · obtain ⟨c19, h20⟩ := ob_some h16
    cases h20
    exact (column_equal_L2_run ho15 _ (column_equal_Q2_x0 (mpr (column_equal_a2_x0 c w o18 _) (And.intro c19 ⟨rfl, rfl⟩))))

def column_equal (c : Column) (w : Val) : Int := eqF c.all c.others w c.c.common

@[simp] theorem column_equal_eq (c : Column) (w : Val) : column_equal c w = eqF c.all c.others w c.c.common := by unfold column_equal; rfl

theorem column_equal_loop (c : Column) (w : Val) (hc : c.c.common.length ≤ 9223372036854775807) (ha : 0 ≤ c.all) (ho : 0 ≤ c.others) : ∀ (r : List Often) (i : Nat), c.c.common.drop i = r →
    ∃ o, column_equal_L2 c w i = some o ∧ (match o with | .inl o => o.2 | .inr _ => shareA c.all (min c.others 1)) = eqF c.all c.others w r := by
  intro r
  induction r with
  | nil =>
    intro i h1
    have e1 := drop_nil h1
    have hn : ¬ ((i : Int) < c.c.common.length) := by omega
    exact ⟨.inr i, by rw [column_equal_L2_eq, column_equal_S2]; simp [hn], rfl⟩
  | cons x r ih =>
    intro i h1
    obtain ⟨a1, a2, a3, _⟩ := drop_cons h1
    have hp : (i : Int) < c.c.common.length := by omega
    have hi : (0 : Int) ≤ i := by omega
    have hx := szI_range x.n
    rw [column_equal_L2_eq, column_equal_S2]
    simp only [hp, hi, decide_true, if_true, and_self, Int.toNat_natCast, a2, value_Order_eq, beq_iff_eq, guess_size_spec, eqF, hx.1, ha, column_share_eq]
    by_cases h : ordV x.v w = 0
    · exact ⟨_, by rw [if_pos h, stepB_inr], by rw [if_pos h]⟩
    · rw [if_neg h, if_neg h, wrap_succ a1 hc, stepB_inl]; exact ih (i + 1) a3
theorem column_equal_spec (c : Column) (w : Val) (hc : WS .column c) (_hw : WS .val w) (h : 0 ≤ c.others ∧ 0 ≤ c.all) : column_equal_fn c w = some (column_equal c w) := by
  obtain ⟨o, ho, e⟩ := column_equal_loop c w ((hc.column_c).colStat_common).len h.2 h.1 _ 0 rfl
  unfold column_equal_fn column_equal
  simp only [List.drop_zero] at e
  rw [← e]
  have ho' : column_equal_L2 c w 0 = some o := ho
  rw [ho']
  have hm : List.foldl (fun a b => if b < a then b else a) c.others [(1 : Int)] = min c.others 1 := by simp only [List.foldl]; split <;> omega
  cases o with
  | inl o => rfl
  | inr o =>
    simp only [Option.bind_eq_bind, Option.bind_some, hm]
    rw [if_pos (by omega)]; rfl

def F_column_equal : FnC Un := fun args => match args with
  | [x0, x1] => (dS .column x0).bind fun c => (dS .val x1).bind fun w => some ([0 ≤ c.others ∧ 0 ≤ c.all], A_column_equal (column_equal c w), O_column_equal (column_equal c w))
  | _ => none

theorem ok_column_equal : FnOK 34 F_column_equal := by
  intro args ob rs os h hob
  unfold F_column_equal at h
  split at h
  · simp only [Option.bind_eq_some_iff, Option.some.injEq, Prod.mk.injEq] at h
    obtain ⟨c, e0, w, e1, rfl, rfl, rfl⟩ := h
    obtain rfl := dS_eq e0
    obtain rfl := dS_eq e1
    exact ⟨fn_contract (M := M_column_equal) rfl (tbl_ok (l1 := [(45, F_value_Order), (29, F_guess_size), (23, F_column_share)]) (l2 := []) (l3 := []) (l4 := []) ⟨ok_value_Order, ok_guess_size, ok_column_share, trivial⟩ trivial trivial trivial) Try.func34 (by kernel_rfl) N_column_equal 0 [.d] (fun hwf => column_equal_run (column_equal_spec c w (wfArg hwf (a := .d (.agg (enc Ty.column c))) (List.mem_of_getElem? (i := 0) rfl)) (wfArg hwf (a := .d (.agg (enc Ty.val w))) (List.mem_of_getElem? (i := 1) rfl)) (hob _ (List.mem_of_getElem? (i := 0) rfl)))), hasBody_of Try.func34 (by kernel_rfl) (by kernel_rfl)⟩
  · simp at h


end
end Go.Proofs.Ytjndihloefdplaa.B
