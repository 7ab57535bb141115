/- Functions: ref24c. (Printed by wip/tools/mkfn.py out of wip/src/ref24c.src.) -/
import Derived.Test.YtjndihloefdplaaBLib
import Derived.Test.YtjndihloefdplaaSspec
import Derived.Test.YtjndihloefdplaaSbits
import Derived.Test.YtjndihloefdplaaSguess1
import Derived.Test.YtjndihloefdplaaSguess2
import Derived.Test.YtjndihloefdplaaSguess5
import Derived.Test.YtjndihloefdplaaSref24a
namespace Go.Proofs.Ytjndihloefdplaa.B
open Go Go.RowKit
set_option maxRecDepth 100000
noncomputable section
attribute [local irreducible] awp ctxK itersK iterK retQ retGQ

/-! ### tabellionref24.Rows -/
def M_r24_Rows : Mc Un := mach (tbl [(31, F_r24_size)]) (tbl []) (tbl []) (tbl [])
def N_r24_Rows : Nat → NS := fun l => (look l []).getD ⟨[], [], [], [], []⟩
def A_r24_Rows (r : Int) : List (A Un) := [.c (.s (.int .i64 r))]
def O_r24_Rows (_r : Int) : List (Ob Un) := []
theorem r24_Rows_in (n : Int) (part : Int) (K : List (A Un) → List (Ob Un) → Prop) :
    awp M_r24_Rows N_r24_Rows (bodyOf Try.f13) (entry Try.f13.ntmps 0 [.d (.v (.s (.int .i64 n))), .d (.v (.s (.int .i64 part)))]) (retQ M_r24_Rows Try.f13.results.toList [.d] K) =
((¬(1000000 : Int) = (0 : Int)) ∧
(K (A_r24_Rows (IntKind.i64.wrap ((IntKind.i64.wrap (IntKind.i64.wrap (IntKind.i64.wrap (r24_size n * List.foldl (fun a b => if b < a then b else a) (List.foldl (fun a b => if a < b then b else a) part [(0 : Int)]) [(1000000 : Int)]) + (1000000 : Int)) - (1 : Int))).tdiv (1000000 : Int)))) (O_r24_Rows (IntKind.i64.wrap ((IntKind.i64.wrap (IntKind.i64.wrap (IntKind.i64.wrap (r24_size n * List.foldl (fun a b => if b < a then b else a) (List.foldl (fun a b => if a < b then b else a) part [(0 : Int)]) [(1000000 : Int)]) + (1000000 : Int)) - (1 : Int))).tdiv (1000000 : Int)))))) := by kernel_rfl
def r24_Rows_fn (n : Int) (part : Int) : Option (Int) :=
  if ¬(1000000 : Int) = (0 : Int) then
   some (IntKind.i64.wrap ((IntKind.i64.wrap (IntKind.i64.wrap (IntKind.i64.wrap (r24_size n * List.foldl (fun a b => if b < a then b else a) (List.foldl (fun a b => if a < b then b else a) part [(0 : Int)]) [(1000000 : Int)]) + (1000000 : Int)) - (1 : Int))).tdiv (1000000 : Int)))
  else none
theorem r24_Rows_run {n : Int} {part : Int} {r : Int} (h : r24_Rows_fn n part = some r) : Runs (awp M_r24_Rows N_r24_Rows (bodyOf Try.f13) (entry Try.f13.ntmps 0 [.d (.v (.s (.int .i64 n))), .d (.v (.s (.int .i64 part)))]) (retQ M_r24_Rows Try.f13.results.toList [.d] fun rs os => rs = A_r24_Rows r ∧ os = O_r24_Rows r)) := by
  constructor
  rw [r24_Rows_in n part (fun rs os => rs = A_r24_Rows r ∧ os = O_r24_Rows r)]
  unfold r24_Rows_fn at h
  obtain ⟨c1, h2⟩ := ob_some h
  cases h2
  exact (And.intro c1 ⟨rfl, rfl⟩)

def r24_Rows (n part : Int) : Int := rowsG n part

@[simp] theorem r24_Rows_eq (n part : Int) : r24_Rows n part = rowsG n part := by unfold r24_Rows; rfl
theorem rows_law {s p : Int} (hs : 0 ≤ s ∧ s ≤ 1000000000000) (hp : 0 ≤ p ∧ p ≤ 1000000) : (0 ≤ s * p ∧ s * p ≤ 1000000000000000000) ∧ (s * p + 1000000 - 1) / 1000000 = s - min 1000000000000 (s * (1000000 - p) / 1000000) := by
  have h1 : 0 ≤ s * p := Int.mul_nonneg hs.1 hp.1
  have h2 : s * p ≤ s * 1000000 := Int.mul_le_mul_of_nonneg_left hp.2 hs.1
  have h3 : s * (1000000 - p) = s * 1000000 - s * p := Int.mul_sub _ _ _
  rw [h3]
  generalize s * p = x at *
  omega
theorem r24_Rows_spec (n part : Int) (_h1 : WI n) (_h2 : WI part) : r24_Rows_fn n part = some (r24_Rows n part) := by
  have hs := szI_range n
  have hc : 0 ≤ clampP part ∧ clampP part ≤ 1000000 := by unfold clampP; omega
  have hl := rows_law hs hc
  unfold r24_Rows_fn r24_Rows rowsG by4
  have e : List.foldl (fun a b => if b < a then b else a) (List.foldl (fun a b => if a < b then b else a) part [(0 : Int)]) [(1000000 : Int)] = clampP part := by rw [foldMax, foldMin]; rfl
  have w1 : IntKind.i64.wrap (szI n * clampP part) = szI n * clampP part := wrap_id (by omega)
  have w2 : IntKind.i64.wrap (szI n * clampP part + 1000000) = szI n * clampP part + 1000000 := wrap_id (by omega)
  have w3 : IntKind.i64.wrap (szI n * clampP part + 1000000 - 1) = szI n * clampP part + 1000000 - 1 := wrap_id (by omega)
  have d : (szI n * clampP part + 1000000 - 1).tdiv 1000000 = (szI n * clampP part + 1000000 - 1) / 1000000 := Int.tdiv_eq_ediv_of_nonneg (by omega)
  simp only [e, r24_size_eq, w1, w2, w3, d]
  rw [if_pos (by decide), if_neg (by decide), hl.2, wrap_id (by omega)]

def F_r24_Rows : FnC Un := fun args => match args with
  | [x0, x1] => (dI .i64 x0).bind fun n => (dI .i64 x1).bind fun part => some ([], A_r24_Rows (r24_Rows n part), O_r24_Rows (r24_Rows n part))
  | _ => none

theorem ok_r24_Rows : FnOK 13 F_r24_Rows := by
  intro args ob rs os h hob
  unfold F_r24_Rows at h
  split at h
  · simp only [Option.bind_eq_some_iff, Option.some.injEq, Prod.mk.injEq] at h
    obtain ⟨n, e0, part, e1, rfl, rfl, rfl⟩ := h
    obtain rfl := dI_eq e0
    obtain rfl := dI_eq e1
    exact ⟨fn_contract (M := M_r24_Rows) rfl (tbl_ok (l1 := [(31, F_r24_size)]) (l2 := []) (l3 := []) (l4 := []) ⟨ok_r24_size, trivial⟩ trivial trivial trivial) Try.func13 (by kernel_rfl) N_r24_Rows 0 [.d] (fun hwf => r24_Rows_run (r24_Rows_spec n part (wfArg hwf (a := .d (.v (.s (.int .i64 n)))) (List.mem_of_getElem? (i := 0) rfl)) (wfArg hwf (a := .d (.v (.s (.int .i64 part)))) (List.mem_of_getElem? (i := 1) rfl)))), hasBody_of Try.func13 (by kernel_rfl) (by kernel_rfl)⟩
  · simp at h


/-! ### tabellionref24.Groups -/
def M_r24_Groups : Mc Un := mach (tbl [(31, F_r24_size)]) (tbl []) (tbl []) (tbl [])
def N_r24_Groups : Nat → NS := fun l => (look l [(3, { ts := [true, true, false, false, false, true, true, false, false, false, false, false, false, false, false, false, false, false, false, false, false, false, false, false, false, false, false, false, false, false, false, false], bs := [false, false, false, false, false, false, false, false, false, false, false, false, false, false, false, false, false, false, false, false, false, false, false, false, false, false, false, false, false, false, false, false], nm := [], gb := [], gs := [] })]).getD ⟨[], [], [], [], []⟩
def A_r24_Groups (r : Int) : List (A Un) := [.c (.s (.int .i64 r))]
def O_r24_Groups (_r : Int) : List (Ob Un) := []
def r24_Groups_s3 (n : Int) (l : List ColStat) (v0 : Int) (v1 : Int) : S Un := (st 32 32 128 0 [(0, AV.one (A.c (C.s (Value.int IntKind.i64 n)))), (1, AV.one (A.c (C.sl Ty.colStat l false))), (5, AV.one (A.c (C.s (Value.int IntKind.i64 v0)))), (6, AV.one (A.c (C.s (Value.int IntKind.i64 v1))))] [] [])
theorem r24_Groups_in (n : Int) (l : List ColStat) (K : List (A Un) → List (Ob Un) → Prop) :
    awp M_r24_Groups N_r24_Groups (bodyOf Try.f17) (entry Try.f17.ntmps 0 [.d (.v (.s (.int .i64 n))), .d (.v (.dat (U := Un) Ty.colStat l))]) (retQ M_r24_Groups Try.f17.results.toList [.d] K) =
(itersK (N_r24_Groups 3) (awp M_r24_Groups N_r24_Groups (sub (bodyOf Try.f17) [1, 1, 0, 1, 2, 2])) (ctxK M_r24_Groups N_r24_Groups (bodyOf Try.f17) [1, 1, 0, 1, 2] (retQ M_r24_Groups Try.f17.results.toList [.d] K)) (r24_Groups_s3 n l (1 : Int) (0 : Int))) := by kernel_rfl
theorem r24_Groups_l3 (n : Int) (l : List ColStat) (v0 : Int) (v1 : Int) (k : Nat) (Q : Exit → S Un → Prop) :
    iterK (N_r24_Groups 3) (awp M_r24_Groups N_r24_Groups (sub (bodyOf Try.f17) [1, 1, 0, 1, 2, 2])) Q (k + 1) (r24_Groups_s3 n l v0 v1) =
(cnd (decide (v1 < (↑l.length : Int)))
 (((0 : Int) ≤ v1 ∧ v1 < (↑l.length : Int)) ∧
 ((¬List.foldl (fun a b => if a < b then b else a) (1 : Int) [r24_size (l.getD v1.toNat zeroColStat).distinct] = (0 : Int)) ∧
 (cnd (decide (v0 > IntKind.i64.wrap (Int.tdiv (1000000000000 : Int) (List.foldl (fun a b => if a < b then b else a) (1 : Int) [r24_size (l.getD v1.toNat zeroColStat).distinct]))))
  (iterK (N_r24_Groups 3) (awp M_r24_Groups N_r24_Groups (sub (bodyOf Try.f17) [1, 1, 0, 1, 2, 2])) Q k (r24_Groups_s3 n l (1000000000000 : Int) (IntKind.i64.wrap (v1 + (1 : Int)))))
  (iterK (N_r24_Groups 3) (awp M_r24_Groups N_r24_Groups (sub (bodyOf Try.f17) [1, 1, 0, 1, 2, 2])) Q k (r24_Groups_s3 n l (IntKind.i64.wrap (v0 * List.foldl (fun a b => if a < b then b else a) (1 : Int) [r24_size (l.getD v1.toNat zeroColStat).distinct])) (IntKind.i64.wrap (v1 + (1 : Int))))))))
 (Q (.exit 0) (r24_Groups_s3 n l v0 v1))) := by kernel_rfl
theorem r24_Groups_a3_x0 (n : Int) (l : List ColStat) (v0 : Int) (v1 : Int) (K : List (A Un) → List (Ob Un) → Prop) :
    ctxK M_r24_Groups N_r24_Groups (bodyOf Try.f17) [1, 1, 0, 1, 2] (retQ M_r24_Groups Try.f17.results.toList [.d] K) (.exit 0) (r24_Groups_s3 n l v0 v1) =
(K (A_r24_Groups (List.foldl (fun a b => if b < a then b else a) v0 [r24_size n])) (O_r24_Groups (List.foldl (fun a b => if b < a then b else a) v0 [r24_size n]))) := by kernel_rfl
def r24_Groups_S3 (n : Int) (l : List ColStat) (v : Int × Int) : Option ((Int × Int) ⊕ (Int × Int)) :=
  if (decide (v.2 < (↑l.length : Int))) = true then
   if (0 : Int) ≤ v.2 ∧ v.2 < (↑l.length : Int) then
    if ¬List.foldl (fun a b => if a < b then b else a) (1 : Int) [r24_size (l.getD v.2.toNat zeroColStat).distinct] = (0 : Int) then
     if (decide (v.1 > IntKind.i64.wrap (Int.tdiv (1000000000000 : Int) (List.foldl (fun a b => if a < b then b else a) (1 : Int) [r24_size (l.getD v.2.toNat zeroColStat).distinct])))) = true then
      some (.inl ((1000000000000 : Int), (IntKind.i64.wrap (v.2 + (1 : Int)))))
     else
      some (.inl ((IntKind.i64.wrap (v.1 * List.foldl (fun a b => if a < b then b else a) (1 : Int) [r24_size (l.getD v.2.toNat zeroColStat).distinct])), (IntKind.i64.wrap (v.2 + (1 : Int)))))
    else none
   else none
  else
   some (.inr (v.1, v.2))
def r24_Groups_L3 (n : Int) (l : List ColStat) (v : Int × Int) : Option (Int × Int) := loopO (r24_Groups_S3 n l) v
theorem r24_Groups_L3_eq (n : Int) (l : List ColStat) (v : Int × Int) : r24_Groups_L3 n l v = stepB (r24_Groups_L3 n l) (r24_Groups_S3 n l v) := loopO_eq _ _
def r24_Groups_Q3 (n : Int) (l : List ColStat) (r : Int × Int) (Q : Exit → S Un → Prop) : Prop := Q (.exit 0) (r24_Groups_s3 n l r.1 r.2)
theorem r24_Groups_Q3_x0 {n : Int} {l : List ColStat} {r : Int × Int} {Q : Exit → S Un → Prop} (h : Q (.exit 0) (r24_Groups_s3 n l r.1 r.2)) : r24_Groups_Q3 n l r Q := h
theorem r24_Groups_L3_run {n : Int} {l : List ColStat} {v : Int × Int} {r : Int × Int} (h : r24_Groups_L3 n l v = some r) (Q : Exit → S Un → Prop) (hQ : r24_Groups_Q3 n l r Q) : itersK (N_r24_Groups 3) (awp M_r24_Groups N_r24_Groups (sub (bodyOf Try.f17) [1, 1, 0, 1, 2, 2])) Q (r24_Groups_s3 n l v.1 v.2) := by
  refine @loop_run _ _ (r24_Groups_S3 n l) (fun v => itersK (N_r24_Groups 3) (awp M_r24_Groups N_r24_Groups (sub (bodyOf Try.f17) [1, 1, 0, 1, 2, 2])) Q (r24_Groups_s3 n l v.1 v.2)) (fun r => r24_Groups_Q3 n l r Q) ?_ v r h hQ
  intro v o h hI
  unfold r24_Groups_S3 at h
  rcases ite_some h with ⟨c1, h2⟩ | ⟨c1, h2⟩
  · obtain ⟨c3, h4⟩ := ob_some h2
    obtain ⟨c5, h6⟩ := ob_some h4
    rcases ite_some h6 with ⟨c7, h8⟩ | ⟨c7, h8⟩
    · cases h8
      obtain ⟨k9, hk10⟩ := itersK_get hI
      exact itersK_mk (k9 + 1) (mpr (r24_Groups_l3 n l v.1 v.2 k9 Q) (cnd_t c1 (And.intro c3 (And.intro c5 (cnd_t c7 hk10)))))
    · cases h8
      obtain ⟨k11, hk12⟩ := itersK_get hI
      exact itersK_mk (k11 + 1) (mpr (r24_Groups_l3 n l v.1 v.2 k11 Q) (cnd_t c1 (And.intro c3 (And.intro c5 (cnd_f (bfalse c7) hk12)))))
  · cases h2
    exact itersK_mk 1 (mpr (r24_Groups_l3 n l v.1 v.2 0 Q) (cnd_f (bfalse c1) hI))
def r24_Groups_fn (n : Int) (l : List ColStat) : Option (Int) :=
  (r24_Groups_L3 n l ((1 : Int), (0 : Int))) >>= fun o13 =>
   some (List.foldl (fun a b => if b < a then b else a) o13.1 [r24_size n])
theorem r24_Groups_run {n : Int} {l : List ColStat} {r : Int} (h : r24_Groups_fn n l = some r) : Runs (awp M_r24_Groups N_r24_Groups (bodyOf Try.f17) (entry Try.f17.ntmps 0 [.d (.v (.s (.int .i64 n))), .d (.v (.dat (U := Un) Ty.colStat l))]) (retQ M_r24_Groups Try.f17.results.toList [.d] fun rs os => rs = A_r24_Groups r ∧ os = O_r24_Groups r)) := by
  constructor
  rw [r24_Groups_in n l (fun rs os => rs = A_r24_Groups r ∧ os = O_r24_Groups r)]
  unfold r24_Groups_fn at h
  obtain ⟨o14, ho15, h16⟩ := bind_some h
  cases h16
  exact (r24_Groups_L3_run ho15 _ (r24_Groups_Q3_x0 (mpr (r24_Groups_a3_x0 n l o14.1 o14.2 _) ⟨rfl, rfl⟩)))

def r24_Groups (n : Int) (l : List ColStat) : Int := groupsG n l

@[simp] theorem r24_Groups_eq (n : Int) (l : List ColStat) : r24_Groups n l = groupsG n l := by unfold r24_Groups; rfl
theorem group_step {o k : Int} (ho : 0 ≤ o ∧ o ≤ 1000000000000) (hk : 1 ≤ k) : (o > 1000000000000 / k → min 1000000000000 (o * k / 1) = 1000000000000) ∧ (¬ (o > 1000000000000 / k) → (0 ≤ o * k ∧ o * k ≤ 1000000000000) ∧ min 1000000000000 (o * k / 1) = o * k) := by
  have h0 : 0 ≤ o * k := Int.mul_nonneg ho.1 (by omega)
  rw [Int.ediv_one]
  constructor
  · intro h
    have : 1000000000000 < o * k := Int.lt_mul_of_ediv_lt (by omega) h
    omega
  · intro h
    have : o * k ≤ 1000000000000 := Int.mul_le_of_le_ediv (by omega) (by omega)
    omega
theorem r24_Groups_loop (n : Int) (l : List ColStat) (hl : l.length ≤ 9223372036854775807) : ∀ (r : List ColStat) (i : Nat) (o : Int), l.drop i = r → i ≤ l.length → (0 ≤ o ∧ o ≤ 1000000000000) →
    r24_Groups_L3 n l (o, (i : Int)) = some (r.foldl stepG o, (l.length : Int)) := by
  intro r
  induction r with
  | nil =>
    intro i o h1 h2 h3
    have e1 := drop_nil h1
    have hn : ¬ ((i : Int) < l.length) := by omega
    have : i = l.length := by omega
    subst this
    rw [r24_Groups_L3_eq, r24_Groups_S3]; simp
  | cons c r ih =>
    intro i o h1 h2 h3
    obtain ⟨a1, a2, a3, _⟩ := drop_cons h1
    have hp : (i : Int) < l.length := by omega
    have hi : (0 : Int) ≤ i := by omega
    have hc := szI_range c.distinct
    have hmax : max 1 (szI c.distinct) = max (szI c.distinct) 1 := by omega
    have hk : 1 ≤ max (szI c.distinct) 1 := by omega
    have hst := group_step h3 hk
    have hq1 : 1000000000000 / max (szI c.distinct) 1 ≤ 1000000000000 := Int.ediv_le_self _ (by omega)
    have hq0 : 0 ≤ 1000000000000 / max (szI c.distinct) 1 := Int.ediv_nonneg (by omega) (by omega)
    rw [r24_Groups_L3_eq, r24_Groups_S3]
    simp only [decide_eq_true_eq]
    simp only [hp, hi, if_true, and_self, Int.toNat_natCast, a2, foldMax, r24_size_eq, hmax]
    rw [if_pos (by omega), Int.tdiv_eq_ediv_of_nonneg (by omega), wrap_id (n := 1000000000000 / _) (by omega)]
    have hs : stepG o c = min 1000000000000 (o * max (szI c.distinct) 1 / 1) := rfl
    by_cases hg : o > 1000000000000 / max (szI c.distinct) 1
    · rw [if_pos hg, wrap_succ a1 hl, stepB_inl, ih (i + 1) 1000000000000 a3 (by omega) (by omega)]
      rw [List.foldl_cons, hs, hst.1 hg]
    · have h4 := hst.2 hg
      rw [if_neg hg, wrap_succ a1 hl, wrap_id (by omega), stepB_inl, ih (i + 1) _ a3 (by omega) h4.1]
      rw [List.foldl_cons, hs, h4.2]
theorem r24_Groups_spec (n : Int) (l : List ColStat) (_h1 : WI n) (h2 : WL .colStat l) : r24_Groups_fn n l = some (r24_Groups n l) := by
  have e := r24_Groups_loop n l h2.len l 0 1 rfl (by omega) (by omega)
  unfold r24_Groups_fn r24_Groups groupsG
  erw [e]
  simp only [Option.bind_eq_bind, Option.bind_some, foldMin, r24_size_eq]

def F_r24_Groups : FnC Un := fun args => match args with
  | [x0, x1] => (dI .i64 x0).bind fun n => (dL .colStat x1).bind fun l => some ([], A_r24_Groups (r24_Groups n l), O_r24_Groups (r24_Groups n l))
  | _ => none

theorem ok_r24_Groups : FnOK 17 F_r24_Groups := by
  intro args ob rs os h hob
  unfold F_r24_Groups at h
  split at h
  · simp only [Option.bind_eq_some_iff, Option.some.injEq, Prod.mk.injEq] at h
    obtain ⟨n, e0, l, e1, rfl, rfl, rfl⟩ := h
    obtain rfl := dI_eq e0
    obtain rfl := dL_eq e1
    exact ⟨fn_contract (M := M_r24_Groups) rfl (tbl_ok (l1 := [(31, F_r24_size)]) (l2 := []) (l3 := []) (l4 := []) ⟨ok_r24_size, trivial⟩ trivial trivial trivial) Try.func17 (by kernel_rfl) N_r24_Groups 0 [.d] (fun hwf => r24_Groups_run (r24_Groups_spec n l (wfArg hwf (a := .d (.v (.s (.int .i64 n)))) (List.mem_of_getElem? (i := 0) rfl)) (wfArg hwf (a := .d (.v (.dat (U := Un) Ty.colStat l))) (List.mem_of_getElem? (i := 1) rfl)))), hasBody_of Try.func17 (by kernel_rfl) (by kernel_rfl)⟩
  · simp at h


/-! ### tabellionref24.Pairs -/
def M_r24_Pairs : Mc Un := mach (tbl [(31, F_r24_size)]) (tbl []) (tbl []) (tbl [])
def N_r24_Pairs : Nat → NS := fun l => (look l []).getD ⟨[], [], [], [], []⟩
def A_r24_Pairs (r : Int) : List (A Un) := [.c (.s (.int .i64 r))]
def O_r24_Pairs (_r : Int) : List (Ob Un) := []
theorem r24_Pairs_in (x : Int) (y : Int) (a : ColStat) (b : ColStat) (K : List (A Un) → List (Ob Un) → Prop) :
    awp M_r24_Pairs N_r24_Pairs (bodyOf Try.f15) (entry Try.f15.ntmps 0 [.d (.v (.s (.int .i64 x))), .d (.v (.s (.int .i64 y))), .d (.agg (enc Ty.colStat a)), .d (.agg (enc Ty.colStat b))]) (retQ M_r24_Pairs Try.f15.results.toList [.d] K) =
((¬(1048576 : Int) = (0 : Int)) ∧
((¬(1048576 : Int) = (0 : Int)) ∧
((¬List.foldl (fun a b => if a < b then b else a) (1 : Int) [List.foldl (fun a b => if a < b then b else a) (r24_size a.distinct) [r24_size b.distinct]] = (0 : Int)) ∧
(cnd (decide (IntKind.i64.wrap ((IntKind.i64.wrap (r24_size x * IntKind.i64.wrap ((r24_size y).tdiv (1048576 : Int)))).tdiv (List.foldl (fun a b => if a < b then b else a) (1 : Int) [List.foldl (fun a b => if a < b then b else a) (r24_size a.distinct) [r24_size b.distinct]])) > (953674 : Int)))
 (K (A_r24_Pairs ((1000000000000 : Int))) (O_r24_Pairs ((1000000000000 : Int))))
 ((¬List.foldl (fun a b => if a < b then b else a) (1 : Int) [List.foldl (fun a b => if a < b then b else a) (r24_size a.distinct) [r24_size b.distinct]] = (0 : Int)) ∧
 ((¬List.foldl (fun a b => if a < b then b else a) (1 : Int) [List.foldl (fun a b => if a < b then b else a) (r24_size a.distinct) [r24_size b.distinct]] = (0 : Int)) ∧
 (K (A_r24_Pairs (r24_size (IntKind.i64.wrap (IntKind.i64.wrap (IntKind.i64.wrap ((IntKind.i64.wrap (r24_size x * IntKind.i64.wrap ((r24_size y).tdiv (1048576 : Int)))).tdiv (List.foldl (fun a b => if a < b then b else a) (1 : Int) [List.foldl (fun a b => if a < b then b else a) (r24_size a.distinct) [r24_size b.distinct]])) * (1048576 : Int)) + IntKind.i64.wrap ((IntKind.i64.wrap (IntKind.i64.wrap ((IntKind.i64.wrap (r24_size x * IntKind.i64.wrap ((r24_size y).tdiv (1048576 : Int)))).tmod (List.foldl (fun a b => if a < b then b else a) (1 : Int) [List.foldl (fun a b => if a < b then b else a) (r24_size a.distinct) [r24_size b.distinct]]) * (1048576 : Int)) + IntKind.i64.wrap (r24_size x * (r24_size y).tmod (1048576 : Int)))).tdiv (List.foldl (fun a b => if a < b then b else a) (1 : Int) [List.foldl (fun a b => if a < b then b else a) (r24_size a.distinct) [r24_size b.distinct]])))))) (O_r24_Pairs (r24_size (IntKind.i64.wrap (IntKind.i64.wrap (IntKind.i64.wrap ((IntKind.i64.wrap (r24_size x * IntKind.i64.wrap ((r24_size y).tdiv (1048576 : Int)))).tdiv (List.foldl (fun a b => if a < b then b else a) (1 : Int) [List.foldl (fun a b => if a < b then b else a) (r24_size a.distinct) [r24_size b.distinct]])) * (1048576 : Int)) + IntKind.i64.wrap ((IntKind.i64.wrap (IntKind.i64.wrap ((IntKind.i64.wrap (r24_size x * IntKind.i64.wrap ((r24_size y).tdiv (1048576 : Int)))).tmod (List.foldl (fun a b => if a < b then b else a) (1 : Int) [List.foldl (fun a b => if a < b then b else a) (r24_size a.distinct) [r24_size b.distinct]]) * (1048576 : Int)) + IntKind.i64.wrap (r24_size x * (r24_size y).tmod (1048576 : Int)))).tdiv (List.foldl (fun a b => if a < b then b else a) (1 : Int) [List.foldl (fun a b => if a < b then b else a) (r24_size a.distinct) [r24_size b.distinct]]))))))))))))) := by kernel_rfl
def r24_Pairs_fn (x : Int) (y : Int) (a : ColStat) (b : ColStat) : Option (Int) :=
  if ¬(1048576 : Int) = (0 : Int) then
   if ¬(1048576 : Int) = (0 : Int) then
    if ¬List.foldl (fun a b => if a < b then b else a) (1 : Int) [List.foldl (fun a b => if a < b then b else a) (r24_size a.distinct) [r24_size b.distinct]] = (0 : Int) then
     if (decide (IntKind.i64.wrap ((IntKind.i64.wrap (r24_size x * IntKind.i64.wrap ((r24_size y).tdiv (1048576 : Int)))).tdiv (List.foldl (fun a b => if a < b then b else a) (1 : Int) [List.foldl (fun a b => if a < b then b else a) (r24_size a.distinct) [r24_size b.distinct]])) > (953674 : Int))) = true then
      some ((1000000000000 : Int))
     else
      if ¬List.foldl (fun a b => if a < b then b else a) (1 : Int) [List.foldl (fun a b => if a < b then b else a) (r24_size a.distinct) [r24_size b.distinct]] = (0 : Int) then
       if ¬List.foldl (fun a b => if a < b then b else a) (1 : Int) [List.foldl (fun a b => if a < b then b else a) (r24_size a.distinct) [r24_size b.distinct]] = (0 : Int) then
        some (r24_size (IntKind.i64.wrap (IntKind.i64.wrap (IntKind.i64.wrap ((IntKind.i64.wrap (r24_size x * IntKind.i64.wrap ((r24_size y).tdiv (1048576 : Int)))).tdiv (List.foldl (fun a b => if a < b then b else a) (1 : Int) [List.foldl (fun a b => if a < b then b else a) (r24_size a.distinct) [r24_size b.distinct]])) * (1048576 : Int)) + IntKind.i64.wrap ((IntKind.i64.wrap (IntKind.i64.wrap ((IntKind.i64.wrap (r24_size x * IntKind.i64.wrap ((r24_size y).tdiv (1048576 : Int)))).tmod (List.foldl (fun a b => if a < b then b else a) (1 : Int) [List.foldl (fun a b => if a < b then b else a) (r24_size a.distinct) [r24_size b.distinct]]) * (1048576 : Int)) + IntKind.i64.wrap (r24_size x * (r24_size y).tmod (1048576 : Int)))).tdiv (List.foldl (fun a b => if a < b then b else a) (1 : Int) [List.foldl (fun a b => if a < b then b else a) (r24_size a.distinct) [r24_size b.distinct]])))))
       else none
      else none
    else none
   else none
  else none
theorem r24_Pairs_run {x : Int} {y : Int} {a : ColStat} {b : ColStat} {r : Int} (h : r24_Pairs_fn x y a b = some r) : Runs (awp M_r24_Pairs N_r24_Pairs (bodyOf Try.f15) (entry Try.f15.ntmps 0 [.d (.v (.s (.int .i64 x))), .d (.v (.s (.int .i64 y))), .d (.agg (enc Ty.colStat a)), .d (.agg (enc Ty.colStat b))]) (retQ M_r24_Pairs Try.f15.results.toList [.d] fun rs os => rs = A_r24_Pairs r ∧ os = O_r24_Pairs r)) := by
  constructor
  rw [r24_Pairs_in x y a b (fun rs os => rs = A_r24_Pairs r ∧ os = O_r24_Pairs r)]
  unfold r24_Pairs_fn at h
  obtain ⟨c1, h2⟩ := ob_some h
  obtain ⟨c3, h4⟩ := ob_some h2
  obtain ⟨c5, h6⟩ := ob_some h4
  rcases ite_some h6 with ⟨c7, h8⟩ | ⟨c7, h8⟩
  · cases h8
    exact (And.intro c1 (And.intro c3 (And.intro c5 (cnd_t c7 ⟨rfl, rfl⟩))))
  · obtain ⟨c9, h10⟩ := ob_some h8
    obtain ⟨c11, h12⟩ := ob_some h10
    cases h12
    exact (And.intro c1 (And.intro c3 (And.intro c5 (cnd_f (bfalse c7) (And.intro c9 (And.intro c11 ⟨rfl, rfl⟩))))))

def r24_Pairs (x y : Int) (a b : ColStat) : Int := pairsG x y a b

@[simp] theorem r24_Pairs_eq (x y : Int) (a b : ColStat) : r24_Pairs x y a b = pairsG x y a b := by unfold r24_Pairs; rfl
theorem pairs_law {x y d : Int} (hx : 0 ≤ x ∧ x ≤ 1000000000000) (hy : 0 ≤ y ∧ y ≤ 1000000000000) (hd : 1 ≤ d ∧ d ≤ 1000000000000) :
    (0 ≤ x * (y / 1048576) ∧ x * (y / 1048576) ≤ 953675000000000000) ∧ (0 ≤ x * (y % 1048576) ∧ x * (y % 1048576) ≤ 1048576000000000000) ∧
    (0 ≤ x * (y / 1048576) / d) ∧ (0 ≤ x * (y / 1048576) % d ∧ x * (y / 1048576) % d < d) ∧
    x * y / d = x * (y / 1048576) / d * 1048576 + (x * (y / 1048576) % d * 1048576 + x * (y % 1048576)) / d ∧ 0 ≤ (x * (y / 1048576) % d * 1048576 + x * (y % 1048576)) / d ∧ (x * (y / 1048576) % d * 1048576 + x * (y % 1048576)) / d ≤ 2097152000000000000 := by
  have hy1 : 0 ≤ y / 1048576 ∧ y / 1048576 ≤ 953674 := by omega
  have hy2 : 0 ≤ y % 1048576 ∧ y % 1048576 ≤ 1048575 := by omega
  have a1 : 0 ≤ x * (y / 1048576) := Int.mul_nonneg hx.1 hy1.1
  have a2 : x * (y / 1048576) ≤ 1000000000000 * (y / 1048576) := Int.mul_le_mul_of_nonneg_right hx.2 hy1.1
  have b1 : 0 ≤ x * (y % 1048576) := Int.mul_nonneg hx.1 hy2.1
  have b2 : x * (y % 1048576) ≤ 1000000000000 * (y % 1048576) := Int.mul_le_mul_of_nonneg_right hx.2 hy2.1
  have c1 : 0 ≤ x * (y / 1048576) / d := Int.ediv_nonneg a1 (by omega)
  have c2 : 0 ≤ x * (y / 1048576) % d := Int.emod_nonneg _ (by omega)
  have c3 : x * (y / 1048576) % d < d := Int.emod_lt_of_pos _ (by omega)
  have hdm := Int.mul_ediv_add_emod (x * (y / 1048576)) d
  have hxy : x * y = x * (y / 1048576) * 1048576 + x * (y % 1048576) := by
    have : y = y / 1048576 * 1048576 + y % 1048576 := by omega
    conv => lhs; rw [this]
    rw [Int.mul_add, Int.mul_assoc]
  have e : x * y = (x * (y / 1048576) % d * 1048576 + x * (y % 1048576)) + d * (x * (y / 1048576) / d * 1048576) := by
    rw [hxy, ← Int.mul_assoc]
    generalize hA : x * (y / 1048576) = A at *
    generalize x * (y % 1048576) = B at *
    generalize hP : d * (A / d) = P at *
    generalize A % d = R at *
    omega
  have f0 : 0 ≤ x * (y / 1048576) % d * 1048576 + x * (y % 1048576) := by omega
  have f1 : x * (y / 1048576) % d * 1048576 + x * (y % 1048576) ≤ 2097152000000000000 := by omega
  refine ⟨⟨a1, by omega⟩, ⟨b1, by omega⟩, c1, ⟨c2, c3⟩, ?_, Int.ediv_nonneg f0 (by omega), Int.le_trans (Int.ediv_le_self _ f0) f1⟩
  rw [e, Int.add_mul_ediv_left _ _ (by omega)]
  omega
theorem r24_Pairs_spec (x y : Int) (a b : ColStat) (_h1 : WI x) (_h2 : WI y) (_h3 : WS .colStat a) (_h4 : WS .colStat b) : r24_Pairs_fn x y a b = some (r24_Pairs x y a b) := by
  have hx := szI_range x; have hy := szI_range y
  have ha := szI_range a.distinct; have hb := szI_range b.distinct
  have hm : max 1 (max (szI a.distinct) (szI b.distinct)) = max (max (szI a.distinct) (szI b.distinct)) 1 := by omega
  have hd : 1 ≤ max (max (szI a.distinct) (szI b.distinct)) 1 ∧ max (max (szI a.distinct) (szI b.distinct)) 1 ≤ 1000000000000 := by omega
  unfold r24_Pairs_fn r24_Pairs pairsG by4
  simp only [decide_eq_true_eq]
  simp only [foldMax, r24_size_eq, hm]
  generalize max (max (szI a.distinct) (szI b.distinct)) 1 = d at *
  have hl := pairs_law hx hy hd
  have t1 : (szI y).tdiv 1048576 = szI y / 1048576 := Int.tdiv_eq_ediv_of_nonneg hy.1
  have t2 : (szI y).tmod 1048576 = szI y % 1048576 := Int.tmod_eq_emod_of_nonneg hy.1
  have w1 : IntKind.i64.wrap (szI y / 1048576) = szI y / 1048576 := wrap_id (by omega)
  have w2 : IntKind.i64.wrap (szI x * (szI y / 1048576)) = szI x * (szI y / 1048576) := wrap_id (by omega)
  have w3 : IntKind.i64.wrap (szI x * (szI y % 1048576)) = szI x * (szI y % 1048576) := wrap_id (by omega)
  have t3 : (szI x * (szI y / 1048576)).tdiv d = szI x * (szI y / 1048576) / d := Int.tdiv_eq_ediv_of_nonneg hl.1.1
  have t4 : (szI x * (szI y / 1048576)).tmod d = szI x * (szI y / 1048576) % d := Int.tmod_eq_emod_of_nonneg hl.1.1
  have hq : szI x * (szI y / 1048576) / d ≤ szI x * (szI y / 1048576) := Int.ediv_le_self _ hl.1.1
  have w4 : IntKind.i64.wrap (szI x * (szI y / 1048576) / d) = szI x * (szI y / 1048576) / d := wrap_id (by omega)
  have w5 : IntKind.i64.wrap (szI x * (szI y / 1048576) % d * 1048576) = szI x * (szI y / 1048576) % d * 1048576 := wrap_id (by omega)
  have w6 : IntKind.i64.wrap (szI x * (szI y / 1048576) % d * 1048576 + szI x * (szI y % 1048576)) = szI x * (szI y / 1048576) % d * 1048576 + szI x * (szI y % 1048576) := wrap_id (by omega)
  have t5 : (szI x * (szI y / 1048576) % d * 1048576 + szI x * (szI y % 1048576)).tdiv d = (szI x * (szI y / 1048576) % d * 1048576 + szI x * (szI y % 1048576)) / d := Int.tdiv_eq_ediv_of_nonneg (by omega)
  have w7 : IntKind.i64.wrap ((szI x * (szI y / 1048576) % d * 1048576 + szI x * (szI y % 1048576)) / d) = (szI x * (szI y / 1048576) % d * 1048576 + szI x * (szI y % 1048576)) / d := wrap_id (by omega)
  have n0 : ¬ ((1048576 : Int) = 0) := by decide
  have nd : ¬ (d = 0) := by omega
  simp only [t1, t2, w1, w2, w3, t3, t4, w4, w5, w6, t5, w7, n0, nd, not_false_eq_true, if_true, if_false]
  rw [hl.2.2.2.2.1]
  obtain ⟨q, hqe⟩ : ∃ q, szI x * (szI y / 1048576) / d = q := ⟨_, rfl⟩
  obtain ⟨z, hze⟩ : ∃ z, (szI x * (szI y / 1048576) % d * 1048576 + szI x * (szI y % 1048576)) / d = z := ⟨_, rfl⟩
  have g1 := hl.2.2.1
  have g2 := hl.2.2.2.2.2
  simp only [hqe, hze] at g1 g2 ⊢
  by_cases h : q > 953674
  · rw [if_pos h]; congr 1; omega
  · rw [if_neg h, wrap_id (n := q * 1048576) (by omega), wrap_id (by omega)]
    congr 1; unfold szI; omega

def F_r24_Pairs : FnC Un := fun args => match args with
  | [x0, x1, x2, x3] => (dI .i64 x0).bind fun x => (dI .i64 x1).bind fun y => (dS .colStat x2).bind fun a => (dS .colStat x3).bind fun b => some ([], A_r24_Pairs (r24_Pairs x y a b), O_r24_Pairs (r24_Pairs x y a b))
  | _ => none

theorem ok_r24_Pairs : FnOK 15 F_r24_Pairs := by
  intro args ob rs os h hob
  unfold F_r24_Pairs at h
  split at h
  · simp only [Option.bind_eq_some_iff, Option.some.injEq, Prod.mk.injEq] at h
    obtain ⟨x, e0, y, e1, a, e2, b, e3, rfl, rfl, rfl⟩ := h
    obtain rfl := dI_eq e0
    obtain rfl := dI_eq e1
    obtain rfl := dS_eq e2
    obtain rfl := dS_eq e3
    exact ⟨fn_contract (M := M_r24_Pairs) rfl (tbl_ok (l1 := [(31, F_r24_size)]) (l2 := []) (l3 := []) (l4 := []) ⟨ok_r24_size, trivial⟩ trivial trivial trivial) Try.func15 (by kernel_rfl) N_r24_Pairs 0 [.d] (fun hwf => r24_Pairs_run (r24_Pairs_spec x y a b (wfArg hwf (a := .d (.v (.s (.int .i64 x)))) (List.mem_of_getElem? (i := 0) rfl)) (wfArg hwf (a := .d (.v (.s (.int .i64 y)))) (List.mem_of_getElem? (i := 1) rfl)) (wfArg hwf (a := .d (.agg (enc Ty.colStat a))) (List.mem_of_getElem? (i := 2) rfl)) (wfArg hwf (a := .d (.agg (enc Ty.colStat b))) (List.mem_of_getElem? (i := 3) rfl)))), hasBody_of Try.func15 (by kernel_rfl) (by kernel_rfl)⟩
  · simp at h


end
end Go.Proofs.Ytjndihloefdplaa.B
