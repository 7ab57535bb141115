/- Functions: guess3. (Printed by wip/tools/mkfn.py out of wip/src/guess3.src.) -/
import Derived.Test.YtjndihloefdplaaBLib
import Derived.Test.YtjndihloefdplaaSspec
import Derived.Test.YtjndihloefdplaaSspec26
import Derived.Test.YtjndihloefdplaaSlcmp
import Derived.Test.YtjndihloefdplaaSvcmp
import Derived.Test.YtjndihloefdplaaSbits
import Derived.Test.YtjndihloefdplaaSguess1
import Derived.Test.YtjndihloefdplaaSguess2
namespace Go.Proofs.Ytjndihloefdplaa.B
open Go Go.RowKit
set_option maxRecDepth 100000
noncomputable section
attribute [local irreducible] awp ctxK itersK iterK retQ retGQ

/-! ### guess.against$1 -/
def M_against_lt : Mc Un := mach (tbl []) (tbl []) (tbl []) (tbl [])
def N_against_lt : Nat → NS := fun l => (look l []).getD ⟨[], [], [], [], []⟩
def A_against_lt (r : Bool) : List (A Un) := [.c (.s (.bool r))]
def O_against_lt (_r : Bool) : List (Ob Un) := []
theorem against_lt_in (k : Int) (K : List (A Un) → List (Ob Un) → Prop) :
    awp M_against_lt N_against_lt (bodyOf Try.f36) (entry Try.f36.ntmps 0 [.d (.v (.s (.int .i64 k)))]) (retQ M_against_lt Try.f36.results.toList [.d] K) =
(K (A_against_lt (decide (k < (0 : Int)))) (O_against_lt (decide (k < (0 : Int))))) := by kernel_rfl
def against_lt_fn (k : Int) : Option (Bool) :=
  some (decide (k < (0 : Int)))
theorem against_lt_run {k : Int} {r : Bool} (h : against_lt_fn k = some r) : Runs (awp M_against_lt N_against_lt (bodyOf Try.f36) (entry Try.f36.ntmps 0 [.d (.v (.s (.int .i64 k)))]) (retQ M_against_lt Try.f36.results.toList [.d] fun rs os => rs = A_against_lt r ∧ os = O_against_lt r)) := by
  constructor
  rw [against_lt_in k (fun rs os => rs = A_against_lt r ∧ os = O_against_lt r)]
  unfold against_lt_fn at h
  cases h
  exact ⟨rfl, rfl⟩
def against_lt (k : Int) : Bool :=
  (decide (k < (0 : Int)))
theorem against_lt_eq (k : Int) : against_lt_fn k = some (against_lt k) := by unfold against_lt_fn against_lt; repeat (first | rfl | split)

def F_against_lt : FnC Un := fun args => match args with
  | [x0] => (dI .i64 x0).bind fun k => some ([], A_against_lt (against_lt k), O_against_lt (against_lt k))
  | _ => none

theorem ok_against_lt : FnOK 36 F_against_lt := by
  intro args ob rs os h hob
  unfold F_against_lt at h
  split at h
  · simp only [Option.bind_eq_some_iff, Option.some.injEq, Prod.mk.injEq] at h
    obtain ⟨k, e0, rfl, rfl, rfl⟩ := h
    obtain rfl := dI_eq e0
    exact ⟨fn_contract (M := M_against_lt) rfl (tbl_ok (l1 := []) (l2 := []) (l3 := []) (l4 := []) trivial trivial trivial trivial) Try.func36 (by kernel_rfl) N_against_lt 0 [.d] (fun hwf => against_lt_run (against_lt_eq k)), hasBody_of Try.func36 (by kernel_rfl) (by kernel_rfl)⟩
  · simp at h

def V_against_lt : FV Un := fun args => match args with
  | [x0] => (dI .i64 (.d x0)).bind fun k => some ([], [.v (cb (against_lt k))])
  | _ => none

theorem okV_against_lt : FvOK 36 V_against_lt := by
  refine ⟨hasBody_of Try.func36 (by kernel_rfl) (by kernel_rfl), fun args ob rs h hob => ?_⟩
  unfold V_against_lt at h
  split at h
  · simp only [Option.bind_eq_some_iff, Option.some.injEq, Prod.mk.injEq] at h
    obtain ⟨k, e0, rfl, rfl⟩ := h
    simp only [List.map_cons, List.map_nil]
    rw [dI_eq e0]
    refine Contract.data (ok_against_lt _ ([]) _ _ (?_ : F_against_lt _ = some _) (by simp)).1
    unfold F_against_lt
    simp only [dI_mk]
    rfl
  · simp at h


/-! ### guess.against$2 -/
def M_against_le : Mc Un := mach (tbl []) (tbl []) (tbl []) (tbl [])
def N_against_le : Nat → NS := fun l => (look l []).getD ⟨[], [], [], [], []⟩
def A_against_le (r : Bool) : List (A Un) := [.c (.s (.bool r))]
def O_against_le (_r : Bool) : List (Ob Un) := []
theorem against_le_in (k : Int) (K : List (A Un) → List (Ob Un) → Prop) :
    awp M_against_le N_against_le (bodyOf Try.f37) (entry Try.f37.ntmps 0 [.d (.v (.s (.int .i64 k)))]) (retQ M_against_le Try.f37.results.toList [.d] K) =
(K (A_against_le (decide (k ≤ (0 : Int)))) (O_against_le (decide (k ≤ (0 : Int))))) := by kernel_rfl
def against_le_fn (k : Int) : Option (Bool) :=
  some (decide (k ≤ (0 : Int)))
theorem against_le_run {k : Int} {r : Bool} (h : against_le_fn k = some r) : Runs (awp M_against_le N_against_le (bodyOf Try.f37) (entry Try.f37.ntmps 0 [.d (.v (.s (.int .i64 k)))]) (retQ M_against_le Try.f37.results.toList [.d] fun rs os => rs = A_against_le r ∧ os = O_against_le r)) := by
  constructor
  rw [against_le_in k (fun rs os => rs = A_against_le r ∧ os = O_against_le r)]
  unfold against_le_fn at h
  cases h
  exact ⟨rfl, rfl⟩
def against_le (k : Int) : Bool :=
  (decide (k ≤ (0 : Int)))
theorem against_le_eq (k : Int) : against_le_fn k = some (against_le k) := by unfold against_le_fn against_le; repeat (first | rfl | split)

def F_against_le : FnC Un := fun args => match args with
  | [x0] => (dI .i64 x0).bind fun k => some ([], A_against_le (against_le k), O_against_le (against_le k))
  | _ => none

theorem ok_against_le : FnOK 37 F_against_le := by
  intro args ob rs os h hob
  unfold F_against_le at h
  split at h
  · simp only [Option.bind_eq_some_iff, Option.some.injEq, Prod.mk.injEq] at h
    obtain ⟨k, e0, rfl, rfl, rfl⟩ := h
    obtain rfl := dI_eq e0
    exact ⟨fn_contract (M := M_against_le) rfl (tbl_ok (l1 := []) (l2 := []) (l3 := []) (l4 := []) trivial trivial trivial trivial) Try.func37 (by kernel_rfl) N_against_le 0 [.d] (fun hwf => against_le_run (against_le_eq k)), hasBody_of Try.func37 (by kernel_rfl) (by kernel_rfl)⟩
  · simp at h

def V_against_le : FV Un := fun args => match args with
  | [x0] => (dI .i64 (.d x0)).bind fun k => some ([], [.v (cb (against_le k))])
  | _ => none

theorem okV_against_le : FvOK 37 V_against_le := by
  refine ⟨hasBody_of Try.func37 (by kernel_rfl) (by kernel_rfl), fun args ob rs h hob => ?_⟩
  unfold V_against_le at h
  split at h
  · simp only [Option.bind_eq_some_iff, Option.some.injEq, Prod.mk.injEq] at h
    obtain ⟨k, e0, rfl, rfl⟩ := h
    simp only [List.map_cons, List.map_nil]
    rw [dI_eq e0]
    refine Contract.data (ok_against_le _ ([]) _ _ (?_ : F_against_le _ = some _) (by simp)).1
    unfold F_against_le
    simp only [dI_mk]
    rfl
  · simp at h


/-! ### guess.against$3 -/
def M_against_gt : Mc Un := mach (tbl []) (tbl []) (tbl []) (tbl [])
def N_against_gt : Nat → NS := fun l => (look l []).getD ⟨[], [], [], [], []⟩
def A_against_gt (r : Bool) : List (A Un) := [.c (.s (.bool r))]
def O_against_gt (_r : Bool) : List (Ob Un) := []
theorem against_gt_in (k : Int) (K : List (A Un) → List (Ob Un) → Prop) :
    awp M_against_gt N_against_gt (bodyOf Try.f38) (entry Try.f38.ntmps 0 [.d (.v (.s (.int .i64 k)))]) (retQ M_against_gt Try.f38.results.toList [.d] K) =
(K (A_against_gt (decide (k > (0 : Int)))) (O_against_gt (decide (k > (0 : Int))))) := by kernel_rfl
def against_gt_fn (k : Int) : Option (Bool) :=
  some (decide (k > (0 : Int)))
theorem against_gt_run {k : Int} {r : Bool} (h : against_gt_fn k = some r) : Runs (awp M_against_gt N_against_gt (bodyOf Try.f38) (entry Try.f38.ntmps 0 [.d (.v (.s (.int .i64 k)))]) (retQ M_against_gt Try.f38.results.toList [.d] fun rs os => rs = A_against_gt r ∧ os = O_against_gt r)) := by
  constructor
  rw [against_gt_in k (fun rs os => rs = A_against_gt r ∧ os = O_against_gt r)]
  unfold against_gt_fn at h
  cases h
  exact ⟨rfl, rfl⟩
def against_gt (k : Int) : Bool :=
  (decide (k > (0 : Int)))
theorem against_gt_eq (k : Int) : against_gt_fn k = some (against_gt k) := by unfold against_gt_fn against_gt; repeat (first | rfl | split)

def F_against_gt : FnC Un := fun args => match args with
  | [x0] => (dI .i64 x0).bind fun k => some ([], A_against_gt (against_gt k), O_against_gt (against_gt k))
  | _ => none

theorem ok_against_gt : FnOK 38 F_against_gt := by
  intro args ob rs os h hob
  unfold F_against_gt at h
  split at h
  · simp only [Option.bind_eq_some_iff, Option.some.injEq, Prod.mk.injEq] at h
    obtain ⟨k, e0, rfl, rfl, rfl⟩ := h
    obtain rfl := dI_eq e0
    exact ⟨fn_contract (M := M_against_gt) rfl (tbl_ok (l1 := []) (l2 := []) (l3 := []) (l4 := []) trivial trivial trivial trivial) Try.func38 (by kernel_rfl) N_against_gt 0 [.d] (fun hwf => against_gt_run (against_gt_eq k)), hasBody_of Try.func38 (by kernel_rfl) (by kernel_rfl)⟩
  · simp at h

def V_against_gt : FV Un := fun args => match args with
  | [x0] => (dI .i64 (.d x0)).bind fun k => some ([], [.v (cb (against_gt k))])
  | _ => none

theorem okV_against_gt : FvOK 38 V_against_gt := by
  refine ⟨hasBody_of Try.func38 (by kernel_rfl) (by kernel_rfl), fun args ob rs h hob => ?_⟩
  unfold V_against_gt at h
  split at h
  · simp only [Option.bind_eq_some_iff, Option.some.injEq, Prod.mk.injEq] at h
    obtain ⟨k, e0, rfl, rfl⟩ := h
    simp only [List.map_cons, List.map_nil]
    rw [dI_eq e0]
    refine Contract.data (ok_against_gt _ ([]) _ _ (?_ : F_against_gt _ = some _) (by simp)).1
    unfold F_against_gt
    simp only [dI_mk]
    rfl
  · simp at h


/-! ### guess.against$4 -/
def M_against_ge : Mc Un := mach (tbl []) (tbl []) (tbl []) (tbl [])
def N_against_ge : Nat → NS := fun l => (look l []).getD ⟨[], [], [], [], []⟩
def A_against_ge (r : Bool) : List (A Un) := [.c (.s (.bool r))]
def O_against_ge (_r : Bool) : List (Ob Un) := []
theorem against_ge_in (k : Int) (K : List (A Un) → List (Ob Un) → Prop) :
    awp M_against_ge N_against_ge (bodyOf Try.f39) (entry Try.f39.ntmps 0 [.d (.v (.s (.int .i64 k)))]) (retQ M_against_ge Try.f39.results.toList [.d] K) =
(K (A_against_ge (decide (k ≥ (0 : Int)))) (O_against_ge (decide (k ≥ (0 : Int))))) := by kernel_rfl
def against_ge_fn (k : Int) : Option (Bool) :=
  some (decide (k ≥ (0 : Int)))
theorem against_ge_run {k : Int} {r : Bool} (h : against_ge_fn k = some r) : Runs (awp M_against_ge N_against_ge (bodyOf Try.f39) (entry Try.f39.ntmps 0 [.d (.v (.s (.int .i64 k)))]) (retQ M_against_ge Try.f39.results.toList [.d] fun rs os => rs = A_against_ge r ∧ os = O_against_ge r)) := by
  constructor
  rw [against_ge_in k (fun rs os => rs = A_against_ge r ∧ os = O_against_ge r)]
  unfold against_ge_fn at h
  cases h
  exact ⟨rfl, rfl⟩
def against_ge (k : Int) : Bool :=
  (decide (k ≥ (0 : Int)))
theorem against_ge_eq (k : Int) : against_ge_fn k = some (against_ge k) := by unfold against_ge_fn against_ge; repeat (first | rfl | split)

def F_against_ge : FnC Un := fun args => match args with
  | [x0] => (dI .i64 x0).bind fun k => some ([], A_against_ge (against_ge k), O_against_ge (against_ge k))
  | _ => none

theorem ok_against_ge : FnOK 39 F_against_ge := by
  intro args ob rs os h hob
  unfold F_against_ge at h
  split at h
  · simp only [Option.bind_eq_some_iff, Option.some.injEq, Prod.mk.injEq] at h
    obtain ⟨k, e0, rfl, rfl, rfl⟩ := h
    obtain rfl := dI_eq e0
    exact ⟨fn_contract (M := M_against_ge) rfl (tbl_ok (l1 := []) (l2 := []) (l3 := []) (l4 := []) trivial trivial trivial trivial) Try.func39 (by kernel_rfl) N_against_ge 0 [.d] (fun hwf => against_ge_run (against_ge_eq k)), hasBody_of Try.func39 (by kernel_rfl) (by kernel_rfl)⟩
  · simp at h

def V_against_ge : FV Un := fun args => match args with
  | [x0] => (dI .i64 (.d x0)).bind fun k => some ([], [.v (cb (against_ge k))])
  | _ => none

theorem okV_against_ge : FvOK 39 V_against_ge := by
  refine ⟨hasBody_of Try.func39 (by kernel_rfl) (by kernel_rfl), fun args ob rs h hob => ?_⟩
  unfold V_against_ge at h
  split at h
  · simp only [Option.bind_eq_some_iff, Option.some.injEq, Prod.mk.injEq] at h
    obtain ⟨k, e0, rfl, rfl⟩ := h
    simp only [List.map_cons, List.map_nil]
    rw [dI_eq e0]
    refine Contract.data (ok_against_ge _ ([]) _ _ (?_ : F_against_ge _ = some _) (by simp)).1
    unfold F_against_ge
    simp only [dI_mk]
    rfl
  · simp at h


/-! ### guess.against -/
def M_guess_against : Mc Un := mach (tbl [(34, F_column_equal), (23, F_column_share), (35, F_column_beside)]) (tbl [(36, V_against_lt), (37, V_against_le), (38, V_against_gt), (39, V_against_ge)]) (tbl []) (tbl [])
def N_guess_against : Nat → NS := fun l => (look l []).getD ⟨[], [], [], [], []⟩
def A_guess_against (r : Int) : List (A Un) := [.c (.s (.int .i64 r))]
def O_guess_against (_r : Int) : List (Ob Un) := []
theorem guess_against_in (op : Int) (c : Column) (w : Val) (K : List (A Un) → List (Ob Un) → Prop) :
    awp M_guess_against N_guess_against (bodyOf Try.f25) (entry Try.f25.ntmps 0 [.d (.v (.s (.int .i64 op))), .d (.agg (enc Ty.column c)), .d (.agg (enc Ty.val w))]) (retQ M_guess_against Try.f25.results.toList [.d] K) =
(cnd (w.kind == (0 : Int))
 (K (A_guess_against ((0 : Int))) (O_guess_against ((0 : Int))))
 (cnd (op == (11 : Int))
  (((0 : Int) ≤ c.others ∧ (0 : Int) ≤ c.all) ∧
  (K (A_guess_against (column_equal c w)) (O_guess_against (column_equal c w))))
  (cnd (op == (12 : Int))
   (((0 : Int) ≤ c.nulls ∧ (0 : Int) ≤ c.all) ∧
   (((0 : Int) ≤ c.others ∧ (0 : Int) ≤ c.all) ∧
   (K (A_guess_against (List.foldl (fun a b => if a < b then b else a) (IntKind.i64.wrap (IntKind.i64.wrap ((1000000 : Int) - column_share c c.nulls) - column_equal c w)) [(0 : Int)])) (O_guess_against (List.foldl (fun a b => if a < b then b else a) (IntKind.i64.wrap (IntKind.i64.wrap ((1000000 : Int) - column_share c c.nulls) - column_equal c w)) [(0 : Int)])))))
   (cnd (op == (13 : Int))
    ((V_against_lt = fv_i_i64_to_b (pf_i_i64_to_b V_against_lt)) ∧
    ((((0 : Int) ≤ c.all ∧ c.all ≤ (1000000000000 : Int)) ∧ (0 : Int) ≤ c.nulls ∧ c.nulls ≤ (1000000000000 : Int)) ∧
    (K (A_guess_against (column_beside c w (pf_i_i64_to_b V_against_lt))) (O_guess_against (column_beside c w (pf_i_i64_to_b V_against_lt))))))
    (cnd (op == (14 : Int))
     ((V_against_le = fv_i_i64_to_b (pf_i_i64_to_b V_against_le)) ∧
     ((((0 : Int) ≤ c.all ∧ c.all ≤ (1000000000000 : Int)) ∧ (0 : Int) ≤ c.nulls ∧ c.nulls ≤ (1000000000000 : Int)) ∧
     (K (A_guess_against (column_beside c w (pf_i_i64_to_b V_against_le))) (O_guess_against (column_beside c w (pf_i_i64_to_b V_against_le))))))
     (cnd (op == (15 : Int))
      ((V_against_gt = fv_i_i64_to_b (pf_i_i64_to_b V_against_gt)) ∧
      ((((0 : Int) ≤ c.all ∧ c.all ≤ (1000000000000 : Int)) ∧ (0 : Int) ≤ c.nulls ∧ c.nulls ≤ (1000000000000 : Int)) ∧
      (K (A_guess_against (column_beside c w (pf_i_i64_to_b V_against_gt))) (O_guess_against (column_beside c w (pf_i_i64_to_b V_against_gt))))))
      ((V_against_ge = fv_i_i64_to_b (pf_i_i64_to_b V_against_ge)) ∧
      ((((0 : Int) ≤ c.all ∧ c.all ≤ (1000000000000 : Int)) ∧ (0 : Int) ≤ c.nulls ∧ c.nulls ≤ (1000000000000 : Int)) ∧
      (K (A_guess_against (column_beside c w (pf_i_i64_to_b V_against_ge))) (O_guess_against (column_beside c w (pf_i_i64_to_b V_against_ge)))))))))))) := by kernel_rfl
def guess_against_fn (op : Int) (c : Column) (w : Val) : Option (Int) :=
  if (w.kind == (0 : Int)) = true then
   some ((0 : Int))
  else
   if (op == (11 : Int)) = true then
    if (0 : Int) ≤ c.others ∧ (0 : Int) ≤ c.all then
     some (column_equal c w)
    else none
   else
    if (op == (12 : Int)) = true then
     if (0 : Int) ≤ c.nulls ∧ (0 : Int) ≤ c.all then
      if (0 : Int) ≤ c.others ∧ (0 : Int) ≤ c.all then
       some (List.foldl (fun a b => if a < b then b else a) (IntKind.i64.wrap (IntKind.i64.wrap ((1000000 : Int) - column_share c c.nulls) - column_equal c w)) [(0 : Int)])
      else none
     else none
    else
     if (op == (13 : Int)) = true then
      if V_against_lt = fv_i_i64_to_b (pf_i_i64_to_b V_against_lt) then
       if ((0 : Int) ≤ c.all ∧ c.all ≤ (1000000000000 : Int)) ∧ (0 : Int) ≤ c.nulls ∧ c.nulls ≤ (1000000000000 : Int) then
        some (column_beside c w (pf_i_i64_to_b V_against_lt))
       else none
      else none
     else
      if (op == (14 : Int)) = true then
       if V_against_le = fv_i_i64_to_b (pf_i_i64_to_b V_against_le) then
        if ((0 : Int) ≤ c.all ∧ c.all ≤ (1000000000000 : Int)) ∧ (0 : Int) ≤ c.nulls ∧ c.nulls ≤ (1000000000000 : Int) then
         some (column_beside c w (pf_i_i64_to_b V_against_le))
        else none
       else none
      else
       if (op == (15 : Int)) = true then
        if V_against_gt = fv_i_i64_to_b (pf_i_i64_to_b V_against_gt) then
         if ((0 : Int) ≤ c.all ∧ c.all ≤ (1000000000000 : Int)) ∧ (0 : Int) ≤ c.nulls ∧ c.nulls ≤ (1000000000000 : Int) then
          some (column_beside c w (pf_i_i64_to_b V_against_gt))
         else none
        else none
       else
        if V_against_ge = fv_i_i64_to_b (pf_i_i64_to_b V_against_ge) then
         if ((0 : Int) ≤ c.all ∧ c.all ≤ (1000000000000 : Int)) ∧ (0 : Int) ≤ c.nulls ∧ c.nulls ≤ (1000000000000 : Int) then
          some (column_beside c w (pf_i_i64_to_b V_against_ge))
         else none
        else none
theorem guess_against_run {op : Int} {c : Column} {w : Val} {r : Int} (h : guess_against_fn op c w = some r) : Runs (awp M_guess_against N_guess_against (bodyOf Try.f25) (entry Try.f25.ntmps 0 [.d (.v (.s (.int .i64 op))), .d (.agg (enc Ty.column c)), .d (.agg (enc Ty.val w))]) (retQ M_guess_against Try.f25.results.toList [.d] fun rs os => rs = A_guess_against r ∧ os = O_guess_against r)) := by
  constructor
  rw [guess_against_in op c w (fun rs os => rs = A_guess_against r ∧ os = O_guess_against r)]
  unfold guess_against_fn at h
  rcases ite_some h with ⟨c1, h2⟩ | ⟨c1, h2⟩
  · cases h2
    exact (cnd_t c1 ⟨rfl, rfl⟩)
  · rcases ite_some h2 with ⟨c3, h4⟩ | ⟨c3, h4⟩
    · obtain ⟨c5, h6⟩ := ob_some h4
      cases h6
      exact (cnd_f (bfalse c1) (cnd_t c3 (And.intro c5 ⟨rfl, rfl⟩)))
    · rcases ite_some h4 with ⟨c7, h8⟩ | ⟨c7, h8⟩
      · obtain ⟨c9, h10⟩ := ob_some h8
        obtain ⟨c11, h12⟩ := ob_some h10
        cases h12
        exact (cnd_f (bfalse c1) (cnd_f (bfalse c3) (cnd_t c7 (And.intro c9 (And.intro c11 ⟨rfl, rfl⟩)))))
      · rcases ite_some h8 with ⟨c13, h14⟩ | ⟨c13, h14⟩
        · obtain ⟨c15, h16⟩ := ob_some h14
          obtain ⟨c17, h18⟩ := ob_some h16
          cases h18
          exact (cnd_f (bfalse c1) (cnd_f (bfalse c3) (cnd_f (bfalse c7) (cnd_t c13 (And.intro c15 (And.intro c17 ⟨rfl, rfl⟩))))))
        · rcases ite_some h14 with ⟨c19, h20⟩ | ⟨c19, h20⟩
          · obtain ⟨c21, h22⟩ := ob_some h20
            obtain ⟨c23, h24⟩ := ob_some h22
            cases h24
            exact (cnd_f (bfalse c1) (cnd_f (bfalse c3) (cnd_f (bfalse c7) (cnd_f (bfalse c13) (cnd_t c19 (And.intro c21 (And.intro c23 ⟨rfl, rfl⟩)))))))
          · rcases ite_some h20 with ⟨c25, h26⟩ | ⟨c25, h26⟩
            · obtain ⟨c27, h28⟩ := ob_some h26
              obtain ⟨c29, h30⟩ := ob_some h28
              cases h30
              exact (cnd_f (bfalse c1) (cnd_f (bfalse c3) (cnd_f (bfalse c7) (cnd_f (bfalse c13) (cnd_f (bfalse c19) (cnd_t c25 (And.intro c27 (And.intro c29 ⟨rfl, rfl⟩))))))))
            · obtain ⟨c31, h32⟩ := ob_some h26
              obtain ⟨c33, h34⟩ := ob_some h32
              cases h34
              exact (cnd_f (bfalse c1) (cnd_f (bfalse c3) (cnd_f (bfalse c7) (cnd_f (bfalse c13) (cnd_f (bfalse c19) (cnd_f (bfalse c25) (And.intro c31 (And.intro c33 ⟨rfl, rfl⟩))))))))

/-- How a number stands to 0, by an operator. -/
def stands (op k : Int) : Bool := if op = 13 then decide (k < 0) else if op = 14 then decide (k ≤ 0) else if op = 15 then decide (k > 0) else decide (k ≥ 0)
/-- A column and a constant. -/
def againstI (op : Int) (c : Column) (w : Val) : Int :=
  if w.kind = 0 then 0
  else if op = 11 then eqF c.all c.others w c.c.common
  else if op = 12 then max (1000000 - shareA c.all c.nulls - eqF c.all c.others w c.c.common) 0
  else besideA c.all c.nulls (stands op) w c.c.ends
def guess_against (op : Int) (c : Column) (w : Val) : Int := againstI op c w

@[simp] theorem guess_against_eq (op : Int) (c : Column) (w : Val) : guess_against op c w = againstI op c w := by unfold guess_against; rfl
theorem eqF_range {all others : Int} (w : Val) (ha : 0 ≤ all) (ho : 0 ≤ others) : ∀ l : List Often, 0 ≤ eqF all others w l ∧ eqF all others w l ≤ 1000000
  | [] => shareA_range (by omega) ha
  | x :: r => by
    simp only [eqF]; split
    · exact shareA_range (szI_range _).1 ha
    · exact eqF_range w ha ho r
theorem pf_i_i64_to_b_fv {p : Int → Bool} : pf_i_i64_to_b (fv_i_i64_to_b p) = p := by
  funext k
  simp only [pf_i_i64_to_b, fv_i_i64_to_b, dI_mk, Option.bind_some]
  rfl
theorem V_against_lt_fv : V_against_lt = fv_i_i64_to_b against_lt := rfl
theorem V_against_le_fv : V_against_le = fv_i_i64_to_b against_le := rfl
theorem V_against_gt_fv : V_against_gt = fv_i_i64_to_b against_gt := rfl
theorem V_against_ge_fv : V_against_ge = fv_i_i64_to_b against_ge := rfl
theorem guess_against_spec (op : Int) (c : Column) (w : Val) (_h1 : WI op) (_hc : WS .column c) (_hw : WS .val w) (h : (0 ≤ c.all ∧ c.all ≤ 1000000000000) ∧ (0 ≤ c.nulls ∧ c.nulls ≤ 1000000000000) ∧ 0 ≤ c.others) : guess_against_fn op c w = some (guess_against op c w) := by
  have e1 := shareA_range (all := c.all) (n := c.nulls) h.2.1.1 h.1.1
  have e2 := eqF_range (all := c.all) (others := c.others) w h.1.1 h.2.2 c.c.common
  have p1 : 0 ≤ c.others ∧ 0 ≤ c.all := ⟨h.2.2, h.1.1⟩
  have p2 : 0 ≤ c.nulls ∧ 0 ≤ c.all := ⟨h.2.1.1, h.1.1⟩
  have p3 : (0 ≤ c.all ∧ c.all ≤ 1000000000000) ∧ 0 ≤ c.nulls ∧ c.nulls ≤ 1000000000000 := ⟨h.1, h.2.1⟩
  unfold guess_against_fn guess_against againstI
  simp only [beq_iff_eq, V_against_lt_fv, V_against_le_fv, V_against_gt_fv, V_against_ge_fv, pf_i_i64_to_b_fv, if_true, p1, p2, p3, and_self, column_equal_eq, column_share_eq, column_beside_eq]
  rw [wrap_id (n := 1000000 - shareA c.all c.nulls) (by omega), wrap_id (by omega)]
  simp only [List.foldl]
  by_cases h0 : w.kind = 0
  · simp [h0]
  · by_cases h1 : op = 11
    · simp [h0, h1]
    · by_cases h2 : op = 12
      · simp only [h0, h1, h2, if_false, if_true, show ¬ ((12 : Int) = 11) from by decide]; congr 1; split <;> omega
      · have l : against_lt = stands 13 := rfl
        by_cases h3 : op = 13
        · simp only [h0, h1, h2, h3, if_false, if_true]; rfl
        · by_cases h4 : op = 14
          · simp only [h0, h1, h2, h3, h4, if_false, if_true]; rfl
          · by_cases h5 : op = 15
            · simp only [h0, h1, h2, h3, h4, h5, if_false, if_true]; rfl
            · have : stands op = against_ge := by funext k; simp [stands, against_ge, h3, h4, h5]
              simp only [h0, h1, h2, h3, h4, h5, if_false, this]

def F_guess_against : FnC Un := fun args => match args with
  | [x0, x1, x2] => (dI .i64 x0).bind fun op => (dS .column x1).bind fun c => (dS .val x2).bind fun w => some ([(0 ≤ c.all ∧ c.all ≤ 1000000000000) ∧ (0 ≤ c.nulls ∧ c.nulls ≤ 1000000000000) ∧ 0 ≤ c.others], A_guess_against (guess_against op c w), O_guess_against (guess_against op c w))
  | _ => none

theorem ok_guess_against : FnOK 25 F_guess_against := by
  intro args ob rs os h hob
  unfold F_guess_against at h
  split at h
  · simp only [Option.bind_eq_some_iff, Option.some.injEq, Prod.mk.injEq] at h
    obtain ⟨op, e0, c, e1, w, e2, rfl, rfl, rfl⟩ := h
    obtain rfl := dI_eq e0
    obtain rfl := dS_eq e1
    obtain rfl := dS_eq e2
    exact ⟨fn_contract (M := M_guess_against) rfl (tbl_ok (l1 := [(34, F_column_equal), (23, F_column_share), (35, F_column_beside)]) (l2 := [(36, V_against_lt), (37, V_against_le), (38, V_against_gt), (39, V_against_ge)]) (l3 := []) (l4 := []) ⟨ok_column_equal, ok_column_share, ok_column_beside, trivial⟩ ⟨okV_against_lt, okV_against_le, okV_against_gt, okV_against_ge, trivial⟩ trivial trivial) Try.func25 (by kernel_rfl) N_guess_against 0 [.d] (fun hwf => guess_against_run (guess_against_spec op c w (wfArg hwf (a := .d (.v (.s (.int .i64 op)))) (List.mem_of_getElem? (i := 0) rfl)) (wfArg hwf (a := .d (.agg (enc Ty.column c))) (List.mem_of_getElem? (i := 1) rfl)) (wfArg hwf (a := .d (.agg (enc Ty.val w))) (List.mem_of_getElem? (i := 2) rfl)) (hob _ (List.mem_of_getElem? (i := 0) rfl)))), hasBody_of Try.func25 (by kernel_rfl) (by kernel_rfl)⟩
  · simp at h


end
end Go.Proofs.Ytjndihloefdplaa.B
