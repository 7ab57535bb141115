/- Functions: law26. (Printed by wip/tools/mkfn.py out of wip/src/law26.src.) -/
import Derived.Test.YtohpgnpjijpedaaBLib
import Derived.Test.YtohpgnpjijpedaaSspec
import Derived.Test.YtohpgnpjijpedaaSvalue
import Derived.Test.YtohpgnpjijpedaaSref03
import Derived.Test.YtohpgnpjijpedaaSspec26
import Derived.Test.YtohpgnpjijpedaaSaccess1
import Derived.Test.YtohpgnpjijpedaaSaccess2
import Derived.Test.YtohpgnpjijpedaaSaccess3
import Derived.Test.YtohpgnpjijpedaaSref26
import Derived.Test.YtohpgnpjijpedaaSref26b
namespace Go.Proofs.Ytohpgnpjijpedaa.B
open Go Go.RowKit
set_option maxRecDepth 100000
noncomputable section
attribute [local irreducible] awp ctxK itersK iterK retQ retGQ

/-! ### value.Num -/
def M_value_Num : Mc Un := mach (tbl []) (tbl []) (tbl []) (tbl [])
def N_value_Num : Nat → NS := fun l => (look l []).getD ⟨[], [], [], [], []⟩
def A_value_Num (r : Val) : List (A Un) := [.agg (encC Ty.val r)]
def O_value_Num (_r : Val) : List (Ob Un) := []
theorem value_Num_in (n : Int) (K : List (A Un) → List (Ob Un) → Prop) :
    awp M_value_Num N_value_Num (bodyOf Try.f13) (entry Try.f13.ntmps 0 [.d (.v (.s (.int .i64 n)))]) (retQ M_value_Num Try.f13.results.toList [.d] K) =
(K (A_value_Num ({ kind := (2 : Int), n := n, s := (ByteArray.mk #[]) })) (O_value_Num ({ kind := (2 : Int), n := n, s := (ByteArray.mk #[]) }))) := by kernel_rfl
def value_Num_fn (n : Int) : Option (Val) :=
  some ({ kind := (2 : Int), n := n, s := (ByteArray.mk #[]) })
theorem value_Num_run {n : Int} {r : Val} (h : value_Num_fn n = some r) : Runs (awp M_value_Num N_value_Num (bodyOf Try.f13) (entry Try.f13.ntmps 0 [.d (.v (.s (.int .i64 n)))]) (retQ M_value_Num Try.f13.results.toList [.d] fun rs os => rs = A_value_Num r ∧ os = O_value_Num r)) := by
  constructor
  rw [value_Num_in n (fun rs os => rs = A_value_Num r ∧ os = O_value_Num r)]
  unfold value_Num_fn at h
  cases h
  exact ⟨rfl, rfl⟩
def value_Num (n : Int) : Val :=
  ({ kind := (2 : Int), n := n, s := (ByteArray.mk #[]) })
theorem value_Num_eq (n : Int) : value_Num_fn n = some (value_Num n) := by unfold value_Num_fn value_Num; repeat (first | rfl | split)

def F_value_Num : FnC Un := fun args => match args with
  | [x0] => (dI .i64 x0).bind fun n => some ([], A_value_Num (value_Num n), O_value_Num (value_Num n))
  | _ => none

theorem ok_value_Num : FnOK 13 F_value_Num := by
  intro args ob rs os h hob
  unfold F_value_Num at h
  split at h
  · simp only [Option.bind_eq_some_iff, Option.some.injEq, Prod.mk.injEq] at h
    obtain ⟨n, e0, rfl, rfl, rfl⟩ := h
    obtain rfl := dI_eq e0
    exact ⟨fn_contract (M := M_value_Num) rfl (tbl_ok (l1 := []) (l2 := []) (l3 := []) (l4 := []) trivial trivial trivial trivial) Try.func13 (by kernel_rfl) N_value_Num 0 [.d] (fun hwf => value_Num_run (value_Num_eq n)), hasBody_of Try.func13 (by kernel_rfl) (by kernel_rfl)⟩
  · simp at h


/-! ### tabellionlaw26.col -/
def M_l26_col : Mc Un := mach (tbl []) (tbl []) (tbl []) (tbl [])
def N_l26_col : Nat → NS := fun l => (look l []).getD ⟨[], [], [], [], []⟩
def A_l26_col (r : Term) : List (A Un) := [.agg (encC Ty.term r)]
def O_l26_col (_r : Term) : List (Ob Un) := []
theorem l26_col_in (at_ : Int) (K : List (A Un) → List (Ob Un) → Prop) :
    awp M_l26_col N_l26_col (bodyOf Try.f11) (entry Try.f11.ntmps 0 [.d (.v (.s (.int .i64 at_)))]) (retQ M_l26_col Try.f11.results.toList [.d] K) =
(K (A_l26_col (Term.mk (2 : Int) zeroVal (0 : Int) at_ (ByteArray.mk #[]) [] [] (2 : Int))) (O_l26_col (Term.mk (2 : Int) zeroVal (0 : Int) at_ (ByteArray.mk #[]) [] [] (2 : Int)))) := by kernel_rfl
def l26_col_fn (at_ : Int) : Option (Term) :=
  some (Term.mk (2 : Int) zeroVal (0 : Int) at_ (ByteArray.mk #[]) [] [] (2 : Int))
theorem l26_col_run {at_ : Int} {r : Term} (h : l26_col_fn at_ = some r) : Runs (awp M_l26_col N_l26_col (bodyOf Try.f11) (entry Try.f11.ntmps 0 [.d (.v (.s (.int .i64 at_)))]) (retQ M_l26_col Try.f11.results.toList [.d] fun rs os => rs = A_l26_col r ∧ os = O_l26_col r)) := by
  constructor
  rw [l26_col_in at_ (fun rs os => rs = A_l26_col r ∧ os = O_l26_col r)]
  unfold l26_col_fn at h
  cases h
  exact ⟨rfl, rfl⟩
def l26_col (at_ : Int) : Term :=
  (Term.mk (2 : Int) zeroVal (0 : Int) at_ (ByteArray.mk #[]) [] [] (2 : Int))
theorem l26_col_eq (at_ : Int) : l26_col_fn at_ = some (l26_col at_) := by unfold l26_col_fn l26_col; repeat (first | rfl | split)

def F_l26_col : FnC Un := fun args => match args with
  | [x0] => (dI .i64 x0).bind fun at_ => some ([], A_l26_col (l26_col at_), O_l26_col (l26_col at_))
  | _ => none

theorem ok_l26_col : FnOK 11 F_l26_col := by
  intro args ob rs os h hob
  unfold F_l26_col at h
  split at h
  · simp only [Option.bind_eq_some_iff, Option.some.injEq, Prod.mk.injEq] at h
    obtain ⟨at_, e0, rfl, rfl, rfl⟩ := h
    obtain rfl := dI_eq e0
    exact ⟨fn_contract (M := M_l26_col) rfl (tbl_ok (l1 := []) (l2 := []) (l3 := []) (l4 := []) trivial trivial trivial trivial) Try.func11 (by kernel_rfl) N_l26_col 0 [.d] (fun hwf => l26_col_run (l26_col_eq at_)), hasBody_of Try.func11 (by kernel_rfl) (by kernel_rfl)⟩
  · simp at h


/-! ### tabellionlaw26.num -/
def M_l26_num : Mc Un := mach (tbl [(13, F_value_Num)]) (tbl []) (tbl []) (tbl [])
def N_l26_num : Nat → NS := fun l => (look l []).getD ⟨[], [], [], [], []⟩
def A_l26_num (r : Term) : List (A Un) := [.agg (encC Ty.term r)]
def O_l26_num (_r : Term) : List (Ob Un) := []
theorem l26_num_in (n : Int) (K : List (A Un) → List (Ob Un) → Prop) :
    awp M_l26_num N_l26_num (bodyOf Try.f12) (entry Try.f12.ntmps 0 [.d (.v (.s (.int .i64 n)))]) (retQ M_l26_num Try.f12.results.toList [.d] K) =
(K (A_l26_num (Term.mk (1 : Int) (value_Num n) (0 : Int) (0 : Int) (ByteArray.mk #[]) [] [] (2 : Int))) (O_l26_num (Term.mk (1 : Int) (value_Num n) (0 : Int) (0 : Int) (ByteArray.mk #[]) [] [] (2 : Int)))) := by kernel_rfl
def l26_num_fn (n : Int) : Option (Term) :=
  some (Term.mk (1 : Int) (value_Num n) (0 : Int) (0 : Int) (ByteArray.mk #[]) [] [] (2 : Int))
theorem l26_num_run {n : Int} {r : Term} (h : l26_num_fn n = some r) : Runs (awp M_l26_num N_l26_num (bodyOf Try.f12) (entry Try.f12.ntmps 0 [.d (.v (.s (.int .i64 n)))]) (retQ M_l26_num Try.f12.results.toList [.d] fun rs os => rs = A_l26_num r ∧ os = O_l26_num r)) := by
  constructor
  rw [l26_num_in n (fun rs os => rs = A_l26_num r ∧ os = O_l26_num r)]
  unfold l26_num_fn at h
  cases h
  exact ⟨rfl, rfl⟩
def l26_num (n : Int) : Term :=
  (Term.mk (1 : Int) (value_Num n) (0 : Int) (0 : Int) (ByteArray.mk #[]) [] [] (2 : Int))
theorem l26_num_eq (n : Int) : l26_num_fn n = some (l26_num n) := by unfold l26_num_fn l26_num; repeat (first | rfl | split)

def F_l26_num : FnC Un := fun args => match args with
  | [x0] => (dI .i64 x0).bind fun n => some ([], A_l26_num (l26_num n), O_l26_num (l26_num n))
  | _ => none

theorem ok_l26_num : FnOK 12 F_l26_num := by
  intro args ob rs os h hob
  unfold F_l26_num at h
  split at h
  · simp only [Option.bind_eq_some_iff, Option.some.injEq, Prod.mk.injEq] at h
    obtain ⟨n, e0, rfl, rfl, rfl⟩ := h
    obtain rfl := dI_eq e0
    exact ⟨fn_contract (M := M_l26_num) rfl (tbl_ok (l1 := [(13, F_value_Num)]) (l2 := []) (l3 := []) (l4 := []) ⟨ok_value_Num, trivial⟩ trivial trivial trivial) Try.func12 (by kernel_rfl) N_l26_num 0 [.d] (fun hwf => l26_num_run (l26_num_eq n)), hasBody_of Try.func12 (by kernel_rfl) (by kernel_rfl)⟩
  · simp at h


/-! ### tabellionlaw26.op -/
def M_l26_op : Mc Un := mach (tbl []) (tbl []) (tbl []) (tbl [])
def N_l26_op : Nat → NS := fun l => (look l []).getD ⟨[], [], [], [], []⟩
def A_l26_op (r : Term) : List (A Un) := [.agg (encC Ty.term r)]
def O_l26_op (_r : Term) : List (Ob Un) := []
theorem l26_op_in_raw (k : Int) (a : Term) (b : Term) (K : List (A Un) → List (Ob Un) → Prop) :
    awp M_l26_op N_l26_op (bodyOf Try.f10) (entry Try.f10.ntmps 0 [.d (.v (.s (.int .i64 k))), .d (.agg (enc Ty.term a)), .d (.agg (enc Ty.term b))]) (retQ M_l26_op Try.f10.results.toList [.d] K) =
(K (A_l26_op (Term.mk k zeroVal (0 : Int) (0 : Int) (ByteArray.mk #[]) [Term.mk a.op a.v a.depth a.at_ a.name a.kids a.sub a.type, Term.mk b.op b.v b.depth b.at_ b.name b.kids b.sub b.type] [] (1 : Int))) (O_l26_op (Term.mk k zeroVal (0 : Int) (0 : Int) (ByteArray.mk #[]) [Term.mk a.op a.v a.depth a.at_ a.name a.kids a.sub a.type, Term.mk b.op b.v b.depth b.at_ b.name b.kids b.sub b.type] [] (1 : Int)))) := by kernel_rfl
theorem l26_op_in (k : Int) (a : Term) (b : Term) (K : List (A Un) → List (Ob Un) → Prop) :
    awp M_l26_op N_l26_op (bodyOf Try.f10) (entry Try.f10.ntmps 0 [.d (.v (.s (.int .i64 k))), .d (.agg (enc Ty.term a)), .d (.agg (enc Ty.term b))]) (retQ M_l26_op Try.f10.results.toList [.d] K) =
(K (A_l26_op (Term.mk k zeroVal (0 : Int) (0 : Int) (ByteArray.mk #[]) [a, b] [] (1 : Int))) (O_l26_op (Term.mk k zeroVal (0 : Int) (0 : Int) (ByteArray.mk #[]) [a, b] [] (1 : Int)))) :=
  (l26_op_in_raw k a b K).trans (by simp only [Term.eta])
def l26_op_fn (k : Int) (a : Term) (b : Term) : Option (Term) :=
  some (Term.mk k zeroVal (0 : Int) (0 : Int) (ByteArray.mk #[]) [a, b] [] (1 : Int))
theorem l26_op_run {k : Int} {a : Term} {b : Term} {r : Term} (h : l26_op_fn k a b = some r) : Runs (awp M_l26_op N_l26_op (bodyOf Try.f10) (entry Try.f10.ntmps 0 [.d (.v (.s (.int .i64 k))), .d (.agg (enc Ty.term a)), .d (.agg (enc Ty.term b))]) (retQ M_l26_op Try.f10.results.toList [.d] fun rs os => rs = A_l26_op r ∧ os = O_l26_op r)) := by
  constructor
  rw [l26_op_in k a b (fun rs os => rs = A_l26_op r ∧ os = O_l26_op r)]
  unfold l26_op_fn at h
  cases h
  exact ⟨rfl, rfl⟩
def l26_op (k : Int) (a : Term) (b : Term) : Term :=
  (Term.mk k zeroVal (0 : Int) (0 : Int) (ByteArray.mk #[]) [a, b] [] (1 : Int))
theorem l26_op_eq (k : Int) (a : Term) (b : Term) : l26_op_fn k a b = some (l26_op k a b) := by unfold l26_op_fn l26_op; repeat (first | rfl | split)

def F_l26_op : FnC Un := fun args => match args with
  | [x0, x1, x2] => (dI .i64 x0).bind fun k => (dS .term x1).bind fun a => (dS .term x2).bind fun b => some ([], A_l26_op (l26_op k a b), O_l26_op (l26_op k a b))
  | _ => none

theorem ok_l26_op : FnOK 10 F_l26_op := by
  intro args ob rs os h hob
  unfold F_l26_op at h
  split at h
  · simp only [Option.bind_eq_some_iff, Option.some.injEq, Prod.mk.injEq] at h
    obtain ⟨k, e0, a, e1, b, e2, rfl, rfl, rfl⟩ := h
    obtain rfl := dI_eq e0
    obtain rfl := dS_eq e1
    obtain rfl := dS_eq e2
    exact ⟨fn_contract (M := M_l26_op) rfl (tbl_ok (l1 := []) (l2 := []) (l3 := []) (l4 := []) trivial trivial trivial trivial) Try.func10 (by kernel_rfl) N_l26_op 0 [.d] (fun hwf => l26_op_run (l26_op_eq k a b)), hasBody_of Try.func10 (by kernel_rfl) (by kernel_rfl)⟩
  · simp at h


/-! ### tabellionlaw26.awake -/
def M_l26_awake : Mc Un := mach (tbl [(11, F_l26_col), (12, F_l26_num), (10, F_l26_op), (6, F_access_Range), (13, F_value_Num), (9, F_access_Best), (8, F_r26_SameBound)]) (tbl []) (tbl []) (tbl [])
def N_l26_awake : Nat → NS := fun l => (look l []).getD ⟨[], [], [], [], []⟩
def A_l26_awake (r : Bool) : List (A Un) := [.c (.s (.bool r))]
def O_l26_awake (_r : Bool) : List (Ob Un) := []
theorem l26_awake_in (K : List (A Un) → List (Ob Un) → Prop) :
    awp M_l26_awake N_l26_awake (bodyOf Try.f5) (entry Try.f5.ntmps 0 []) (retQ M_l26_awake Try.f5.results.toList [.d] K) =
(([(0 : Int), (1 : Int)].length ≤ (100000 : Nat)) ∧
(([(1 : Int), (0 : Int)].length ≤ (100000 : Nat)) ∧
(([(2 : Int)].length ≤ (100000 : Nat)) ∧
(((0 : Int) ≤ (1 : Int) ∧ (1 : Int) ≤ (↑[(value_Num (1 : Int)), (value_Num (2 : Int))].length : Int)) ∧
(((0 : Int) ≤ (1 : Int) ∧ (1 : Int) ≤ (↑[(value_Num (1 : Int)), (value_Num (5 : Int))].length : Int)) ∧
(K (A_l26_awake (true)) (O_l26_awake (true)))))))) := by kernel_rfl
def l26_awake_fn : Option (Bool) :=
  if [(0 : Int), (1 : Int)].length ≤ (100000 : Nat) then
   if [(1 : Int), (0 : Int)].length ≤ (100000 : Nat) then
    if [(2 : Int)].length ≤ (100000 : Nat) then
     if (0 : Int) ≤ (1 : Int) ∧ (1 : Int) ≤ (↑[(value_Num (1 : Int)), (value_Num (2 : Int))].length : Int) then
      if (0 : Int) ≤ (1 : Int) ∧ (1 : Int) ≤ (↑[(value_Num (1 : Int)), (value_Num (5 : Int))].length : Int) then
       some (true)
      else none
     else none
    else none
   else none
  else none
theorem l26_awake_run {r : Bool} (h : l26_awake_fn = some r) : Runs (awp M_l26_awake N_l26_awake (bodyOf Try.f5) (entry Try.f5.ntmps 0 []) (retQ M_l26_awake Try.f5.results.toList [.d] fun rs os => rs = A_l26_awake r ∧ os = O_l26_awake r)) := by
  constructor
  rw [l26_awake_in (fun rs os => rs = A_l26_awake r ∧ os = O_l26_awake r)]
  unfold l26_awake_fn at h
  obtain ⟨c1, h2⟩ := ob_some h
  obtain ⟨c3, h4⟩ := ob_some h2
  obtain ⟨c5, h6⟩ := ob_some h4
  obtain ⟨c7, h8⟩ := ob_some h6
  obtain ⟨c9, h10⟩ := ob_some h8
  cases h10
  exact (And.intro c1 (And.intro c3 (And.intro c5 (And.intro c7 (And.intro c9 ⟨rfl, rfl⟩)))))

def l26_awake : Bool := true

theorem l26_awake_spec : l26_awake_fn = some l26_awake := by
  unfold l26_awake_fn; rfl

def F_l26_awake : FnC Un := fun args => match args with
  | [] => some ([], A_l26_awake (l26_awake), O_l26_awake (l26_awake))
  | _ => none

theorem ok_l26_awake : FnOK 5 F_l26_awake := by
  intro args ob rs os h hob
  unfold F_l26_awake at h
  split at h
  · simp only [Option.bind_eq_some_iff, Option.some.injEq, Prod.mk.injEq] at h
    obtain ⟨rfl, rfl, rfl⟩ := h
    exact ⟨fn_contract (M := M_l26_awake) rfl (tbl_ok (l1 := [(11, F_l26_col), (12, F_l26_num), (10, F_l26_op), (6, F_access_Range), (13, F_value_Num), (9, F_access_Best), (8, F_r26_SameBound)]) (l2 := []) (l3 := []) (l4 := []) ⟨ok_l26_col, ok_l26_num, ok_l26_op, ok_access_Range, ok_value_Num, ok_access_Best, ok_r26_SameBound, trivial⟩ trivial trivial trivial) Try.func5 (by kernel_rfl) N_l26_awake 0 [.d] (fun hwf => l26_awake_run (l26_awake_spec)), hasBody_of Try.func5 (by kernel_rfl) (by kernel_rfl)⟩
  · simp at h


end
end Go.Proofs.Ytohpgnpjijpedaa.B
