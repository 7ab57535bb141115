/- Functions: num. (Printed by wip/tools/mkfn.py out of wip/src/num.src.) -/
import Derived.Test.YtpaelnkffpmfaaaBLib
import Derived.Test.YtpaelnkffpmfaaaSspec
namespace Go.Proofs.Ytpaelnkffpmfaaa.B
open Go Go.RowKit
set_option maxRecDepth 100000
noncomputable section
attribute [local irreducible] awp ctxK itersK iterK retQ retGQ

/-! ### num.In -/
def M_num_In : Mc Un := mach (tbl []) (tbl []) (tbl []) (tbl []) (tbl [])
def N_num_In : Nat → NS := fun l => (look l []).getD ⟨[], [], [], [], []⟩
def A_num_In (r : Bool) : List (A Un) := [.c (.s (.bool r))]
def O_num_In (_r : Bool) : List (Ob Un) := []
theorem num_In_in (n : Int) (K : List (A Un) → List (Ob Un) → Prop) :
    awp M_num_In N_num_In (bodyOf Try.f38) (entry Try.f38.ntmps 0 [.d (.v (.s (.int .i64 n)))]) (retQ M_num_In Try.f38.results.toList [.d] K) =
(cnd (decide (n ≥ (-1000000000000000 : Int)))
 (K (A_num_In (decide (n ≤ (1000000000000000 : Int)))) (O_num_In (decide (n ≤ (1000000000000000 : Int)))))
 (K (A_num_In (false)) (O_num_In (false)))) := by kernel_rfl
def num_In_fn (n : Int) : Option (Bool) :=
  if (decide (n ≥ (-1000000000000000 : Int))) = true then
   some (decide (n ≤ (1000000000000000 : Int)))
  else
   some (false)
theorem num_In_run {n : Int} {r : Bool} (h : num_In_fn n = some r) : Runs (awp M_num_In N_num_In (bodyOf Try.f38) (entry Try.f38.ntmps 0 [.d (.v (.s (.int .i64 n)))]) (retQ M_num_In Try.f38.results.toList [.d] fun rs os => rs = A_num_In r ∧ os = O_num_In r)) := by
  constructor
  rw [num_In_in n (fun rs os => rs = A_num_In r ∧ os = O_num_In r)]
  unfold num_In_fn at h
  rcases ite_some h with ⟨c1, h2⟩ | ⟨c1, h2⟩
  · cases h2
    exact (cnd_t c1 ⟨rfl, rfl⟩)
  · cases h2
    exact (cnd_f (bfalse c1) ⟨rfl, rfl⟩)
def num_In (n : Int) : Bool :=
  if (decide (n ≥ (-1000000000000000 : Int))) = true then
   (decide (n ≤ (1000000000000000 : Int)))
  else
   (false)
theorem num_In_eq (n : Int) : num_In_fn n = some (num_In n) := by unfold num_In_fn num_In; repeat (first | rfl | split)

def F_num_In : FnC Un := fun args => match args with
  | [x0] => (dI .i64 x0).bind fun n => some ([], A_num_In (num_In n), O_num_In (num_In n))
  | _ => none

theorem ok_num_In : FnOK 38 F_num_In := by
  intro args ob rs os h hob
  unfold F_num_In at h
  split at h
  · simp only [Option.bind_eq_some_iff, Option.some.injEq, Prod.mk.injEq] at h
    obtain ⟨n, e0, rfl, rfl, rfl⟩ := h
    obtain rfl := dI_eq e0
    exact ⟨fn_contract (M := M_num_In) rfl (tbl_ok (l1 := []) (l2 := []) (l3 := []) (l4 := []) (l5 := []) trivial trivial trivial trivial trivial) Try.func38 (by kernel_rfl) N_num_In 0 [.d] (fun hwf => num_In_run (num_In_eq n)), hasBody_of Try.func38 (by kernel_rfl) (by kernel_rfl)⟩
  · simp at h

@[simp] theorem num_In_spec (n : Int) : num_In n = inN n := by
  unfold num_In inN
  by_cases h : n ≥ -1000000000000000
  · rw [if_pos (decide_eq_true h)]; congr 1; simp only [eq_iff_iff]; omega
  · rw [if_neg (by simpa using h)]; symm; simp only [decide_eq_false_iff_not]; omega


end
end Go.Proofs.Ytpaelnkffpmfaaa.B
