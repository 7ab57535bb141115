/- Functions: vcmp. (Printed by wip/tools/mkfn.py out of wip/src/vcmp.src.) -/
import Derived.Test.YtpaelnkffpmfaaaBLib
import Derived.Test.YtpaelnkffpmfaaaSspec
import Derived.Test.YtpaelnkffpmfaaaSlcmp
namespace Go.Proofs.Ytpaelnkffpmfaaa.B
open Go Go.RowKit
set_option maxRecDepth 100000
noncomputable section
attribute [local irreducible] awp ctxK itersK iterK retQ retGQ

/-- Two values of one kind. -/
def cmpV (a b : Val) : Int × Bool := if a.kind = b.kind then (if a.kind = 3 then (cmpS a.s b.s, true) else if a.kind = 1 ∨ a.kind = 2 then (cmpI a.n b.n, true) else (0, false)) else (0, false)

/-! ### value.Order -/
def M_value_Order : Mc Un := mach (tbl [(26, F_cmp_Compare), (27, F_strings_Compare), (25, F_cmp_Or)]) (tbl []) (tbl []) (tbl []) (tbl [])
def N_value_Order : Nat → NS := fun l => (look l []).getD ⟨[], [], [], [], []⟩
def A_value_Order (r : Int) : List (A Un) := [.c (.s (.int .i64 r))]
def O_value_Order (_r : Int) : List (Ob Un) := []
theorem value_Order_in (a : Val) (b : Val) (K : List (A Un) → List (Ob Un) → Prop) :
    awp M_value_Order N_value_Order (bodyOf Try.f14) (entry Try.f14.ntmps 0 [.d (.agg (enc Ty.val a)), .d (.agg (enc Ty.val b))]) (retQ M_value_Order Try.f14.results.toList [.d] K) =
(K (A_value_Order (cmp_Or [cmp_Compare a.kind b.kind, cmp_Compare a.n b.n, strings_Compare a.s b.s])) (O_value_Order (cmp_Or [cmp_Compare a.kind b.kind, cmp_Compare a.n b.n, strings_Compare a.s b.s]))) := by kernel_rfl
def value_Order_fn (a : Val) (b : Val) : Option (Int) :=
  some (cmp_Or [cmp_Compare a.kind b.kind, cmp_Compare a.n b.n, strings_Compare a.s b.s])
theorem value_Order_run {a : Val} {b : Val} {r : Int} (h : value_Order_fn a b = some r) : Runs (awp M_value_Order N_value_Order (bodyOf Try.f14) (entry Try.f14.ntmps 0 [.d (.agg (enc Ty.val a)), .d (.agg (enc Ty.val b))]) (retQ M_value_Order Try.f14.results.toList [.d] fun rs os => rs = A_value_Order r ∧ os = O_value_Order r)) := by
  constructor
  rw [value_Order_in a b (fun rs os => rs = A_value_Order r ∧ os = O_value_Order r)]
  unfold value_Order_fn at h
  cases h
  exact ⟨rfl, rfl⟩

def value_Order (a b : Val) : Int := ordV a b

@[simp] theorem value_Order_eq (a b : Val) : value_Order a b = ordV a b := by unfold value_Order; rfl
theorem value_Order_spec (a b : Val) (_ha : WS .val a) (_hb : WS .val b) : value_Order_fn a b = some (value_Order a b) := by
  unfold value_Order_fn value_Order ordV
  simp only [cmp_Or_eq, cmp_Compare_spec, strings_Compare_spec, orL, cmpI_zero]
  by_cases h1 : a.kind = b.kind
  · by_cases h2 : a.n = b.n
    · simp only [h1, h2, if_true]; split
      · rename_i h; rw [h]
      · rfl
    · simp [h1, h2]
  · simp [h1]

def F_value_Order : FnC Un := fun args => match args with
  | [x0, x1] => (dS .val x0).bind fun a => (dS .val x1).bind fun b => some ([], A_value_Order (value_Order a b), O_value_Order (value_Order a b))
  | _ => none

theorem ok_value_Order : FnOK 14 F_value_Order := by
  intro args ob rs os h hob
  unfold F_value_Order at h
  split at h
  · simp only [Option.bind_eq_some_iff, Option.some.injEq, Prod.mk.injEq] at h
    obtain ⟨a, e0, b, e1, rfl, rfl, rfl⟩ := h
    obtain rfl := dS_eq e0
    obtain rfl := dS_eq e1
    exact ⟨fn_contract (M := M_value_Order) rfl (tbl_ok (l1 := [(26, F_cmp_Compare), (27, F_strings_Compare), (25, F_cmp_Or)]) (l2 := []) (l3 := []) (l4 := []) (l5 := []) ⟨ok_cmp_Compare, ok_strings_Compare, ok_cmp_Or, trivial⟩ trivial trivial trivial trivial) Try.func14 (by kernel_rfl) N_value_Order 0 [.d] (fun hwf => value_Order_run (value_Order_spec a b (wfArg hwf (a := .d (.agg (enc Ty.val a))) (List.mem_of_getElem? (i := 0) rfl)) (wfArg hwf (a := .d (.agg (enc Ty.val b))) (List.mem_of_getElem? (i := 1) rfl)))), hasBody_of Try.func14 (by kernel_rfl) (by kernel_rfl)⟩
  · simp at h

def V_value_Order : FV Un := fun args => match args with
  | [x0, x1] => (dS .val (.d x0)).bind fun a => (dS .val (.d x1)).bind fun b => some ([], [.v (.s (.int .i64 (value_Order a b)))])
  | _ => none

theorem okV_value_Order : FvOK 14 V_value_Order := by
  refine ⟨hasBody_of Try.func14 (by kernel_rfl) (by kernel_rfl), fun args ob rs h hob => ?_⟩
  unfold V_value_Order at h
  split at h
  · simp only [Option.bind_eq_some_iff, Option.some.injEq, Prod.mk.injEq] at h
    obtain ⟨a, e0, b, e1, rfl, rfl⟩ := h
    simp only [List.map_cons, List.map_nil]
    rw [dS_eq e0]
    rw [dS_eq e1]
    refine Contract.data (ok_value_Order _ ([]) _ _ (?_ : F_value_Order _ = some _) (by simp)).1
    unfold F_value_Order
    simp only [dSk_mk]
    rfl
  · simp at h

theorem V_value_Order_eq : V_value_Order = fv_S_val_S_val_to_i_i64 ordV := by
  have : value_Order = ordV := by funext a b; exact value_Order_eq a b
  rw [← this]; rfl




end
end Go.Proofs.Ytpaelnkffpmfaaa.B
