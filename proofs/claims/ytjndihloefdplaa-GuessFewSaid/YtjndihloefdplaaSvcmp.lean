/- Functions: vcmp. (Printed by wip/tools/mkfn.py out of wip/src/vcmp.src.) -/
import Derived.Test.YtjndihloefdplaaBLib
import Derived.Test.YtjndihloefdplaaSspec
import Derived.Test.YtjndihloefdplaaSlcmp
namespace Go.Proofs.Ytjndihloefdplaa.B
open Go Go.RowKit
set_option maxRecDepth 100000
noncomputable section
attribute [local irreducible] awp ctxK itersK iterK retQ retGQ

/-- Two values of one kind. -/
def cmpV (a b : Val) : Int × Bool := if a.kind = b.kind then (if a.kind = 3 then (cmpS a.s b.s, true) else if a.kind = 1 ∨ a.kind = 2 then (cmpI a.n b.n, true) else (0, false)) else (0, false)

/-! ### value.Order -/
def M_value_Order : Mc Un := mach (tbl [(52, F_cmp_Compare), (53, F_strings_Compare), (51, F_cmp_Or)]) (tbl []) (tbl []) (tbl [])
def N_value_Order : Nat → NS := fun l => (look l []).getD ⟨[], [], [], [], []⟩
def A_value_Order (r : Int) : List (A Un) := [.c (.s (.int .i64 r))]
def O_value_Order (_r : Int) : List (Ob Un) := []
theorem value_Order_in (a : Val) (b : Val) (K : List (A Un) → List (Ob Un) → Prop) :
    awp M_value_Order N_value_Order (bodyOf Try.f45) (entry Try.f45.ntmps 0 [.d (.agg (enc Ty.val a)), .d (.agg (enc Ty.val b))]) (retQ M_value_Order Try.f45.results.toList [.d] K) =
(K (A_value_Order (cmp_Or [cmp_Compare a.kind b.kind, cmp_Compare a.n b.n, strings_Compare a.s b.s])) (O_value_Order (cmp_Or [cmp_Compare a.kind b.kind, cmp_Compare a.n b.n, strings_Compare a.s b.s]))) := by kernel_rfl
def value_Order_fn (a : Val) (b : Val) : Option (Int) :=
  some (cmp_Or [cmp_Compare a.kind b.kind, cmp_Compare a.n b.n, strings_Compare a.s b.s])
theorem value_Order_run {a : Val} {b : Val} {r : Int} (h : value_Order_fn a b = some r) : Runs (awp M_value_Order N_value_Order (bodyOf Try.f45) (entry Try.f45.ntmps 0 [.d (.agg (enc Ty.val a)), .d (.agg (enc Ty.val b))]) (retQ M_value_Order Try.f45.results.toList [.d] fun rs os => rs = A_value_Order r ∧ os = O_value_Order r)) := by
  constructor
  rw [value_Order_in a b (fun rs os => rs = A_value_Order r ∧ os = O_value_Order r)]
  unfold value_Order_fn at h
  cases h
  exact ⟨rfl, rfl⟩

def value_Order (a b : Val) : Int := ordV a b

@[simp] theorem value_Order_eq (a b : Val) : value_Order a b = ordV a b := by unfold value_Order; rfl
theorem value_Order_spec (a b : Val) (_ha : WS .val a) (_hb : WS .val b) : value_Order_fn a b = some (value_Order a b) := by
  unfold value_Order_fn value_Order ordV
  simp only [cmp_Or_eq, cmp_Compare_spec, strings_Compare_spec, orL, cmpI_zero]
  by_cases h1 : a.kind = b.kind
  · by_cases h2 : a.n = b.n
    · simp only [h1, h2, if_true]; split
      · rename_i h; rw [h]
      · rfl
    · simp [h1, h2]
  · simp [h1]

def F_value_Order : FnC Un := fun args => match args with
  | [x0, x1] => (dS .val x0).bind fun a => (dS .val x1).bind fun b => some ([], A_value_Order (value_Order a b), O_value_Order (value_Order a b))
  | _ => none

theorem ok_value_Order : FnOK 45 F_value_Order := by
  intro args ob rs os h hob
  unfold F_value_Order at h
  split at h
  · simp only [Option.bind_eq_some_iff, Option.some.injEq, Prod.mk.injEq] at h
    obtain ⟨a, e0, b, e1, rfl, rfl, rfl⟩ := h
    obtain rfl := dS_eq e0
    obtain rfl := dS_eq e1
    exact ⟨fn_contract (M := M_value_Order) rfl (tbl_ok (l1 := [(52, F_cmp_Compare), (53, F_strings_Compare), (51, F_cmp_Or)]) (l2 := []) (l3 := []) (l4 := []) ⟨ok_cmp_Compare, ok_strings_Compare, ok_cmp_Or, trivial⟩ trivial trivial trivial) Try.func45 (by kernel_rfl) N_value_Order 0 [.d] (fun hwf => value_Order_run (value_Order_spec a b (wfArg hwf (a := .d (.agg (enc Ty.val a))) (List.mem_of_getElem? (i := 0) rfl)) (wfArg hwf (a := .d (.agg (enc Ty.val b))) (List.mem_of_getElem? (i := 1) rfl)))), hasBody_of Try.func45 (by kernel_rfl) (by kernel_rfl)⟩
  · simp at h


/-! ### value.Compare -/
def M_value_Compare : Mc Un := mach (tbl [(53, F_strings_Compare), (52, F_cmp_Compare)]) (tbl []) (tbl []) (tbl [])
def N_value_Compare : Nat → NS := fun l => (look l []).getD ⟨[], [], [], [], []⟩
def A_value_Compare (r : Int × Bool) : List (A Un) := [.c (.s (.int .i64 r.1)), .c (.s (.bool r.2))]
def O_value_Compare (_r : Int × Bool) : List (Ob Un) := []
theorem value_Compare_in (a : Val) (b : Val) (K : List (A Un) → List (Ob Un) → Prop) :
    awp M_value_Compare N_value_Compare (bodyOf Try.f46) (entry Try.f46.ntmps 0 [.d (.agg (enc Ty.val a)), .d (.agg (enc Ty.val b))]) (retQ M_value_Compare Try.f46.results.toList [.d, .d] K) =
(cnd (a.kind != b.kind)
 (K (A_value_Compare ((0 : Int), false)) (O_value_Compare ((0 : Int), false)))
 (cnd (decide (a.kind < (1 : Int)))
  (K (A_value_Compare ((0 : Int), false)) (O_value_Compare ((0 : Int), false)))
  (cnd (decide (a.kind > (3 : Int)))
   (K (A_value_Compare ((0 : Int), false)) (O_value_Compare ((0 : Int), false)))
   (cnd (a.kind == (3 : Int))
    (K (A_value_Compare (strings_Compare a.s b.s, true)) (O_value_Compare (strings_Compare a.s b.s, true)))
    (K (A_value_Compare (cmp_Compare a.n b.n, true)) (O_value_Compare (cmp_Compare a.n b.n, true))))))) := by kernel_rfl
def value_Compare_fn (a : Val) (b : Val) : Option (Int × Bool) :=
  if (a.kind != b.kind) = true then
   some ((0 : Int), false)
  else
   if (decide (a.kind < (1 : Int))) = true then
    some ((0 : Int), false)
   else
    if (decide (a.kind > (3 : Int))) = true then
     some ((0 : Int), false)
    else
     if (a.kind == (3 : Int)) = true then
      some (strings_Compare a.s b.s, true)
     else
      some (cmp_Compare a.n b.n, true)
theorem value_Compare_run {a : Val} {b : Val} {r : Int × Bool} (h : value_Compare_fn a b = some r) : Runs (awp M_value_Compare N_value_Compare (bodyOf Try.f46) (entry Try.f46.ntmps 0 [.d (.agg (enc Ty.val a)), .d (.agg (enc Ty.val b))]) (retQ M_value_Compare Try.f46.results.toList [.d, .d] fun rs os => rs = A_value_Compare r ∧ os = O_value_Compare r)) := by
  constructor
  rw [value_Compare_in a b (fun rs os => rs = A_value_Compare r ∧ os = O_value_Compare r)]
  unfold value_Compare_fn at h
  rcases ite_some h with ⟨c1, h2⟩ | ⟨c1, h2⟩
  · cases h2
    exact (cnd_t c1 ⟨rfl, rfl⟩)
  · rcases ite_some h2 with ⟨c3, h4⟩ | ⟨c3, h4⟩
    · cases h4
      exact (cnd_f (bfalse c1) (cnd_t c3 ⟨rfl, rfl⟩))
    · rcases ite_some h4 with ⟨c5, h6⟩ | ⟨c5, h6⟩
      · cases h6
        exact (cnd_f (bfalse c1) (cnd_f (bfalse c3) (cnd_t c5 ⟨rfl, rfl⟩)))
      · rcases ite_some h6 with ⟨c7, h8⟩ | ⟨c7, h8⟩
        · cases h8
          exact (cnd_f (bfalse c1) (cnd_f (bfalse c3) (cnd_f (bfalse c5) (cnd_t c7 ⟨rfl, rfl⟩))))
        · cases h8
          exact (cnd_f (bfalse c1) (cnd_f (bfalse c3) (cnd_f (bfalse c5) (cnd_f (bfalse c7) ⟨rfl, rfl⟩))))

def value_Compare (a b : Val) : Int × Bool := cmpV a b

@[simp] theorem value_Compare_eq (a b : Val) : value_Compare a b = cmpV a b := by unfold value_Compare; rfl
theorem value_Compare_spec (a b : Val) (_ha : WS .val a) (_hb : WS .val b) : value_Compare_fn a b = some (value_Compare a b) := by
  unfold value_Compare_fn value_Compare cmpV
  simp only [bne_iff_ne, ne_eq, ite_not, beq_iff_eq, decide_eq_true_eq, cmp_Compare_spec, strings_Compare_spec]
  by_cases h1 : a.kind = b.kind
  · simp only [h1, if_true]
    by_cases h3 : b.kind = 3
    · simp [h3]
    · by_cases h4 : b.kind < 1
      · have : ¬ (b.kind = 1 ∨ b.kind = 2) := by omega
        simp [h3, h4, this]
      · by_cases h5 : b.kind > 3
        · have : ¬ (b.kind = 1 ∨ b.kind = 2) := by omega
          simp [h3, h4, h5, this]
        · have : b.kind = 1 ∨ b.kind = 2 := by omega
          simp [h3, h4, h5, this]
  · simp [h1]

def F_value_Compare : FnC Un := fun args => match args with
  | [x0, x1] => (dS .val x0).bind fun a => (dS .val x1).bind fun b => some ([], A_value_Compare (value_Compare a b), O_value_Compare (value_Compare a b))
  | _ => none

theorem ok_value_Compare : FnOK 46 F_value_Compare := by
  intro args ob rs os h hob
  unfold F_value_Compare at h
  split at h
  · simp only [Option.bind_eq_some_iff, Option.some.injEq, Prod.mk.injEq] at h
    obtain ⟨a, e0, b, e1, rfl, rfl, rfl⟩ := h
    obtain rfl := dS_eq e0
    obtain rfl := dS_eq e1
    exact ⟨fn_contract (M := M_value_Compare) rfl (tbl_ok (l1 := [(53, F_strings_Compare), (52, F_cmp_Compare)]) (l2 := []) (l3 := []) (l4 := []) ⟨ok_strings_Compare, ok_cmp_Compare, trivial⟩ trivial trivial trivial) Try.func46 (by kernel_rfl) N_value_Compare 0 [.d, .d] (fun hwf => value_Compare_run (value_Compare_spec a b (wfArg hwf (a := .d (.agg (enc Ty.val a))) (List.mem_of_getElem? (i := 0) rfl)) (wfArg hwf (a := .d (.agg (enc Ty.val b))) (List.mem_of_getElem? (i := 1) rfl)))), hasBody_of Try.func46 (by kernel_rfl) (by kernel_rfl)⟩
  · simp at h


end
end Go.Proofs.Ytjndihloefdplaa.B
