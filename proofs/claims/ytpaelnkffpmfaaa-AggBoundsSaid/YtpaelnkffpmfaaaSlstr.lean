/- Functions: lstr. (Printed by wip/tools/mkfn.py out of wip/src/lstr.src.) -/
import Derived.Test.YtpaelnkffpmfaaaBLib
import Derived.Test.YtpaelnkffpmfaaaLstrings
namespace Go.Proofs.Ytpaelnkffpmfaaa.B
open Go Go.RowKit
set_option maxRecDepth 100000
noncomputable section
attribute [local irreducible] awp ctxK itersK iterK retQ retGQ

/-! ### strings.IndexFunc -/
def M_strings_IndexFunc : Mc Un := mach (tbl [(49, F_strings_indexFunc)]) (tbl []) (tbl []) (tbl []) (tbl [])
def N_strings_IndexFunc : Nat → NS := fun l => (look l []).getD ⟨[], [], [], [], []⟩
def A_strings_IndexFunc (r : Int) : List (A Un) := [.c (.s (.int .i64 r))]
def O_strings_IndexFunc (_r : Int) : List (Ob Un) := []
theorem strings_IndexFunc_in (s : ByteArray) (φ : FV Un) (K : List (A Un) → List (Ob Un) → Prop) :
    awp M_strings_IndexFunc N_strings_IndexFunc (bodyOf Try.f46) (entry Try.f46.ntmps 0 [.d (.v (cs s)), .fn φ]) (retQ M_strings_IndexFunc Try.f46.results.toList [.d] K) =
((runesOK φ = true) ∧
(K (A_strings_IndexFunc (idxF (runeP φ) true s)) (O_strings_IndexFunc (idxF (runeP φ) true s)))) := by kernel_rfl
def strings_IndexFunc_fn (s : ByteArray) (φ : FV Un) : Option (Int) :=
  if runesOK φ = true then
   some (idxF (runeP φ) true s)
  else none
theorem strings_IndexFunc_run {s : ByteArray} {φ : FV Un} {r : Int} (h : strings_IndexFunc_fn s φ = some r) : Runs (awp M_strings_IndexFunc N_strings_IndexFunc (bodyOf Try.f46) (entry Try.f46.ntmps 0 [.d (.v (cs s)), .fn φ]) (retQ M_strings_IndexFunc Try.f46.results.toList [.d] fun rs os => rs = A_strings_IndexFunc r ∧ os = O_strings_IndexFunc r)) := by
  constructor
  rw [strings_IndexFunc_in s φ (fun rs os => rs = A_strings_IndexFunc r ∧ os = O_strings_IndexFunc r)]
  unfold strings_IndexFunc_fn at h
  obtain ⟨c1, h2⟩ := ob_some h
  cases h2
  exact (And.intro c1 ⟨rfl, rfl⟩)

def strings_IndexFunc (s : ByteArray) (φ : FV Un) : Int := idxF (runeP φ) true s

theorem strings_IndexFunc_spec (s : ByteArray) (φ : FV Un) (_hs : WStr s) (h : runesOK φ = true) : strings_IndexFunc_fn s φ = some (strings_IndexFunc s φ) := by
  simp [strings_IndexFunc_fn, strings_IndexFunc, h]

def F_strings_IndexFunc : FnC Un := fun args => match args with
  | [x0, x1] => (dStr x0).bind fun s => (dF x1).bind fun φ => some ([runesOK φ = true], A_strings_IndexFunc (strings_IndexFunc s φ), O_strings_IndexFunc (strings_IndexFunc s φ))
  | _ => none

theorem ok_strings_IndexFunc : FnOK 46 F_strings_IndexFunc := by
  intro args ob rs os h hob
  unfold F_strings_IndexFunc at h
  split at h
  · simp only [Option.bind_eq_some_iff, Option.some.injEq, Prod.mk.injEq] at h
    obtain ⟨s, e0, φ, e1, rfl, rfl, rfl⟩ := h
    obtain rfl := dStr_eq e0
    obtain rfl := dF_eq e1
    exact ⟨fn_contract (M := M_strings_IndexFunc) rfl (tbl_ok (l1 := [(49, F_strings_indexFunc)]) (l2 := []) (l3 := []) (l4 := []) (l5 := []) ⟨ok_strings_indexFunc, trivial⟩ trivial trivial trivial trivial) Try.func46 (by kernel_rfl) N_strings_IndexFunc 0 [.d] (fun hwf => strings_IndexFunc_run (strings_IndexFunc_spec s φ (wfArg hwf (a := .d (.v (cs s))) (List.mem_of_getElem? (i := 0) rfl)) (hob _ (List.mem_of_getElem? (i := 0) rfl)))), hasBody_of Try.func46 (by kernel_rfl) (by kernel_rfl)⟩
  · simp at h


end
end Go.Proofs.Ytpaelnkffpmfaaa.B
