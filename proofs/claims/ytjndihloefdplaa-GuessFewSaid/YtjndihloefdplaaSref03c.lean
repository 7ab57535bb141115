/- Functions: ref03c. (Printed by wip/tools/mkfn.py out of wip/src/ref03c.src.) -/
import Derived.Test.YtjndihloefdplaaBLib
import Derived.Test.YtjndihloefdplaaSspec
import Derived.Test.YtjndihloefdplaaSref03
import Derived.Test.YtjndihloefdplaaSlcmp
import Derived.Test.YtjndihloefdplaaSvcmp
namespace Go.Proofs.Ytjndihloefdplaa.B
open Go Go.RowKit
set_option maxRecDepth 100000
noncomputable section
attribute [local irreducible] awp ctxK itersK iterK retQ retGQ

/-! ### tabellionref03.Compare -/
def M_r03_Compare : Mc Un := mach (tbl [(59, F_r03_ints), (60, F_r03_texts)]) (tbl []) (tbl []) (tbl [])
def N_r03_Compare : Nat → NS := fun l => (look l []).getD ⟨[], [], [], [], []⟩
def A_r03_Compare (r : Int × Bool) : List (A Un) := [.c (.s (.int .i64 r.1)), .c (.s (.bool r.2))]
def O_r03_Compare (_r : Int × Bool) : List (Ob Un) := []
theorem r03_Compare_in (a : Val) (b : Val) (K : List (A Un) → List (Ob Un) → Prop) :
    awp M_r03_Compare N_r03_Compare (bodyOf Try.f55) (entry Try.f55.ntmps 0 [.d (.agg (enc Ty.val a)), .d (.agg (enc Ty.val b))]) (retQ M_r03_Compare Try.f55.results.toList [.d, .d] K) =
(cnd (a.kind != b.kind)
 (K (A_r03_Compare ((0 : Int), false)) (O_r03_Compare ((0 : Int), false)))
 (cnd (a.kind == (1 : Int))
  (cnd (a.kind == (1 : Int))
   (K (A_r03_Compare (r03_ints a.n b.n, true)) (O_r03_Compare (r03_ints a.n b.n, true)))
   (cnd (a.kind == (3 : Int))
    (K (A_r03_Compare (r03_texts a.s b.s, true)) (O_r03_Compare (r03_texts a.s b.s, true)))
    (K (A_r03_Compare ((0 : Int), false)) (O_r03_Compare ((0 : Int), false)))))
  (cnd (a.kind == (2 : Int))
   (K (A_r03_Compare (r03_ints a.n b.n, true)) (O_r03_Compare (r03_ints a.n b.n, true)))
   (cnd (a.kind == (3 : Int))
    (K (A_r03_Compare (r03_texts a.s b.s, true)) (O_r03_Compare (r03_texts a.s b.s, true)))
    (K (A_r03_Compare ((0 : Int), false)) (O_r03_Compare ((0 : Int), false))))))) := by kernel_rfl
def r03_Compare_fn (a : Val) (b : Val) : Option (Int × Bool) :=
  if (a.kind != b.kind) = true then
   some ((0 : Int), false)
  else
   if (a.kind == (1 : Int)) = true then
    if (a.kind == (1 : Int)) = true then
     some (r03_ints a.n b.n, true)
    else
     if (a.kind == (3 : Int)) = true then
      some (r03_texts a.s b.s, true)
     else
      some ((0 : Int), false)
   else
    if (a.kind == (2 : Int)) = true then
     some (r03_ints a.n b.n, true)
    else
     if (a.kind == (3 : Int)) = true then
      some (r03_texts a.s b.s, true)
     else
      some ((0 : Int), false)
theorem r03_Compare_run {a : Val} {b : Val} {r : Int × Bool} (h : r03_Compare_fn a b = some r) : Runs (awp M_r03_Compare N_r03_Compare (bodyOf Try.f55) (entry Try.f55.ntmps 0 [.d (.agg (enc Ty.val a)), .d (.agg (enc Ty.val b))]) (retQ M_r03_Compare Try.f55.results.toList [.d, .d] fun rs os => rs = A_r03_Compare r ∧ os = O_r03_Compare r)) := by
  constructor
  rw [r03_Compare_in a b (fun rs os => rs = A_r03_Compare r ∧ os = O_r03_Compare r)]
  unfold r03_Compare_fn at h
  rcases ite_some h with ⟨c1, h2⟩ | ⟨c1, h2⟩
  · cases h2
    exact (cnd_t c1 ⟨rfl, rfl⟩)
  · rcases ite_some h2 with ⟨c3, h4⟩ | ⟨c3, h4⟩
    · rcases ite_some h4 with ⟨c5, h6⟩ | ⟨c5, h6⟩
      · cases h6
        exact (cnd_f (bfalse c1) (cnd_t c3 (cnd_t c5 ⟨rfl, rfl⟩)))
      · rcases ite_some h6 with ⟨c7, h8⟩ | ⟨c7, h8⟩
        · cases h8
          exact (cnd_f (bfalse c1) (cnd_t c3 (cnd_f (bfalse c5) (cnd_t c7 ⟨rfl, rfl⟩))))
        · cases h8
          exact (cnd_f (bfalse c1) (cnd_t c3 (cnd_f (bfalse c5) (cnd_f (bfalse c7) ⟨rfl, rfl⟩))))
    · rcases ite_some h4 with ⟨c9, h10⟩ | ⟨c9, h10⟩
      · cases h10
        exact (cnd_f (bfalse c1) (cnd_f (bfalse c3) (cnd_t c9 ⟨rfl, rfl⟩)))
      · rcases ite_some h10 with ⟨c11, h12⟩ | ⟨c11, h12⟩
        · cases h12
          exact (cnd_f (bfalse c1) (cnd_f (bfalse c3) (cnd_f (bfalse c9) (cnd_t c11 ⟨rfl, rfl⟩))))
        · cases h12
          exact (cnd_f (bfalse c1) (cnd_f (bfalse c3) (cnd_f (bfalse c9) (cnd_f (bfalse c11) ⟨rfl, rfl⟩))))

def r03_Compare (a b : Val) : Int × Bool := cmpV a b

@[simp] theorem r03_Compare_eq (a b : Val) : r03_Compare a b = cmpV a b := by unfold r03_Compare; rfl
theorem r03_Compare_spec (a b : Val) (_ha : WS .val a) (_hb : WS .val b) : r03_Compare_fn a b = some (r03_Compare a b) := by
  unfold r03_Compare_fn r03_Compare cmpV
  simp only [bne_iff_ne, ne_eq, ite_not, beq_iff_eq, r03_ints_spec, r03_texts_eq]
  by_cases h1 : a.kind = b.kind
  · simp only [h1, if_true]
    by_cases h2 : b.kind = 1
    · simp [h2]
    · by_cases h3 : b.kind = 2
      · simp [h3]
      · by_cases h4 : b.kind = 3 <;> simp [h2, h3, h4]
  · simp [h1]

def F_r03_Compare : FnC Un := fun args => match args with
  | [x0, x1] => (dS .val x0).bind fun a => (dS .val x1).bind fun b => some ([], A_r03_Compare (r03_Compare a b), O_r03_Compare (r03_Compare a b))
  | _ => none

theorem ok_r03_Compare : FnOK 55 F_r03_Compare := by
  intro args ob rs os h hob
  unfold F_r03_Compare at h
  split at h
  · simp only [Option.bind_eq_some_iff, Option.some.injEq, Prod.mk.injEq] at h
    obtain ⟨a, e0, b, e1, rfl, rfl, rfl⟩ := h
    obtain rfl := dS_eq e0
    obtain rfl := dS_eq e1
    exact ⟨fn_contract (M := M_r03_Compare) rfl (tbl_ok (l1 := [(59, F_r03_ints), (60, F_r03_texts)]) (l2 := []) (l3 := []) (l4 := []) ⟨ok_r03_ints, ok_r03_texts, trivial⟩ trivial trivial trivial) Try.func55 (by kernel_rfl) N_r03_Compare 0 [.d, .d] (fun hwf => r03_Compare_run (r03_Compare_spec a b (wfArg hwf (a := .d (.agg (enc Ty.val a))) (List.mem_of_getElem? (i := 0) rfl)) (wfArg hwf (a := .d (.agg (enc Ty.val b))) (List.mem_of_getElem? (i := 1) rfl)))), hasBody_of Try.func55 (by kernel_rfl) (by kernel_rfl)⟩
  · simp at h


end
end Go.Proofs.Ytjndihloefdplaa.B
