/- Functions: ref26. (Printed by wip/tools/mkfn.py out of wip/src/ref26.src.) -/
import Derived.Test.YtohpgnpjijpedaaBLib
import Derived.Test.YtohpgnpjijpedaaSspec
import Derived.Test.YtohpgnpjijpedaaSref03
import Derived.Test.YtohpgnpjijpedaaSspec26
namespace Go.Proofs.Ytohpgnpjijpedaa.B
open Go Go.RowKit
set_option maxRecDepth 100000
noncomputable section
attribute [local irreducible] awp ctxK itersK iterK retQ retGQ

/-! ### tabellionref26.turned -/
def M_r26_turned : Mc Un := mach (tbl []) (tbl []) (tbl []) (tbl [])
def N_r26_turned : Nat → NS := fun l => (look l []).getD ⟨[], [], [], [], []⟩
def A_r26_turned (r : Int) : List (A Un) := [.c (.s (.int .i64 r))]
def O_r26_turned (_r : Int) : List (Ob Un) := []
theorem r26_turned_in (op : Int) (K : List (A Un) → List (Ob Un) → Prop) :
    awp M_r26_turned N_r26_turned (bodyOf Try.f26) (entry Try.f26.ntmps 0 [.d (.v (.s (.int .i64 op)))]) (retQ M_r26_turned Try.f26.results.toList [.d] K) =
(cnd (op == (13 : Int))
 (K (A_r26_turned ((15 : Int))) (O_r26_turned ((15 : Int))))
 (cnd (op == (14 : Int))
  (K (A_r26_turned ((16 : Int))) (O_r26_turned ((16 : Int))))
  (cnd (op == (15 : Int))
   (K (A_r26_turned ((13 : Int))) (O_r26_turned ((13 : Int))))
   (cnd (op == (16 : Int))
    (K (A_r26_turned ((14 : Int))) (O_r26_turned ((14 : Int))))
    (K (A_r26_turned (op)) (O_r26_turned (op))))))) := by kernel_rfl
def r26_turned_fn (op : Int) : Option (Int) :=
  if (op == (13 : Int)) = true then
   some ((15 : Int))
  else
   if (op == (14 : Int)) = true then
    some ((16 : Int))
   else
    if (op == (15 : Int)) = true then
     some ((13 : Int))
    else
     if (op == (16 : Int)) = true then
      some ((14 : Int))
     else
      some (op)
theorem r26_turned_run {op : Int} {r : Int} (h : r26_turned_fn op = some r) : Runs (awp M_r26_turned N_r26_turned (bodyOf Try.f26) (entry Try.f26.ntmps 0 [.d (.v (.s (.int .i64 op)))]) (retQ M_r26_turned Try.f26.results.toList [.d] fun rs os => rs = A_r26_turned r ∧ os = O_r26_turned r)) := by
  constructor
  rw [r26_turned_in op (fun rs os => rs = A_r26_turned r ∧ os = O_r26_turned r)]
  unfold r26_turned_fn at h
  rcases ite_some h with ⟨c1, h2⟩ | ⟨c1, h2⟩
  · cases h2
    exact (cnd_t c1 ⟨rfl, rfl⟩)
  · rcases ite_some h2 with ⟨c3, h4⟩ | ⟨c3, h4⟩
    · cases h4
      exact (cnd_f (bfalse c1) (cnd_t c3 ⟨rfl, rfl⟩))
    · rcases ite_some h4 with ⟨c5, h6⟩ | ⟨c5, h6⟩
      · cases h6
        exact (cnd_f (bfalse c1) (cnd_f (bfalse c3) (cnd_t c5 ⟨rfl, rfl⟩)))
      · rcases ite_some h6 with ⟨c7, h8⟩ | ⟨c7, h8⟩
        · cases h8
          exact (cnd_f (bfalse c1) (cnd_f (bfalse c3) (cnd_f (bfalse c5) (cnd_t c7 ⟨rfl, rfl⟩))))
        · cases h8
          exact (cnd_f (bfalse c1) (cnd_f (bfalse c3) (cnd_f (bfalse c5) (cnd_f (bfalse c7) ⟨rfl, rfl⟩))))
def r26_turned (op : Int) : Int :=
  if (op == (13 : Int)) = true then
   ((15 : Int))
  else
   if (op == (14 : Int)) = true then
    ((16 : Int))
   else
    if (op == (15 : Int)) = true then
     ((13 : Int))
    else
     if (op == (16 : Int)) = true then
      ((14 : Int))
     else
      (op)
theorem r26_turned_eq (op : Int) : r26_turned_fn op = some (r26_turned op) := by unfold r26_turned_fn r26_turned; repeat (first | rfl | split)

def F_r26_turned : FnC Un := fun args => match args with
  | [x0] => (dI .i64 x0).bind fun op => some ([], A_r26_turned (r26_turned op), O_r26_turned (r26_turned op))
  | _ => none

theorem ok_r26_turned : FnOK 26 F_r26_turned := by
  intro args ob rs os h hob
  unfold F_r26_turned at h
  split at h
  · simp only [Option.bind_eq_some_iff, Option.some.injEq, Prod.mk.injEq] at h
    obtain ⟨op, e0, rfl, rfl, rfl⟩ := h
    obtain rfl := dI_eq e0
    exact ⟨fn_contract (M := M_r26_turned) rfl (tbl_ok (l1 := []) (l2 := []) (l3 := []) (l4 := []) trivial trivial trivial trivial) Try.func26 (by kernel_rfl) N_r26_turned 0 [.d] (fun hwf => r26_turned_run (r26_turned_eq op)), hasBody_of Try.func26 (by kernel_rfl) (by kernel_rfl)⟩
  · simp at h

@[simp] theorem r26_turned_spec (op : Int) : r26_turned op = turnedI op := by
  unfold r26_turned turnedI; simp only [beq_iff_eq]


/-! ### tabellionref26.bounding -/
def M_r26_bounding : Mc Un := mach (tbl [(26, F_r26_turned), (27, F_r03_Right)]) (tbl []) (tbl []) (tbl [])
def N_r26_bounding : Nat → NS := fun l => (look l []).getD ⟨[], [], [], [], []⟩
def A_r26_bounding (r : Int × Val) : List (A Un) := [.c (.s (.int .i64 r.1)), .agg (encC Ty.val r.2)]
def O_r26_bounding (_r : Int × Val) : List (Ob Un) := []
theorem r26_bounding_in (t : Term) (col : Int) (K : List (A Un) → List (Ob Un) → Prop) :
    awp M_r26_bounding N_r26_bounding (bodyOf Try.f20) (entry Try.f20.ntmps 0 [.d (.agg (enc Ty.term t)), .d (.v (.s (.int .i64 col)))]) (retQ M_r26_bounding Try.f20.results.toList [.d, .d] K) =
(cnd (t.op != (11 : Int))
 (cnd (t.op != (13 : Int))
  (cnd (t.op != (14 : Int))
   (cnd (t.op != (15 : Int))
    (cnd (t.op != (16 : Int))
     (K (A_r26_bounding ((0 : Int), zeroVal)) (O_r26_bounding ((0 : Int), zeroVal)))
     (cnd ((↑t.kids.length : Int) != (2 : Int))
      (K (A_r26_bounding ((0 : Int), zeroVal)) (O_r26_bounding ((0 : Int), zeroVal)))
      (((0 : Int) ≤ (0 : Int) ∧ (0 : Int) < (↑t.kids.length : Int)) ∧
      (((0 : Int) ≤ (1 : Int) ∧ (1 : Int) < (↑t.kids.length : Int)) ∧
      (cnd (Term.op (t.kids.getD 0 zeroTerm) == (1 : Int))
       (cnd (Term.op (t.kids.getD 1 zeroTerm) == (2 : Int))
        (cnd (Term.depth (t.kids.getD 1 zeroTerm) == (0 : Int))
         (cnd (Term.at_ (t.kids.getD 1 zeroTerm) == col)
          (cnd (Term.op (t.kids.getD 0 zeroTerm) == (1 : Int))
           (cnd (r03_Right (Term.v (t.kids.getD 0 zeroTerm)))
            (cnd (!(Term.v (t.kids.getD 0 zeroTerm)).kind != (0 : Int))
             (K (A_r26_bounding ((0 : Int), zeroVal)) (O_r26_bounding ((0 : Int), zeroVal)))
             (K (A_r26_bounding (r26_turned t.op, Term.v (t.kids.getD 0 zeroTerm))) (O_r26_bounding (r26_turned t.op, Term.v (t.kids.getD 0 zeroTerm)))))
            (K (A_r26_bounding ((0 : Int), zeroVal)) (O_r26_bounding ((0 : Int), zeroVal))))
           (K (A_r26_bounding ((0 : Int), zeroVal)) (O_r26_bounding ((0 : Int), zeroVal))))
          (K (A_r26_bounding ((0 : Int), zeroVal)) (O_r26_bounding ((0 : Int), zeroVal))))
         (K (A_r26_bounding ((0 : Int), zeroVal)) (O_r26_bounding ((0 : Int), zeroVal))))
        (K (A_r26_bounding ((0 : Int), zeroVal)) (O_r26_bounding ((0 : Int), zeroVal))))
       (cnd (Term.op (t.kids.getD 0 zeroTerm) == (2 : Int))
        (cnd (Term.depth (t.kids.getD 0 zeroTerm) == (0 : Int))
         (cnd (Term.at_ (t.kids.getD 0 zeroTerm) == col)
          (cnd (Term.op (t.kids.getD 1 zeroTerm) == (1 : Int))
           (cnd (r03_Right (Term.v (t.kids.getD 1 zeroTerm)))
            (cnd (!(Term.v (t.kids.getD 1 zeroTerm)).kind != (0 : Int))
             (K (A_r26_bounding ((0 : Int), zeroVal)) (O_r26_bounding ((0 : Int), zeroVal)))
             (K (A_r26_bounding (t.op, Term.v (t.kids.getD 1 zeroTerm))) (O_r26_bounding (t.op, Term.v (t.kids.getD 1 zeroTerm)))))
            (K (A_r26_bounding ((0 : Int), zeroVal)) (O_r26_bounding ((0 : Int), zeroVal))))
           (K (A_r26_bounding ((0 : Int), zeroVal)) (O_r26_bounding ((0 : Int), zeroVal))))
          (K (A_r26_bounding ((0 : Int), zeroVal)) (O_r26_bounding ((0 : Int), zeroVal))))
         (K (A_r26_bounding ((0 : Int), zeroVal)) (O_r26_bounding ((0 : Int), zeroVal))))
        (K (A_r26_bounding ((0 : Int), zeroVal)) (O_r26_bounding ((0 : Int), zeroVal)))))))))
    (cnd ((↑t.kids.length : Int) != (2 : Int))
     (K (A_r26_bounding ((0 : Int), zeroVal)) (O_r26_bounding ((0 : Int), zeroVal)))
     (((0 : Int) ≤ (0 : Int) ∧ (0 : Int) < (↑t.kids.length : Int)) ∧
     (((0 : Int) ≤ (1 : Int) ∧ (1 : Int) < (↑t.kids.length : Int)) ∧
     (cnd (Term.op (t.kids.getD 0 zeroTerm) == (1 : Int))
      (cnd (Term.op (t.kids.getD 1 zeroTerm) == (2 : Int))
       (cnd (Term.depth (t.kids.getD 1 zeroTerm) == (0 : Int))
        (cnd (Term.at_ (t.kids.getD 1 zeroTerm) == col)
         (cnd (Term.op (t.kids.getD 0 zeroTerm) == (1 : Int))
          (cnd (r03_Right (Term.v (t.kids.getD 0 zeroTerm)))
           (cnd (!(Term.v (t.kids.getD 0 zeroTerm)).kind != (0 : Int))
            (K (A_r26_bounding ((0 : Int), zeroVal)) (O_r26_bounding ((0 : Int), zeroVal)))
            (K (A_r26_bounding (r26_turned t.op, Term.v (t.kids.getD 0 zeroTerm))) (O_r26_bounding (r26_turned t.op, Term.v (t.kids.getD 0 zeroTerm)))))
           (K (A_r26_bounding ((0 : Int), zeroVal)) (O_r26_bounding ((0 : Int), zeroVal))))
          (K (A_r26_bounding ((0 : Int), zeroVal)) (O_r26_bounding ((0 : Int), zeroVal))))
         (K (A_r26_bounding ((0 : Int), zeroVal)) (O_r26_bounding ((0 : Int), zeroVal))))
        (K (A_r26_bounding ((0 : Int), zeroVal)) (O_r26_bounding ((0 : Int), zeroVal))))
       (K (A_r26_bounding ((0 : Int), zeroVal)) (O_r26_bounding ((0 : Int), zeroVal))))
      (cnd (Term.op (t.kids.getD 0 zeroTerm) == (2 : Int))
       (cnd (Term.depth (t.kids.getD 0 zeroTerm) == (0 : Int))
        (cnd (Term.at_ (t.kids.getD 0 zeroTerm) == col)
         (cnd (Term.op (t.kids.getD 1 zeroTerm) == (1 : Int))
          (cnd (r03_Right (Term.v (t.kids.getD 1 zeroTerm)))
           (cnd (!(Term.v (t.kids.getD 1 zeroTerm)).kind != (0 : Int))
            (K (A_r26_bounding ((0 : Int), zeroVal)) (O_r26_bounding ((0 : Int), zeroVal)))
            (K (A_r26_bounding (t.op, Term.v (t.kids.getD 1 zeroTerm))) (O_r26_bounding (t.op, Term.v (t.kids.getD 1 zeroTerm)))))
           (K (A_r26_bounding ((0 : Int), zeroVal)) (O_r26_bounding ((0 : Int), zeroVal))))
          (K (A_r26_bounding ((0 : Int), zeroVal)) (O_r26_bounding ((0 : Int), zeroVal))))
         (K (A_r26_bounding ((0 : Int), zeroVal)) (O_r26_bounding ((0 : Int), zeroVal))))
        (K (A_r26_bounding ((0 : Int), zeroVal)) (O_r26_bounding ((0 : Int), zeroVal))))
       (K (A_r26_bounding ((0 : Int), zeroVal)) (O_r26_bounding ((0 : Int), zeroVal)))))))))
   (cnd ((↑t.kids.length : Int) != (2 : Int))
    (K (A_r26_bounding ((0 : Int), zeroVal)) (O_r26_bounding ((0 : Int), zeroVal)))
    (((0 : Int) ≤ (0 : Int) ∧ (0 : Int) < (↑t.kids.length : Int)) ∧
    (((0 : Int) ≤ (1 : Int) ∧ (1 : Int) < (↑t.kids.length : Int)) ∧
    (cnd (Term.op (t.kids.getD 0 zeroTerm) == (1 : Int))
     (cnd (Term.op (t.kids.getD 1 zeroTerm) == (2 : Int))
      (cnd (Term.depth (t.kids.getD 1 zeroTerm) == (0 : Int))
       (cnd (Term.at_ (t.kids.getD 1 zeroTerm) == col)
        (cnd (Term.op (t.kids.getD 0 zeroTerm) == (1 : Int))
         (cnd (r03_Right (Term.v (t.kids.getD 0 zeroTerm)))
          (cnd (!(Term.v (t.kids.getD 0 zeroTerm)).kind != (0 : Int))
           (K (A_r26_bounding ((0 : Int), zeroVal)) (O_r26_bounding ((0 : Int), zeroVal)))
           (K (A_r26_bounding (r26_turned t.op, Term.v (t.kids.getD 0 zeroTerm))) (O_r26_bounding (r26_turned t.op, Term.v (t.kids.getD 0 zeroTerm)))))
          (K (A_r26_bounding ((0 : Int), zeroVal)) (O_r26_bounding ((0 : Int), zeroVal))))
         (K (A_r26_bounding ((0 : Int), zeroVal)) (O_r26_bounding ((0 : Int), zeroVal))))
        (K (A_r26_bounding ((0 : Int), zeroVal)) (O_r26_bounding ((0 : Int), zeroVal))))
       (K (A_r26_bounding ((0 : Int), zeroVal)) (O_r26_bounding ((0 : Int), zeroVal))))
      (K (A_r26_bounding ((0 : Int), zeroVal)) (O_r26_bounding ((0 : Int), zeroVal))))
     (cnd (Term.op (t.kids.getD 0 zeroTerm) == (2 : Int))
      (cnd (Term.depth (t.kids.getD 0 zeroTerm) == (0 : Int))
       (cnd (Term.at_ (t.kids.getD 0 zeroTerm) == col)
        (cnd (Term.op (t.kids.getD 1 zeroTerm) == (1 : Int))
         (cnd (r03_Right (Term.v (t.kids.getD 1 zeroTerm)))
          (cnd (!(Term.v (t.kids.getD 1 zeroTerm)).kind != (0 : Int))
           (K (A_r26_bounding ((0 : Int), zeroVal)) (O_r26_bounding ((0 : Int), zeroVal)))
           (K (A_r26_bounding (t.op, Term.v (t.kids.getD 1 zeroTerm))) (O_r26_bounding (t.op, Term.v (t.kids.getD 1 zeroTerm)))))
          (K (A_r26_bounding ((0 : Int), zeroVal)) (O_r26_bounding ((0 : Int), zeroVal))))
         (K (A_r26_bounding ((0 : Int), zeroVal)) (O_r26_bounding ((0 : Int), zeroVal))))
        (K (A_r26_bounding ((0 : Int), zeroVal)) (O_r26_bounding ((0 : Int), zeroVal))))
       (K (A_r26_bounding ((0 : Int), zeroVal)) (O_r26_bounding ((0 : Int), zeroVal))))
      (K (A_r26_bounding ((0 : Int), zeroVal)) (O_r26_bounding ((0 : Int), zeroVal)))))))))
  (cnd ((↑t.kids.length : Int) != (2 : Int))
   (K (A_r26_bounding ((0 : Int), zeroVal)) (O_r26_bounding ((0 : Int), zeroVal)))
   (((0 : Int) ≤ (0 : Int) ∧ (0 : Int) < (↑t.kids.length : Int)) ∧
   (((0 : Int) ≤ (1 : Int) ∧ (1 : Int) < (↑t.kids.length : Int)) ∧
   (cnd (Term.op (t.kids.getD 0 zeroTerm) == (1 : Int))
    (cnd (Term.op (t.kids.getD 1 zeroTerm) == (2 : Int))
     (cnd (Term.depth (t.kids.getD 1 zeroTerm) == (0 : Int))
      (cnd (Term.at_ (t.kids.getD 1 zeroTerm) == col)
       (cnd (Term.op (t.kids.getD 0 zeroTerm) == (1 : Int))
        (cnd (r03_Right (Term.v (t.kids.getD 0 zeroTerm)))
         (cnd (!(Term.v (t.kids.getD 0 zeroTerm)).kind != (0 : Int))
          (K (A_r26_bounding ((0 : Int), zeroVal)) (O_r26_bounding ((0 : Int), zeroVal)))
          (K (A_r26_bounding (r26_turned t.op, Term.v (t.kids.getD 0 zeroTerm))) (O_r26_bounding (r26_turned t.op, Term.v (t.kids.getD 0 zeroTerm)))))
         (K (A_r26_bounding ((0 : Int), zeroVal)) (O_r26_bounding ((0 : Int), zeroVal))))
        (K (A_r26_bounding ((0 : Int), zeroVal)) (O_r26_bounding ((0 : Int), zeroVal))))
       (K (A_r26_bounding ((0 : Int), zeroVal)) (O_r26_bounding ((0 : Int), zeroVal))))
      (K (A_r26_bounding ((0 : Int), zeroVal)) (O_r26_bounding ((0 : Int), zeroVal))))
     (K (A_r26_bounding ((0 : Int), zeroVal)) (O_r26_bounding ((0 : Int), zeroVal))))
    (cnd (Term.op (t.kids.getD 0 zeroTerm) == (2 : Int))
     (cnd (Term.depth (t.kids.getD 0 zeroTerm) == (0 : Int))
      (cnd (Term.at_ (t.kids.getD 0 zeroTerm) == col)
       (cnd (Term.op (t.kids.getD 1 zeroTerm) == (1 : Int))
        (cnd (r03_Right (Term.v (t.kids.getD 1 zeroTerm)))
         (cnd (!(Term.v (t.kids.getD 1 zeroTerm)).kind != (0 : Int))
          (K (A_r26_bounding ((0 : Int), zeroVal)) (O_r26_bounding ((0 : Int), zeroVal)))
          (K (A_r26_bounding (t.op, Term.v (t.kids.getD 1 zeroTerm))) (O_r26_bounding (t.op, Term.v (t.kids.getD 1 zeroTerm)))))
         (K (A_r26_bounding ((0 : Int), zeroVal)) (O_r26_bounding ((0 : Int), zeroVal))))
        (K (A_r26_bounding ((0 : Int), zeroVal)) (O_r26_bounding ((0 : Int), zeroVal))))
       (K (A_r26_bounding ((0 : Int), zeroVal)) (O_r26_bounding ((0 : Int), zeroVal))))
      (K (A_r26_bounding ((0 : Int), zeroVal)) (O_r26_bounding ((0 : Int), zeroVal))))
     (K (A_r26_bounding ((0 : Int), zeroVal)) (O_r26_bounding ((0 : Int), zeroVal)))))))))
 (cnd ((↑t.kids.length : Int) != (2 : Int))
  (K (A_r26_bounding ((0 : Int), zeroVal)) (O_r26_bounding ((0 : Int), zeroVal)))
  (((0 : Int) ≤ (0 : Int) ∧ (0 : Int) < (↑t.kids.length : Int)) ∧
  (((0 : Int) ≤ (1 : Int) ∧ (1 : Int) < (↑t.kids.length : Int)) ∧
  (cnd (Term.op (t.kids.getD 0 zeroTerm) == (1 : Int))
   (cnd (Term.op (t.kids.getD 1 zeroTerm) == (2 : Int))
    (cnd (Term.depth (t.kids.getD 1 zeroTerm) == (0 : Int))
     (cnd (Term.at_ (t.kids.getD 1 zeroTerm) == col)
      (cnd (Term.op (t.kids.getD 0 zeroTerm) == (1 : Int))
       (cnd (r03_Right (Term.v (t.kids.getD 0 zeroTerm)))
        (cnd (!(Term.v (t.kids.getD 0 zeroTerm)).kind != (0 : Int))
         (K (A_r26_bounding ((0 : Int), zeroVal)) (O_r26_bounding ((0 : Int), zeroVal)))
         (K (A_r26_bounding (r26_turned t.op, Term.v (t.kids.getD 0 zeroTerm))) (O_r26_bounding (r26_turned t.op, Term.v (t.kids.getD 0 zeroTerm)))))
        (K (A_r26_bounding ((0 : Int), zeroVal)) (O_r26_bounding ((0 : Int), zeroVal))))
       (K (A_r26_bounding ((0 : Int), zeroVal)) (O_r26_bounding ((0 : Int), zeroVal))))
      (K (A_r26_bounding ((0 : Int), zeroVal)) (O_r26_bounding ((0 : Int), zeroVal))))
     (K (A_r26_bounding ((0 : Int), zeroVal)) (O_r26_bounding ((0 : Int), zeroVal))))
    (K (A_r26_bounding ((0 : Int), zeroVal)) (O_r26_bounding ((0 : Int), zeroVal))))
   (cnd (Term.op (t.kids.getD 0 zeroTerm) == (2 : Int))
    (cnd (Term.depth (t.kids.getD 0 zeroTerm) == (0 : Int))
     (cnd (Term.at_ (t.kids.getD 0 zeroTerm) == col)
      (cnd (Term.op (t.kids.getD 1 zeroTerm) == (1 : Int))
       (cnd (r03_Right (Term.v (t.kids.getD 1 zeroTerm)))
        (cnd (!(Term.v (t.kids.getD 1 zeroTerm)).kind != (0 : Int))
         (K (A_r26_bounding ((0 : Int), zeroVal)) (O_r26_bounding ((0 : Int), zeroVal)))
         (K (A_r26_bounding (t.op, Term.v (t.kids.getD 1 zeroTerm))) (O_r26_bounding (t.op, Term.v (t.kids.getD 1 zeroTerm)))))
        (K (A_r26_bounding ((0 : Int), zeroVal)) (O_r26_bounding ((0 : Int), zeroVal))))
       (K (A_r26_bounding ((0 : Int), zeroVal)) (O_r26_bounding ((0 : Int), zeroVal))))
      (K (A_r26_bounding ((0 : Int), zeroVal)) (O_r26_bounding ((0 : Int), zeroVal))))
     (K (A_r26_bounding ((0 : Int), zeroVal)) (O_r26_bounding ((0 : Int), zeroVal))))
    (K (A_r26_bounding ((0 : Int), zeroVal)) (O_r26_bounding ((0 : Int), zeroVal))))))))) := by kernel_rfl
def r26_bounding_fn (t : Term) (col : Int) : Option (Int × Val) :=
  if (t.op != (11 : Int)) = true then
   if (t.op != (13 : Int)) = true then
    if (t.op != (14 : Int)) = true then
     if (t.op != (15 : Int)) = true then
      if (t.op != (16 : Int)) = true then
       some ((0 : Int), zeroVal)
      else
       if ((↑t.kids.length : Int) != (2 : Int)) = true then
        some ((0 : Int), zeroVal)
       else
        if (0 : Int) ≤ (0 : Int) ∧ (0 : Int) < (↑t.kids.length : Int) then
         if (0 : Int) ≤ (1 : Int) ∧ (1 : Int) < (↑t.kids.length : Int) then
          if (Term.op (t.kids.getD 0 zeroTerm) == (1 : Int)) = true then
           if (Term.op (t.kids.getD 1 zeroTerm) == (2 : Int)) = true then
            if (Term.depth (t.kids.getD 1 zeroTerm) == (0 : Int)) = true then
             if (Term.at_ (t.kids.getD 1 zeroTerm) == col) = true then
              if (Term.op (t.kids.getD 0 zeroTerm) == (1 : Int)) = true then
               if (r03_Right (Term.v (t.kids.getD 0 zeroTerm))) = true then
                if (!(Term.v (t.kids.getD 0 zeroTerm)).kind != (0 : Int)) = true then
                 some ((0 : Int), zeroVal)
                else
                 some (r26_turned t.op, Term.v (t.kids.getD 0 zeroTerm))
               else
                some ((0 : Int), zeroVal)
              else
               some ((0 : Int), zeroVal)
             else
              some ((0 : Int), zeroVal)
            else
             some ((0 : Int), zeroVal)
           else
            some ((0 : Int), zeroVal)
          else
           if (Term.op (t.kids.getD 0 zeroTerm) == (2 : Int)) = true then
            if (Term.depth (t.kids.getD 0 zeroTerm) == (0 : Int)) = true then
             if (Term.at_ (t.kids.getD 0 zeroTerm) == col) = true then
              if (Term.op (t.kids.getD 1 zeroTerm) == (1 : Int)) = true then
               if (r03_Right (Term.v (t.kids.getD 1 zeroTerm))) = true then
                if (!(Term.v (t.kids.getD 1 zeroTerm)).kind != (0 : Int)) = true then
                 some ((0 : Int), zeroVal)
                else
                 some (t.op, Term.v (t.kids.getD 1 zeroTerm))
               else
                some ((0 : Int), zeroVal)
              else
               some ((0 : Int), zeroVal)
             else
              some ((0 : Int), zeroVal)
            else
             some ((0 : Int), zeroVal)
           else
            some ((0 : Int), zeroVal)
         else none
        else none
     else
      if ((↑t.kids.length : Int) != (2 : Int)) = true then
       some ((0 : Int), zeroVal)
      else
       if (0 : Int) ≤ (0 : Int) ∧ (0 : Int) < (↑t.kids.length : Int) then
        if (0 : Int) ≤ (1 : Int) ∧ (1 : Int) < (↑t.kids.length : Int) then
         if (Term.op (t.kids.getD 0 zeroTerm) == (1 : Int)) = true then
          if (Term.op (t.kids.getD 1 zeroTerm) == (2 : Int)) = true then
           if (Term.depth (t.kids.getD 1 zeroTerm) == (0 : Int)) = true then
            if (Term.at_ (t.kids.getD 1 zeroTerm) == col) = true then
             if (Term.op (t.kids.getD 0 zeroTerm) == (1 : Int)) = true then
              if (r03_Right (Term.v (t.kids.getD 0 zeroTerm))) = true then
               if (!(Term.v (t.kids.getD 0 zeroTerm)).kind != (0 : Int)) = true then
                some ((0 : Int), zeroVal)
               else
                some (r26_turned t.op, Term.v (t.kids.getD 0 zeroTerm))
              else
               some ((0 : Int), zeroVal)
             else
              some ((0 : Int), zeroVal)
            else
             some ((0 : Int), zeroVal)
           else
            some ((0 : Int), zeroVal)
          else
           some ((0 : Int), zeroVal)
         else
          if (Term.op (t.kids.getD 0 zeroTerm) == (2 : Int)) = true then
           if (Term.depth (t.kids.getD 0 zeroTerm) == (0 : Int)) = true then
            if (Term.at_ (t.kids.getD 0 zeroTerm) == col) = true then
             if (Term.op (t.kids.getD 1 zeroTerm) == (1 : Int)) = true then
              if (r03_Right (Term.v (t.kids.getD 1 zeroTerm))) = true then
               if (!(Term.v (t.kids.getD 1 zeroTerm)).kind != (0 : Int)) = true then
                some ((0 : Int), zeroVal)
               else
                some (t.op, Term.v (t.kids.getD 1 zeroTerm))
              else
               some ((0 : Int), zeroVal)
             else
              some ((0 : Int), zeroVal)
            else
             some ((0 : Int), zeroVal)
           else
            some ((0 : Int), zeroVal)
          else
           some ((0 : Int), zeroVal)
        else none
       else none
    else
     if ((↑t.kids.length : Int) != (2 : Int)) = true then
      some ((0 : Int), zeroVal)
     else
      if (0 : Int) ≤ (0 : Int) ∧ (0 : Int) < (↑t.kids.length : Int) then
       if (0 : Int) ≤ (1 : Int) ∧ (1 : Int) < (↑t.kids.length : Int) then
        if (Term.op (t.kids.getD 0 zeroTerm) == (1 : Int)) = true then
         if (Term.op (t.kids.getD 1 zeroTerm) == (2 : Int)) = true then
          if (Term.depth (t.kids.getD 1 zeroTerm) == (0 : Int)) = true then
           if (Term.at_ (t.kids.getD 1 zeroTerm) == col) = true then
            if (Term.op (t.kids.getD 0 zeroTerm) == (1 : Int)) = true then
             if (r03_Right (Term.v (t.kids.getD 0 zeroTerm))) = true then
              if (!(Term.v (t.kids.getD 0 zeroTerm)).kind != (0 : Int)) = true then
               some ((0 : Int), zeroVal)
              else
               some (r26_turned t.op, Term.v (t.kids.getD 0 zeroTerm))
             else
              some ((0 : Int), zeroVal)
            else
             some ((0 : Int), zeroVal)
           else
            some ((0 : Int), zeroVal)
          else
           some ((0 : Int), zeroVal)
         else
          some ((0 : Int), zeroVal)
        else
         if (Term.op (t.kids.getD 0 zeroTerm) == (2 : Int)) = true then
          if (Term.depth (t.kids.getD 0 zeroTerm) == (0 : Int)) = true then
           if (Term.at_ (t.kids.getD 0 zeroTerm) == col) = true then
            if (Term.op (t.kids.getD 1 zeroTerm) == (1 : Int)) = true then
             if (r03_Right (Term.v (t.kids.getD 1 zeroTerm))) = true then
              if (!(Term.v (t.kids.getD 1 zeroTerm)).kind != (0 : Int)) = true then
               some ((0 : Int), zeroVal)
              else
               some (t.op, Term.v (t.kids.getD 1 zeroTerm))
             else
              some ((0 : Int), zeroVal)
            else
             some ((0 : Int), zeroVal)
           else
            some ((0 : Int), zeroVal)
          else
           some ((0 : Int), zeroVal)
         else
          some ((0 : Int), zeroVal)
       else none
      else none
   else
    if ((↑t.kids.length : Int) != (2 : Int)) = true then
     some ((0 : Int), zeroVal)
    else
     if (0 : Int) ≤ (0 : Int) ∧ (0 : Int) < (↑t.kids.length : Int) then
      if (0 : Int) ≤ (1 : Int) ∧ (1 : Int) < (↑t.kids.length : Int) then
       if (Term.op (t.kids.getD 0 zeroTerm) == (1 : Int)) = true then
        if (Term.op (t.kids.getD 1 zeroTerm) == (2 : Int)) = true then
         if (Term.depth (t.kids.getD 1 zeroTerm) == (0 : Int)) = true then
          if (Term.at_ (t.kids.getD 1 zeroTerm) == col) = true then
           if (Term.op (t.kids.getD 0 zeroTerm) == (1 : Int)) = true then
            if (r03_Right (Term.v (t.kids.getD 0 zeroTerm))) = true then
             if (!(Term.v (t.kids.getD 0 zeroTerm)).kind != (0 : Int)) = true then
              some ((0 : Int), zeroVal)
             else
              some (r26_turned t.op, Term.v (t.kids.getD 0 zeroTerm))
            else
             some ((0 : Int), zeroVal)
           else
            some ((0 : Int), zeroVal)
          else
           some ((0 : Int), zeroVal)
         else
          some ((0 : Int), zeroVal)
        else
         some ((0 : Int), zeroVal)
       else
        if (Term.op (t.kids.getD 0 zeroTerm) == (2 : Int)) = true then
         if (Term.depth (t.kids.getD 0 zeroTerm) == (0 : Int)) = true then
          if (Term.at_ (t.kids.getD 0 zeroTerm) == col) = true then
           if (Term.op (t.kids.getD 1 zeroTerm) == (1 : Int)) = true then
            if (r03_Right (Term.v (t.kids.getD 1 zeroTerm))) = true then
             if (!(Term.v (t.kids.getD 1 zeroTerm)).kind != (0 : Int)) = true then
              some ((0 : Int), zeroVal)
             else
              some (t.op, Term.v (t.kids.getD 1 zeroTerm))
            else
             some ((0 : Int), zeroVal)
           else
            some ((0 : Int), zeroVal)
          else
           some ((0 : Int), zeroVal)
         else
          some ((0 : Int), zeroVal)
        else
         some ((0 : Int), zeroVal)
      else none
     else none
  else
   if ((↑t.kids.length : Int) != (2 : Int)) = true then
    some ((0 : Int), zeroVal)
   else
    if (0 : Int) ≤ (0 : Int) ∧ (0 : Int) < (↑t.kids.length : Int) then
     if (0 : Int) ≤ (1 : Int) ∧ (1 : Int) < (↑t.kids.length : Int) then
      if (Term.op (t.kids.getD 0 zeroTerm) == (1 : Int)) = true then
       if (Term.op (t.kids.getD 1 zeroTerm) == (2 : Int)) = true then
        if (Term.depth (t.kids.getD 1 zeroTerm) == (0 : Int)) = true then
         if (Term.at_ (t.kids.getD 1 zeroTerm) == col) = true then
          if (Term.op (t.kids.getD 0 zeroTerm) == (1 : Int)) = true then
           if (r03_Right (Term.v (t.kids.getD 0 zeroTerm))) = true then
            if (!(Term.v (t.kids.getD 0 zeroTerm)).kind != (0 : Int)) = true then
             some ((0 : Int), zeroVal)
            else
             some (r26_turned t.op, Term.v (t.kids.getD 0 zeroTerm))
           else
            some ((0 : Int), zeroVal)
          else
           some ((0 : Int), zeroVal)
         else
          some ((0 : Int), zeroVal)
        else
         some ((0 : Int), zeroVal)
       else
        some ((0 : Int), zeroVal)
      else
       if (Term.op (t.kids.getD 0 zeroTerm) == (2 : Int)) = true then
        if (Term.depth (t.kids.getD 0 zeroTerm) == (0 : Int)) = true then
         if (Term.at_ (t.kids.getD 0 zeroTerm) == col) = true then
          if (Term.op (t.kids.getD 1 zeroTerm) == (1 : Int)) = true then
           if (r03_Right (Term.v (t.kids.getD 1 zeroTerm))) = true then
            if (!(Term.v (t.kids.getD 1 zeroTerm)).kind != (0 : Int)) = true then
             some ((0 : Int), zeroVal)
            else
             some (t.op, Term.v (t.kids.getD 1 zeroTerm))
           else
            some ((0 : Int), zeroVal)
          else
           some ((0 : Int), zeroVal)
         else
          some ((0 : Int), zeroVal)
        else
         some ((0 : Int), zeroVal)
       else
        some ((0 : Int), zeroVal)
     else none
    else none
theorem r26_bounding_run {t : Term} {col : Int} {r : Int × Val} (h : r26_bounding_fn t col = some r) : Runs (awp M_r26_bounding N_r26_bounding (bodyOf Try.f20) (entry Try.f20.ntmps 0 [.d (.agg (enc Ty.term t)), .d (.v (.s (.int .i64 col)))]) (retQ M_r26_bounding Try.f20.results.toList [.d, .d] fun rs os => rs = A_r26_bounding r ∧ os = O_r26_bounding r)) := by
  constructor
  rw [r26_bounding_in t col (fun rs os => rs = A_r26_bounding r ∧ os = O_r26_bounding r)]
  unfold r26_bounding_fn at h
  rcases ite_some h with ⟨c1, h2⟩ | ⟨c1, h2⟩
  · rcases ite_some h2 with ⟨c3, h4⟩ | ⟨c3, h4⟩
    · rcases ite_some h4 with ⟨c5, h6⟩ | ⟨c5, h6⟩
      · rcases ite_some h6 with ⟨c7, h8⟩ | ⟨c7, h8⟩
        · rcases ite_some h8 with ⟨c9, h10⟩ | ⟨c9, h10⟩
          · cases h10
            exact (cnd_t c1 (cnd_t c3 (cnd_t c5 (cnd_t c7 (cnd_t c9 ⟨rfl, rfl⟩)))))
          · rcases ite_some h10 with ⟨c11, h12⟩ | ⟨c11, h12⟩
            · cases h12
              exact (cnd_t c1 (cnd_t c3 (cnd_t c5 (cnd_t c7 (cnd_f (bfalse c9) (cnd_t c11 ⟨rfl, rfl⟩))))))
            · obtain ⟨c13, h14⟩ := ob_some h12
              obtain ⟨c15, h16⟩ := ob_some h14
              rcases ite_some h16 with ⟨c17, h18⟩ | ⟨c17, h18⟩
              · rcases ite_some h18 with ⟨c19, h20⟩ | ⟨c19, h20⟩
                · rcases ite_some h20 with ⟨c21, h22⟩ | ⟨c21, h22⟩
                  · rcases ite_some h22 with ⟨c23, h24⟩ | ⟨c23, h24⟩
                    · rcases ite_some h24 with ⟨c25, h26⟩ | ⟨c25, h26⟩
                      · rcases ite_some h26 with ⟨c27, h28⟩ | ⟨c27, h28⟩
                        · rcases ite_some h28 with ⟨c29, h30⟩ | ⟨c29, h30⟩
                          · cases h30
                            exact (cnd_t c1 (cnd_t c3 (cnd_t c5 (cnd_t c7 (cnd_f (bfalse c9) (cnd_f (bfalse c11) (And.intro c13 (And.intro c15 (cnd_t c17 (cnd_t c19 (cnd_t c21 (cnd_t c23 (cnd_t c25 (cnd_t c27 (cnd_t c29 ⟨rfl, rfl⟩)))))))))))))))
                          · cases h30
                            exact (cnd_t c1 (cnd_t c3 (cnd_t c5 (cnd_t c7 (cnd_f (bfalse c9) (cnd_f (bfalse c11) (And.intro c13 (And.intro c15 (cnd_t c17 (cnd_t c19 (cnd_t c21 (cnd_t c23 (cnd_t c25 (cnd_t c27 (cnd_f (bfalse c29) ⟨rfl, rfl⟩)))))))))))))))
                        · cases h28
                          exact (cnd_t c1 (cnd_t c3 (cnd_t c5 (cnd_t c7 (cnd_f (bfalse c9) (cnd_f (bfalse c11) (And.intro c13 (And.intro c15 (cnd_t c17 (cnd_t c19 (cnd_t c21 (cnd_t c23 (cnd_t c25 (cnd_f (bfalse c27) ⟨rfl, rfl⟩))))))))))))))
                      · cases h26
                        exact (cnd_t c1 (cnd_t c3 (cnd_t c5 (cnd_t c7 (cnd_f (bfalse c9) (cnd_f (bfalse c11) (And.intro c13 (And.intro c15 (cnd_t c17 (cnd_t c19 (cnd_t c21 (cnd_t c23 (cnd_f (bfalse c25) ⟨rfl, rfl⟩)))))))))))))
                    · cases h24
                      exact (cnd_t c1 (cnd_t c3 (cnd_t c5 (cnd_t c7 (cnd_f (bfalse c9) (cnd_f (bfalse c11) (And.intro c13 (And.intro c15 (cnd_t c17 (cnd_t c19 (cnd_t c21 (cnd_f (bfalse c23) ⟨rfl, rfl⟩))))))))))))
                  · cases h22
                    exact (cnd_t c1 (cnd_t c3 (cnd_t c5 (cnd_t c7 (cnd_f (bfalse c9) (cnd_f (bfalse c11) (And.intro c13 (And.intro c15 (cnd_t c17 (cnd_t c19 (cnd_f (bfalse c21) ⟨rfl, rfl⟩)))))))))))
                · cases h20
                  exact (cnd_t c1 (cnd_t c3 (cnd_t c5 (cnd_t c7 (cnd_f (bfalse c9) (cnd_f (bfalse c11) (And.intro c13 (And.intro c15 (cnd_t c17 (cnd_f (bfalse c19) ⟨rfl, rfl⟩))))))))))
              · rcases ite_some h18 with ⟨c31, h32⟩ | ⟨c31, h32⟩
                · rcases ite_some h32 with ⟨c33, h34⟩ | ⟨c33, h34⟩
                  · rcases ite_some h34 with ⟨c35, h36⟩ | ⟨c35, h36⟩
                    · rcases ite_some h36 with ⟨c37, h38⟩ | ⟨c37, h38⟩
                      · rcases ite_some h38 with ⟨c39, h40⟩ | ⟨c39, h40⟩
                        · rcases ite_some h40 with ⟨c41, h42⟩ | ⟨c41, h42⟩
                          · cases h42
                            exact (cnd_t c1 (cnd_t c3 (cnd_t c5 (cnd_t c7 (cnd_f (bfalse c9) (cnd_f (bfalse c11) (And.intro c13 (And.intro c15 (cnd_f (bfalse c17) (cnd_t c31 (cnd_t c33 (cnd_t c35 (cnd_t c37 (cnd_t c39 (cnd_t c41 ⟨rfl, rfl⟩)))))))))))))))
                          · cases h42
                            exact (cnd_t c1 (cnd_t c3 (cnd_t c5 (cnd_t c7 (cnd_f (bfalse c9) (cnd_f (bfalse c11) (And.intro c13 (And.intro c15 (cnd_f (bfalse c17) (cnd_t c31 (cnd_t c33 (cnd_t c35 (cnd_t c37 (cnd_t c39 (cnd_f (bfalse c41) ⟨rfl, rfl⟩)))))))))))))))
                        · cases h40
                          exact (cnd_t c1 (cnd_t c3 (cnd_t c5 (cnd_t c7 (cnd_f (bfalse c9) (cnd_f (bfalse c11) (And.intro c13 (And.intro c15 (cnd_f (bfalse c17) (cnd_t c31 (cnd_t c33 (cnd_t c35 (cnd_t c37 (cnd_f (bfalse c39) ⟨rfl, rfl⟩))))))))))))))
                      · cases h38
                        exact (cnd_t c1 (cnd_t c3 (cnd_t c5 (cnd_t c7 (cnd_f (bfalse c9) (cnd_f (bfalse c11) (And.intro c13 (And.intro c15 (cnd_f (bfalse c17) (cnd_t c31 (cnd_t c33 (cnd_t c35 (cnd_f (bfalse c37) ⟨rfl, rfl⟩)))))))))))))
                    · cases h36
                      exact (cnd_t c1 (cnd_t c3 (cnd_t c5 (cnd_t c7 (cnd_f (bfalse c9) (cnd_f (bfalse c11) (And.intro c13 (And.intro c15 (cnd_f (bfalse c17) (cnd_t c31 (cnd_t c33 (cnd_f (bfalse c35) ⟨rfl, rfl⟩))))))))))))
                  · cases h34
                    exact (cnd_t c1 (cnd_t c3 (cnd_t c5 (cnd_t c7 (cnd_f (bfalse c9) (cnd_f (bfalse c11) (And.intro c13 (And.intro c15 (cnd_f (bfalse c17) (cnd_t c31 (cnd_f (bfalse c33) ⟨rfl, rfl⟩)))))))))))
                · cases h32
                  exact (cnd_t c1 (cnd_t c3 (cnd_t c5 (cnd_t c7 (cnd_f (bfalse c9) (cnd_f (bfalse c11) (And.intro c13 (And.intro c15 (cnd_f (bfalse c17) (cnd_f (bfalse c31) ⟨rfl, rfl⟩))))))))))
        · rcases ite_some h8 with ⟨c43, h44⟩ | ⟨c43, h44⟩
          · cases h44
            exact (cnd_t c1 (cnd_t c3 (cnd_t c5 (cnd_f (bfalse c7) (cnd_t c43 ⟨rfl, rfl⟩)))))
          · obtain ⟨c45, h46⟩ := ob_some h44
            obtain ⟨c47, h48⟩ := ob_some h46
            rcases ite_some h48 with ⟨c49, h50⟩ | ⟨c49, h50⟩
            · rcases ite_some h50 with ⟨c51, h52⟩ | ⟨c51, h52⟩
              · rcases ite_some h52 with ⟨c53, h54⟩ | ⟨c53, h54⟩
                · rcases ite_some h54 with ⟨c55, h56⟩ | ⟨c55, h56⟩
                  · rcases ite_some h56 with ⟨c57, h58⟩ | ⟨c57, h58⟩
                    · rcases ite_some h58 with ⟨c59, h60⟩ | ⟨c59, h60⟩
                      · rcases ite_some h60 with ⟨c61, h62⟩ | ⟨c61, h62⟩
                        · cases h62
                          exact (cnd_t c1 (cnd_t c3 (cnd_t c5 (cnd_f (bfalse c7) (cnd_f (bfalse c43) (And.intro c45 (And.intro c47 (cnd_t c49 (cnd_t c51 (cnd_t c53 (cnd_t c55 (cnd_t c57 (cnd_t c59 (cnd_t c61 ⟨rfl, rfl⟩))))))))))))))
                        · cases h62
                          exact (cnd_t c1 (cnd_t c3 (cnd_t c5 (cnd_f (bfalse c7) (cnd_f (bfalse c43) (And.intro c45 (And.intro c47 (cnd_t c49 (cnd_t c51 (cnd_t c53 (cnd_t c55 (cnd_t c57 (cnd_t c59 (cnd_f (bfalse c61) ⟨rfl, rfl⟩))))))))))))))
                      · cases h60
                        exact (cnd_t c1 (cnd_t c3 (cnd_t c5 (cnd_f (bfalse c7) (cnd_f (bfalse c43) (And.intro c45 (And.intro c47 (cnd_t c49 (cnd_t c51 (cnd_t c53 (cnd_t c55 (cnd_t c57 (cnd_f (bfalse c59) ⟨rfl, rfl⟩)))))))))))))
                    · cases h58
                      exact (cnd_t c1 (cnd_t c3 (cnd_t c5 (cnd_f (bfalse c7) (cnd_f (bfalse c43) (And.intro c45 (And.intro c47 (cnd_t c49 (cnd_t c51 (cnd_t c53 (cnd_t c55 (cnd_f (bfalse c57) ⟨rfl, rfl⟩))))))))))))
                  · cases h56
                    exact (cnd_t c1 (cnd_t c3 (cnd_t c5 (cnd_f (bfalse c7) (cnd_f (bfalse c43) (And.intro c45 (And.intro c47 (cnd_t c49 (cnd_t c51 (cnd_t c53 (cnd_f (bfalse c55) ⟨rfl, rfl⟩)))))))))))
                · cases h54
                  exact (cnd_t c1 (cnd_t c3 (cnd_t c5 (cnd_f (bfalse c7) (cnd_f (bfalse c43) (And.intro c45 (And.intro c47 (cnd_t c49 (cnd_t c51 (cnd_f (bfalse c53) ⟨rfl, rfl⟩))))))))))
              · cases h52
                exact (cnd_t c1 (cnd_t c3 (cnd_t c5 (cnd_f (bfalse c7) (cnd_f (bfalse c43) (And.intro c45 (And.intro c47 (cnd_t c49 (cnd_f (bfalse c51) ⟨rfl, rfl⟩)))))))))
            · rcases ite_some h50 with ⟨c63, h64⟩ | ⟨c63, h64⟩
              · rcases ite_some h64 with ⟨c65, h66⟩ | ⟨c65, h66⟩
                · rcases ite_some h66 with ⟨c67, h68⟩ | ⟨c67, h68⟩
                  · rcases ite_some h68 with ⟨c69, h70⟩ | ⟨c69, h70⟩
                    · rcases ite_some h70 with ⟨c71, h72⟩ | ⟨c71, h72⟩
                      · rcases ite_some h72 with ⟨c73, h74⟩ | ⟨c73, h74⟩
                        · cases h74
                          exact (cnd_t c1 (cnd_t c3 (cnd_t c5 (cnd_f (bfalse c7) (cnd_f (bfalse c43) (And.intro c45 (And.intro c47 (cnd_f (bfalse c49) (cnd_t c63 (cnd_t c65 (cnd_t c67 (cnd_t c69 (cnd_t c71 (cnd_t c73 ⟨rfl, rfl⟩))))))))))))))
                        · cases h74
                          exact (cnd_t c1 (cnd_t c3 (cnd_t c5 (cnd_f (bfalse c7) (cnd_f (bfalse c43) (And.intro c45 (And.intro c47 (cnd_f (bfalse c49) (cnd_t c63 (cnd_t c65 (cnd_t c67 (cnd_t c69 (cnd_t c71 (cnd_f (bfalse c73) ⟨rfl, rfl⟩))))))))))))))
                      · cases h72
                        exact (cnd_t c1 (cnd_t c3 (cnd_t c5 (cnd_f (bfalse c7) (cnd_f (bfalse c43) (And.intro c45 (And.intro c47 (cnd_f (bfalse c49) (cnd_t c63 (cnd_t c65 (cnd_t c67 (cnd_t c69 (cnd_f (bfalse c71) ⟨rfl, rfl⟩)))))))))))))
                    · cases h70
                      exact (cnd_t c1 (cnd_t c3 (cnd_t c5 (cnd_f (bfalse c7) (cnd_f (bfalse c43) (And.intro c45 (And.intro c47 (cnd_f (bfalse c49) (cnd_t c63 (cnd_t c65 (cnd_t c67 (cnd_f (bfalse c69) ⟨rfl, rfl⟩))))))))))))
                  · cases h68
                    exact (cnd_t c1 (cnd_t c3 (cnd_t c5 (cnd_f (bfalse c7) (cnd_f (bfalse c43) (And.intro c45 (And.intro c47 (cnd_f (bfalse c49) (cnd_t c63 (cnd_t c65 (cnd_f (bfalse c67) ⟨rfl, rfl⟩)))))))))))
                · cases h66
                  exact (cnd_t c1 (cnd_t c3 (cnd_t c5 (cnd_f (bfalse c7) (cnd_f (bfalse c43) (And.intro c45 (And.intro c47 (cnd_f (bfalse c49) (cnd_t c63 (cnd_f (bfalse c65) ⟨rfl, rfl⟩))))))))))
              · cases h64
                exact (cnd_t c1 (cnd_t c3 (cnd_t c5 (cnd_f (bfalse c7) (cnd_f (bfalse c43) (And.intro c45 (And.intro c47 (cnd_f (bfalse c49) (cnd_f (bfalse c63) ⟨rfl, rfl⟩)))))))))
      · rcases ite_some h6 with ⟨c75, h76⟩ | ⟨c75, h76⟩
        · cases h76
          exact (cnd_t c1 (cnd_t c3 (cnd_f (bfalse c5) (cnd_t c75 ⟨rfl, rfl⟩))))
        · obtain ⟨c77, h78⟩ := ob_some h76
          obtain ⟨c79, h80⟩ := ob_some h78
          rcases ite_some h80 with ⟨c81, h82⟩ | ⟨c81, h82⟩
          · rcases ite_some h82 with ⟨c83, h84⟩ | ⟨c83, h84⟩
            · rcases ite_some h84 with ⟨c85, h86⟩ | ⟨c85, h86⟩
              · rcases ite_some h86 with ⟨c87, h88⟩ | ⟨c87, h88⟩
                · rcases ite_some h88 with ⟨c89, h90⟩ | ⟨c89, h90⟩
                  · rcases ite_some h90 with ⟨c91, h92⟩ | ⟨c91, h92⟩
                    · rcases ite_some h92 with ⟨c93, h94⟩ | ⟨c93, h94⟩
                      · cases h94
                        exact (cnd_t c1 (cnd_t c3 (cnd_f (bfalse c5) (cnd_f (bfalse c75) (And.intro c77 (And.intro c79 (cnd_t c81 (cnd_t c83 (cnd_t c85 (cnd_t c87 (cnd_t c89 (cnd_t c91 (cnd_t c93 ⟨rfl, rfl⟩)))))))))))))
                      · cases h94
                        exact (cnd_t c1 (cnd_t c3 (cnd_f (bfalse c5) (cnd_f (bfalse c75) (And.intro c77 (And.intro c79 (cnd_t c81 (cnd_t c83 (cnd_t c85 (cnd_t c87 (cnd_t c89 (cnd_t c91 (cnd_f (bfalse c93) ⟨rfl, rfl⟩)))))))))))))
                    · cases h92
                      exact (cnd_t c1 (cnd_t c3 (cnd_f (bfalse c5) (cnd_f (bfalse c75) (And.intro c77 (And.intro c79 (cnd_t c81 (cnd_t c83 (cnd_t c85 (cnd_t c87 (cnd_t c89 (cnd_f (bfalse c91) ⟨rfl, rfl⟩))))))))))))
                  · cases h90
                    exact (cnd_t c1 (cnd_t c3 (cnd_f (bfalse c5) (cnd_f (bfalse c75) (And.intro c77 (And.intro c79 (cnd_t c81 (cnd_t c83 (cnd_t c85 (cnd_t c87 (cnd_f (bfalse c89) ⟨rfl, rfl⟩)))))))))))
                · cases h88
                  exact (cnd_t c1 (cnd_t c3 (cnd_f (bfalse c5) (cnd_f (bfalse c75) (And.intro c77 (And.intro c79 (cnd_t c81 (cnd_t c83 (cnd_t c85 (cnd_f (bfalse c87) ⟨rfl, rfl⟩))))))))))
              · cases h86
                exact (cnd_t c1 (cnd_t c3 (cnd_f (bfalse c5) (cnd_f (bfalse c75) (And.intro c77 (And.intro c79 (cnd_t c81 (cnd_t c83 (cnd_f (bfalse c85) ⟨rfl, rfl⟩)))))))))
            · cases h84
              exact (cnd_t c1 (cnd_t c3 (cnd_f (bfalse c5) (cnd_f (bfalse c75) (And.intro c77 (And.intro c79 (cnd_t c81 (cnd_f (bfalse c83) ⟨rfl, rfl⟩))))))))
          · rcases ite_some h82 with ⟨c95, h96⟩ | ⟨c95, h96⟩
            · rcases ite_some h96 with ⟨c97, h98⟩ | ⟨c97, h98⟩
              · rcases ite_some h98 with ⟨c99, h100⟩ | ⟨c99, h100⟩
                · rcases ite_some h100 with ⟨c101, h102⟩ | ⟨c101, h102⟩
                  · rcases ite_some h102 with ⟨c103, h104⟩ | ⟨c103, h104⟩
                    · rcases ite_some h104 with ⟨c105, h106⟩ | ⟨c105, h106⟩
                      · cases h106
                        exact (cnd_t c1 (cnd_t c3 (cnd_f (bfalse c5) (cnd_f (bfalse c75) (And.intro c77 (And.intro c79 (cnd_f (bfalse c81) (cnd_t c95 (cnd_t c97 (cnd_t c99 (cnd_t c101 (cnd_t c103 (cnd_t c105 ⟨rfl, rfl⟩)))))))))))))
                      · cases h106
                        exact (cnd_t c1 (cnd_t c3 (cnd_f (bfalse c5) (cnd_f (bfalse c75) (And.intro c77 (And.intro c79 (cnd_f (bfalse c81) (cnd_t c95 (cnd_t c97 (cnd_t c99 (cnd_t c101 (cnd_t c103 (cnd_f (bfalse c105) ⟨rfl, rfl⟩)))))))))))))
                    · cases h104
                      exact (cnd_t c1 (cnd_t c3 (cnd_f (bfalse c5) (cnd_f (bfalse c75) (And.intro c77 (And.intro c79 (cnd_f (bfalse c81) (cnd_t c95 (cnd_t c97 (cnd_t c99 (cnd_t c101 (cnd_f (bfalse c103) ⟨rfl, rfl⟩))))))))))))
                  · cases h102
                    exact (cnd_t c1 (cnd_t c3 (cnd_f (bfalse c5) (cnd_f (bfalse c75) (And.intro c77 (And.intro c79 (cnd_f (bfalse c81) (cnd_t c95 (cnd_t c97 (cnd_t c99 (cnd_f (bfalse c101) ⟨rfl, rfl⟩)))))))))))
                · cases h100
                  exact (cnd_t c1 (cnd_t c3 (cnd_f (bfalse c5) (cnd_f (bfalse c75) (And.intro c77 (And.intro c79 (cnd_f (bfalse c81) (cnd_t c95 (cnd_t c97 (cnd_f (bfalse c99) ⟨rfl, rfl⟩))))))))))
              · cases h98
                exact (cnd_t c1 (cnd_t c3 (cnd_f (bfalse c5) (cnd_f (bfalse c75) (And.intro c77 (And.intro c79 (cnd_f (bfalse c81) (cnd_t c95 (cnd_f (bfalse c97) ⟨rfl, rfl⟩)))))))))
            · cases h96
              exact (cnd_t c1 (cnd_t c3 (cnd_f (bfalse c5) (cnd_f (bfalse c75) (And.intro c77 (And.intro c79 (cnd_f (bfalse c81) (cnd_f (bfalse c95) ⟨rfl, rfl⟩))))))))
    · rcases ite_some h4 with ⟨c107, h108⟩ | ⟨c107, h108⟩
      · cases h108
        exact (cnd_t c1 (cnd_f (bfalse c3) (cnd_t c107 ⟨rfl, rfl⟩)))
      · obtain ⟨c109, h110⟩ := ob_some h108
        obtain ⟨c111, h112⟩ := ob_some h110
        rcases ite_some h112 with ⟨c113, h114⟩ | ⟨c113, h114⟩
        · rcases ite_some h114 with ⟨c115, h116⟩ | ⟨c115, h116⟩
          · rcases ite_some h116 with ⟨c117, h118⟩ | ⟨c117, h118⟩
            · rcases ite_some h118 with ⟨c119, h120⟩ | ⟨c119, h120⟩
              · rcases ite_some h120 with ⟨c121, h122⟩ | ⟨c121, h122⟩
                · rcases ite_some h122 with ⟨c123, h124⟩ | ⟨c123, h124⟩
                  · rcases ite_some h124 with ⟨c125, h126⟩ | ⟨c125, h126⟩
                    · cases h126
                      exact (cnd_t c1 (cnd_f (bfalse c3) (cnd_f (bfalse c107) (And.intro c109 (And.intro c111 (cnd_t c113 (cnd_t c115 (cnd_t c117 (cnd_t c119 (cnd_t c121 (cnd_t c123 (cnd_t c125 ⟨rfl, rfl⟩))))))))))))
                    · cases h126
                      exact (cnd_t c1 (cnd_f (bfalse c3) (cnd_f (bfalse c107) (And.intro c109 (And.intro c111 (cnd_t c113 (cnd_t c115 (cnd_t c117 (cnd_t c119 (cnd_t c121 (cnd_t c123 (cnd_f (bfalse c125) ⟨rfl, rfl⟩))))))))))))
                  · cases h124
                    exact (cnd_t c1 (cnd_f (bfalse c3) (cnd_f (bfalse c107) (And.intro c109 (And.intro c111 (cnd_t c113 (cnd_t c115 (cnd_t c117 (cnd_t c119 (cnd_t c121 (cnd_f (bfalse c123) ⟨rfl, rfl⟩)))))))))))
                · cases h122
                  exact (cnd_t c1 (cnd_f (bfalse c3) (cnd_f (bfalse c107) (And.intro c109 (And.intro c111 (cnd_t c113 (cnd_t c115 (cnd_t c117 (cnd_t c119 (cnd_f (bfalse c121) ⟨rfl, rfl⟩))))))))))
              · cases h120
                exact (cnd_t c1 (cnd_f (bfalse c3) (cnd_f (bfalse c107) (And.intro c109 (And.intro c111 (cnd_t c113 (cnd_t c115 (cnd_t c117 (cnd_f (bfalse c119) ⟨rfl, rfl⟩)))))))))
            · cases h118
              exact (cnd_t c1 (cnd_f (bfalse c3) (cnd_f (bfalse c107) (And.intro c109 (And.intro c111 (cnd_t c113 (cnd_t c115 (cnd_f (bfalse c117) ⟨rfl, rfl⟩))))))))
          · cases h116
            exact (cnd_t c1 (cnd_f (bfalse c3) (cnd_f (bfalse c107) (And.intro c109 (And.intro c111 (cnd_t c113 (cnd_f (bfalse c115) ⟨rfl, rfl⟩)))))))
        · rcases ite_some h114 with ⟨c127, h128⟩ | ⟨c127, h128⟩
          · rcases ite_some h128 with ⟨c129, h130⟩ | ⟨c129, h130⟩
            · rcases ite_some h130 with ⟨c131, h132⟩ | ⟨c131, h132⟩
              · rcases ite_some h132 with ⟨c133, h134⟩ | ⟨c133, h134⟩
                · rcases ite_some h134 with ⟨c135, h136⟩ | ⟨c135, h136⟩
                  · rcases ite_some h136 with ⟨c137, h138⟩ | ⟨c137, h138⟩
                    · cases h138
                      exact (cnd_t c1 (cnd_f (bfalse c3) (cnd_f (bfalse c107) (And.intro c109 (And.intro c111 (cnd_f (bfalse c113) (cnd_t c127 (cnd_t c129 (cnd_t c131 (cnd_t c133 (cnd_t c135 (cnd_t c137 ⟨rfl, rfl⟩))))))))))))
                    · cases h138
                      exact (cnd_t c1 (cnd_f (bfalse c3) (cnd_f (bfalse c107) (And.intro c109 (And.intro c111 (cnd_f (bfalse c113) (cnd_t c127 (cnd_t c129 (cnd_t c131 (cnd_t c133 (cnd_t c135 (cnd_f (bfalse c137) ⟨rfl, rfl⟩))))))))))))
                  · cases h136
                    exact (cnd_t c1 (cnd_f (bfalse c3) (cnd_f (bfalse c107) (And.intro c109 (And.intro c111 (cnd_f (bfalse c113) (cnd_t c127 (cnd_t c129 (cnd_t c131 (cnd_t c133 (cnd_f (bfalse c135) ⟨rfl, rfl⟩)))))))))))
                · cases h134
                  exact (cnd_t c1 (cnd_f (bfalse c3) (cnd_f (bfalse c107) (And.intro c109 (And.intro c111 (cnd_f (bfalse c113) (cnd_t c127 (cnd_t c129 (cnd_t c131 (cnd_f (bfalse c133) ⟨rfl, rfl⟩))))))))))
              · cases h132
                exact (cnd_t c1 (cnd_f (bfalse c3) (cnd_f (bfalse c107) (And.intro c109 (And.intro c111 (cnd_f (bfalse c113) (cnd_t c127 (cnd_t c129 (cnd_f (bfalse c131) ⟨rfl, rfl⟩)))))))))
            · cases h130
              exact (cnd_t c1 (cnd_f (bfalse c3) (cnd_f (bfalse c107) (And.intro c109 (And.intro c111 (cnd_f (bfalse c113) (cnd_t c127 (cnd_f (bfalse c129) ⟨rfl, rfl⟩))))))))
          · cases h128
            exact (cnd_t c1 (cnd_f (bfalse c3) (cnd_f (bfalse c107) (And.intro c109 (And.intro c111 (cnd_f (bfalse c113) (cnd_f (bfalse c127) ⟨rfl, rfl⟩)))))))
  · rcases ite_some h2 with ⟨c139, h140⟩ | ⟨c139, h140⟩
    · cases h140
      exact (cnd_f (bfalse c1) (cnd_t c139 ⟨rfl, rfl⟩))
    · obtain ⟨c141, h142⟩ := ob_some h140
      obtain ⟨c143, h144⟩ := ob_some h142
      rcases ite_some h144 with ⟨c145, h146⟩ | ⟨c145, h146⟩
      · rcases ite_some h146 with ⟨c147, h148⟩ | ⟨c147, h148⟩
        · rcases ite_some h148 with ⟨c149, h150⟩ | ⟨c149, h150⟩
          · rcases ite_some h150 with ⟨c151, h152⟩ | ⟨c151, h152⟩
            · rcases ite_some h152 with ⟨c153, h154⟩ | ⟨c153, h154⟩
              · rcases ite_some h154 with ⟨c155, h156⟩ | ⟨c155, h156⟩
                · rcases ite_some h156 with ⟨c157, h158⟩ | ⟨c157, h158⟩
                  · cases h158
                    exact (cnd_f (bfalse c1) (cnd_f (bfalse c139) (And.intro c141 (And.intro c143 (cnd_t c145 (cnd_t c147 (cnd_t c149 (cnd_t c151 (cnd_t c153 (cnd_t c155 (cnd_t c157 ⟨rfl, rfl⟩)))))))))))
                  · cases h158
                    exact (cnd_f (bfalse c1) (cnd_f (bfalse c139) (And.intro c141 (And.intro c143 (cnd_t c145 (cnd_t c147 (cnd_t c149 (cnd_t c151 (cnd_t c153 (cnd_t c155 (cnd_f (bfalse c157) ⟨rfl, rfl⟩)))))))))))
                · cases h156
                  exact (cnd_f (bfalse c1) (cnd_f (bfalse c139) (And.intro c141 (And.intro c143 (cnd_t c145 (cnd_t c147 (cnd_t c149 (cnd_t c151 (cnd_t c153 (cnd_f (bfalse c155) ⟨rfl, rfl⟩))))))))))
              · cases h154
                exact (cnd_f (bfalse c1) (cnd_f (bfalse c139) (And.intro c141 (And.intro c143 (cnd_t c145 (cnd_t c147 (cnd_t c149 (cnd_t c151 (cnd_f (bfalse c153) ⟨rfl, rfl⟩)))))))))
            · cases h152
              exact (cnd_f (bfalse c1) (cnd_f (bfalse c139) (And.intro c141 (And.intro c143 (cnd_t c145 (cnd_t c147 (cnd_t c149 (cnd_f (bfalse c151) ⟨rfl, rfl⟩))))))))
          · cases h150
            exact (cnd_f (bfalse c1) (cnd_f (bfalse c139) (And.intro c141 (And.intro c143 (cnd_t c145 (cnd_t c147 (cnd_f (bfalse c149) ⟨rfl, rfl⟩)))))))
        · cases h148
          exact (cnd_f (bfalse c1) (cnd_f (bfalse c139) (And.intro c141 (And.intro c143 (cnd_t c145 (cnd_f (bfalse c147) ⟨rfl, rfl⟩))))))
      · rcases ite_some h146 with ⟨c159, h160⟩ | ⟨c159, h160⟩
        · rcases ite_some h160 with ⟨c161, h162⟩ | ⟨c161, h162⟩
          · rcases ite_some h162 with ⟨c163, h164⟩ | ⟨c163, h164⟩
            · rcases ite_some h164 with ⟨c165, h166⟩ | ⟨c165, h166⟩
              · rcases ite_some h166 with ⟨c167, h168⟩ | ⟨c167, h168⟩
                · rcases ite_some h168 with ⟨c169, h170⟩ | ⟨c169, h170⟩
                  · cases h170
                    exact (cnd_f (bfalse c1) (cnd_f (bfalse c139) (And.intro c141 (And.intro c143 (cnd_f (bfalse c145) (cnd_t c159 (cnd_t c161 (cnd_t c163 (cnd_t c165 (cnd_t c167 (cnd_t c169 ⟨rfl, rfl⟩)))))))))))
                  · cases h170
                    exact (cnd_f (bfalse c1) (cnd_f (bfalse c139) (And.intro c141 (And.intro c143 (cnd_f (bfalse c145) (cnd_t c159 (cnd_t c161 (cnd_t c163 (cnd_t c165 (cnd_t c167 (cnd_f (bfalse c169) ⟨rfl, rfl⟩)))))))))))
                · cases h168
                  exact (cnd_f (bfalse c1) (cnd_f (bfalse c139) (And.intro c141 (And.intro c143 (cnd_f (bfalse c145) (cnd_t c159 (cnd_t c161 (cnd_t c163 (cnd_t c165 (cnd_f (bfalse c167) ⟨rfl, rfl⟩))))))))))
              · cases h166
                exact (cnd_f (bfalse c1) (cnd_f (bfalse c139) (And.intro c141 (And.intro c143 (cnd_f (bfalse c145) (cnd_t c159 (cnd_t c161 (cnd_t c163 (cnd_f (bfalse c165) ⟨rfl, rfl⟩)))))))))
            · cases h164
              exact (cnd_f (bfalse c1) (cnd_f (bfalse c139) (And.intro c141 (And.intro c143 (cnd_f (bfalse c145) (cnd_t c159 (cnd_t c161 (cnd_f (bfalse c163) ⟨rfl, rfl⟩))))))))
          · cases h162
            exact (cnd_f (bfalse c1) (cnd_f (bfalse c139) (And.intro c141 (And.intro c143 (cnd_f (bfalse c145) (cnd_t c159 (cnd_f (bfalse c161) ⟨rfl, rfl⟩)))))))
        · cases h160
          exact (cnd_f (bfalse c1) (cnd_f (bfalse c139) (And.intro c141 (And.intro c143 (cnd_f (bfalse c145) (cnd_f (bfalse c159) ⟨rfl, rfl⟩))))))

def r26_bounding (t : Term) (col : Int) : Int × Val := match bndT t col with | some (op, v) => (op, v) | none => (0, zeroVal)

theorem r26_bounding_spec (t : Term) (col : Int) (_ht : WS .term t) (_hc : WI col) : r26_bounding_fn t col = some (r26_bounding t col) := by
  unfold r26_bounding bndT
  unfold r26_bounding_fn
  by_cases hl : t.kids.length = 2
  · have h0 : (0 : Int) < (t.kids.length : Int) := by omega
    have h1 : (1 : Int) < (t.kids.length : Int) := by omega
    have hl' : ((t.kids.length : Int) != 2) = false := by simp; omega
    simp only [hl', h0, h1, Bool.false_eq_true, if_false, Int.le_refl, and_self, if_true, show (0 : Int) ≤ 1 from by decide, true_and, show Int.toNat 0 = 0 from rfl, show Int.toNat 1 = 1 from rfl, r26_turned_spec, r03_Right_eq, show Un.dflt Ty.term = zeroTerm from rfl, hl, decide_true, Bool.and_true]
    unfold sides boundsB compB
    generalize t.kids.getD 0 zeroTerm = a
    generalize t.kids.getD 1 zeroTerm = b
    generalize t.op = op
    simp only [beq_iff_eq, bne_iff_ne, ne_eq, ite_not, decide_eq_true_eq, Bool.not_eq_true]
    have key : ∀ (x : Int) (P Q : Option (Int × Val)), (op = 11 ∨ op = 13 ∨ op = 14 ∨ op = 15 ∨ op = 16 → P = Q) → (¬ (op = 11 ∨ op = 13 ∨ op = 14 ∨ op = 15 ∨ op = 16) → x = x → Q = some (0, zeroVal)) → (if op = 11 then P else if op = 13 then P else if op = 14 then P else if op = 15 then P else if op = 16 then P else some (0, zeroVal)) = Q := by
      intro x P Q hP hQ
      by_cases c0 : op = 11
      · rw [if_pos c0]; exact hP (by simp [c0])
      rw [if_neg c0]
      by_cases c1 : op = 13
      · rw [if_pos c1]; exact hP (by simp [c1])
      rw [if_neg c1]
      by_cases c2 : op = 14
      · rw [if_pos c2]; exact hP (by simp [c2])
      rw [if_neg c2]
      by_cases c3 : op = 15
      · rw [if_pos c3]; exact hP (by simp [c3])
      rw [if_neg c3]
      by_cases c4 : op = 16
      · rw [if_pos c4]; exact hP (by simp [c4])
      rw [if_neg c4]; exact (hQ (by simp [c0, c1, c2, c3, c4]) rfl).symm
    apply key 0
    · intro hop
      have hc : (decide (op = 11) || decide (13 ≤ op) && decide (op ≤ 16)) = true := by simp; omega
      rw [hc]
      by_cases ca : a.op = 1
      · by_cases c1 : b.op = 2 <;> by_cases c2 : b.depth = 0 <;> by_cases c3 : b.at_ = col <;> by_cases c4 : a.v.kind = 0 <;> by_cases c5 : rightV a.v = true <;> simp [ca, c1, c2, c3, c4, c5, zeroVal]
      · by_cases c1 : a.op = 2 <;> by_cases c2 : a.depth = 0 <;> by_cases c3 : a.at_ = col <;> by_cases c4 : b.v.kind = 0 <;> by_cases c5 : rightV b.v = true <;> by_cases c6 : b.op = 1 <;> simp [ca, c1, c2, c3, c4, c5, c6, zeroVal]
    · intro hop _
      have hc : (decide (op = 11) || decide (13 ≤ op) && decide (op ≤ 16)) = false := by simp; omega
      rw [hc]; rfl
  · have hl' : ((t.kids.length : Int) != 2) = true := by simp; omega
    simp [hl', hl, zeroVal]

def F_r26_bounding : FnC Un := fun args => match args with
  | [x0, x1] => (dS .term x0).bind fun t => (dI .i64 x1).bind fun col => some ([], A_r26_bounding (r26_bounding t col), O_r26_bounding (r26_bounding t col))
  | _ => none

theorem ok_r26_bounding : FnOK 20 F_r26_bounding := by
  intro args ob rs os h hob
  unfold F_r26_bounding at h
  split at h
  · simp only [Option.bind_eq_some_iff, Option.some.injEq, Prod.mk.injEq] at h
    obtain ⟨t, e0, col, e1, rfl, rfl, rfl⟩ := h
    obtain rfl := dS_eq e0
    obtain rfl := dI_eq e1
    exact ⟨fn_contract (M := M_r26_bounding) rfl (tbl_ok (l1 := [(26, F_r26_turned), (27, F_r03_Right)]) (l2 := []) (l3 := []) (l4 := []) ⟨ok_r26_turned, ok_r03_Right, trivial⟩ trivial trivial trivial) Try.func20 (by kernel_rfl) N_r26_bounding 0 [.d, .d] (fun hwf => r26_bounding_run (r26_bounding_spec t col (wfArg hwf (a := .d (.agg (enc Ty.term t))) (by simp)) (wfArg hwf (a := .d (.v (.s (.int .i64 col)))) (by simp)))), hasBody_of Try.func20 (by kernel_rfl) (by kernel_rfl)⟩
  · simp at h


/-! ### tabellionref26.first -/
def M_r26_first : Mc Un := mach (tbl [(20, F_r26_bounding)]) (tbl []) (tbl []) (tbl [])
def N_r26_first : Nat → NS := fun l => (look l [(2, { ts := [true, true, true, true, false, false, false, false, true, true, false, false, false, false, false, false, false, false, false, false, false, false, false, false, false, false, false, false, false, false, false, false, false, false, false, false, false, false, false, false], bs := [false, false, false, false, false, false, false, false, false, false, false, false, false, false, false, false, false, false, false, false, false, false, false, false, false, false, false, false, false, false, false, false, false, false, false, false, false, false, false, false], nm := [], gb := [], gs := [] })]).getD ⟨[], [], [], [], []⟩
def A_r26_first (r : Int) : List (A Un) := [.c (.s (.int .i64 r))]
def O_r26_first (_r : Int) : List (Ob Un) := []
def r26_first_s2 (terms : List Term) (at_ : Int) (op : Int) (other : Int) (v0 : Int) : S Un := (st 40 40 160 0 [(0, AV.one (A.c (C.sl Ty.term terms false))), (1, AV.one (A.c (C.s (Value.int IntKind.i64 at_)))), (2, AV.one (A.c (C.s (Value.int IntKind.i64 op)))), (3, AV.one (A.c (C.s (Value.int IntKind.i64 other)))), (8, AV.one (A.c (C.s (Value.int IntKind.i64 (0 : Int))))), (9, AV.one (A.c (C.s (Value.int IntKind.i64 v0))))] [] [])
def r26_first_e2_ret (terms : List Term) (at_ : Int) (op : Int) (other : Int) (v0 : Int) (v1 : Int) : S Un := (st 40 40 160 0 [(0, AV.one (A.c (C.sl Ty.term terms false))), (1, AV.one (A.c (C.s (Value.int IntKind.i64 at_)))), (2, AV.one (A.c (C.s (Value.int IntKind.i64 op)))), (3, AV.one (A.c (C.s (Value.int IntKind.i64 other)))), (8, AV.one (A.c (C.s (Value.int IntKind.i64 v1)))), (9, AV.one (A.c (C.s (Value.int IntKind.i64 v0))))] [] [])
theorem r26_first_in (terms : List Term) (at_ : Int) (op : Int) (other : Int) (K : List (A Un) → List (Ob Un) → Prop) :
    awp M_r26_first N_r26_first (bodyOf Try.f19) (entry Try.f19.ntmps 0 [.d (.v (.dat (U := Un) Ty.term terms)), .d (.v (.s (.int .i64 at_))), .d (.v (.s (.int .i64 op))), .d (.v (.s (.int .i64 other)))]) (retQ M_r26_first Try.f19.results.toList [.d] K) =
(itersK (N_r26_first 2) (awp M_r26_first N_r26_first (sub (bodyOf Try.f19) [1, 0, 1, 2, 2])) (ctxK M_r26_first N_r26_first (bodyOf Try.f19) [1, 0, 1, 2] (retQ M_r26_first Try.f19.results.toList [.d] K)) (r26_first_s2 terms at_ op other (0 : Int))) := by kernel_rfl
theorem r26_first_l2_raw (terms : List Term) (at_ : Int) (op : Int) (other : Int) (v0 : Int) (k : Nat) (Q : Exit → S Un → Prop) :
    iterK (N_r26_first 2) (awp M_r26_first N_r26_first (sub (bodyOf Try.f19) [1, 0, 1, 2, 2])) Q (k + 1) (r26_first_s2 terms at_ op other v0) =
(cnd (decide (v0 < (↑terms.length : Int)))
 (((0 : Int) ≤ v0 ∧ v0 < (↑terms.length : Int)) ∧
 (cnd ((r26_bounding (Term.mk (Term.op (terms.getD v0.toNat zeroTerm)) (Term.v (terms.getD v0.toNat zeroTerm)) (Term.depth (terms.getD v0.toNat zeroTerm)) (Term.at_ (terms.getD v0.toNat zeroTerm)) (Term.name (terms.getD v0.toNat zeroTerm)) (Term.kids (terms.getD v0.toNat zeroTerm)) (Term.sub (terms.getD v0.toNat zeroTerm)) (Term.type (terms.getD v0.toNat zeroTerm))) at_).fst != (0 : Int))
  (cnd ((r26_bounding (Term.mk (Term.op (terms.getD v0.toNat zeroTerm)) (Term.v (terms.getD v0.toNat zeroTerm)) (Term.depth (terms.getD v0.toNat zeroTerm)) (Term.at_ (terms.getD v0.toNat zeroTerm)) (Term.name (terms.getD v0.toNat zeroTerm)) (Term.kids (terms.getD v0.toNat zeroTerm)) (Term.sub (terms.getD v0.toNat zeroTerm)) (Term.type (terms.getD v0.toNat zeroTerm))) at_).fst == op)
   (Q .ret (r26_first_e2_ret terms at_ op other v0 v0))
   (cnd ((r26_bounding (Term.mk (Term.op (terms.getD v0.toNat zeroTerm)) (Term.v (terms.getD v0.toNat zeroTerm)) (Term.depth (terms.getD v0.toNat zeroTerm)) (Term.at_ (terms.getD v0.toNat zeroTerm)) (Term.name (terms.getD v0.toNat zeroTerm)) (Term.kids (terms.getD v0.toNat zeroTerm)) (Term.sub (terms.getD v0.toNat zeroTerm)) (Term.type (terms.getD v0.toNat zeroTerm))) at_).fst == other)
    (Q .ret (r26_first_e2_ret terms at_ op other v0 v0))
    (iterK (N_r26_first 2) (awp M_r26_first N_r26_first (sub (bodyOf Try.f19) [1, 0, 1, 2, 2])) Q k (r26_first_s2 terms at_ op other (IntKind.i64.wrap (v0 + (1 : Int)))))))
  (iterK (N_r26_first 2) (awp M_r26_first N_r26_first (sub (bodyOf Try.f19) [1, 0, 1, 2, 2])) Q k (r26_first_s2 terms at_ op other (IntKind.i64.wrap (v0 + (1 : Int)))))))
 (Q (.exit 0) (r26_first_s2 terms at_ op other v0))) := by kernel_rfl
theorem r26_first_l2 (terms : List Term) (at_ : Int) (op : Int) (other : Int) (v0 : Int) (k : Nat) (Q : Exit → S Un → Prop) :
    iterK (N_r26_first 2) (awp M_r26_first N_r26_first (sub (bodyOf Try.f19) [1, 0, 1, 2, 2])) Q (k + 1) (r26_first_s2 terms at_ op other v0) =
(cnd (decide (v0 < (↑terms.length : Int)))
 (((0 : Int) ≤ v0 ∧ v0 < (↑terms.length : Int)) ∧
 (cnd ((r26_bounding (terms.getD v0.toNat zeroTerm) at_).fst != (0 : Int))
  (cnd ((r26_bounding (terms.getD v0.toNat zeroTerm) at_).fst == op)
   (Q .ret (r26_first_e2_ret terms at_ op other v0 v0))
   (cnd ((r26_bounding (terms.getD v0.toNat zeroTerm) at_).fst == other)
    (Q .ret (r26_first_e2_ret terms at_ op other v0 v0))
    (iterK (N_r26_first 2) (awp M_r26_first N_r26_first (sub (bodyOf Try.f19) [1, 0, 1, 2, 2])) Q k (r26_first_s2 terms at_ op other (IntKind.i64.wrap (v0 + (1 : Int)))))))
  (iterK (N_r26_first 2) (awp M_r26_first N_r26_first (sub (bodyOf Try.f19) [1, 0, 1, 2, 2])) Q k (r26_first_s2 terms at_ op other (IntKind.i64.wrap (v0 + (1 : Int)))))))
 (Q (.exit 0) (r26_first_s2 terms at_ op other v0))) :=
  (r26_first_l2_raw terms at_ op other v0 k Q).trans (by simp only [Term.eta])
theorem r26_first_a2_ret (terms : List Term) (at_ : Int) (op : Int) (other : Int) (v0 : Int) (v1 : Int) (K : List (A Un) → List (Ob Un) → Prop) :
    ctxK M_r26_first N_r26_first (bodyOf Try.f19) [1, 0, 1, 2] (retQ M_r26_first Try.f19.results.toList [.d] K) .ret (r26_first_e2_ret terms at_ op other v0 v1) =
(K (A_r26_first (v1)) (O_r26_first (v1))) := by kernel_rfl
theorem r26_first_a2_x0 (terms : List Term) (at_ : Int) (op : Int) (other : Int) (v0 : Int) (K : List (A Un) → List (Ob Un) → Prop) :
    ctxK M_r26_first N_r26_first (bodyOf Try.f19) [1, 0, 1, 2] (retQ M_r26_first Try.f19.results.toList [.d] K) (.exit 0) (r26_first_s2 terms at_ op other v0) =
(K (A_r26_first ((-1 : Int))) (O_r26_first ((-1 : Int)))) := by kernel_rfl
def r26_first_S2 (terms : List Term) (at_ : Int) (op : Int) (other : Int) (v : Int) : Option ((Int) ⊕ ((Int × Int) ⊕ (Int))) :=
  if (decide (v < (↑terms.length : Int))) = true then
   if (0 : Int) ≤ v ∧ v < (↑terms.length : Int) then
    if ((r26_bounding (terms.getD v.toNat zeroTerm) at_).fst != (0 : Int)) = true then
     if ((r26_bounding (terms.getD v.toNat zeroTerm) at_).fst == op) = true then
      some (.inr (.inl (v, v)))
     else
      if ((r26_bounding (terms.getD v.toNat zeroTerm) at_).fst == other) = true then
       some (.inr (.inl (v, v)))
      else
       some (.inl (IntKind.i64.wrap (v + (1 : Int))))
    else
     some (.inl (IntKind.i64.wrap (v + (1 : Int))))
   else none
  else
   some (.inr (.inr v))
def r26_first_L2 (terms : List Term) (at_ : Int) (op : Int) (other : Int) (v : Int) : Option ((Int × Int) ⊕ (Int)) := loopO (r26_first_S2 terms at_ op other) v
theorem r26_first_L2_eq (terms : List Term) (at_ : Int) (op : Int) (other : Int) (v : Int) : r26_first_L2 terms at_ op other v = stepB (r26_first_L2 terms at_ op other) (r26_first_S2 terms at_ op other v) := loopO_eq _ _
def r26_first_Q2 (terms : List Term) (at_ : Int) (op : Int) (other : Int) (r : (Int × Int) ⊕ (Int)) (Q : Exit → S Un → Prop) : Prop := match r with | .inl x => Q .ret (r26_first_e2_ret terms at_ op other x.1 x.2) | .inr x => Q (.exit 0) (r26_first_s2 terms at_ op other x)
theorem r26_first_Q2_ret {terms : List Term} {at_ : Int} {op : Int} {other : Int} {x : Int × Int} {Q : Exit → S Un → Prop} (h : Q .ret (r26_first_e2_ret terms at_ op other x.1 x.2)) : r26_first_Q2 terms at_ op other (.inl x) Q := h
theorem r26_first_Q2_x0 {terms : List Term} {at_ : Int} {op : Int} {other : Int} {x : Int} {Q : Exit → S Un → Prop} (h : Q (.exit 0) (r26_first_s2 terms at_ op other x)) : r26_first_Q2 terms at_ op other (.inr x) Q := h
theorem r26_first_L2_run {terms : List Term} {at_ : Int} {op : Int} {other : Int} {v : Int} {r : (Int × Int) ⊕ (Int)} (h : r26_first_L2 terms at_ op other v = some r) (Q : Exit → S Un → Prop) (hQ : r26_first_Q2 terms at_ op other r Q) : itersK (N_r26_first 2) (awp M_r26_first N_r26_first (sub (bodyOf Try.f19) [1, 0, 1, 2, 2])) Q (r26_first_s2 terms at_ op other v) := by
  refine @loop_run _ _ (r26_first_S2 terms at_ op other) (fun v => itersK (N_r26_first 2) (awp M_r26_first N_r26_first (sub (bodyOf Try.f19) [1, 0, 1, 2, 2])) Q (r26_first_s2 terms at_ op other v)) (fun r => r26_first_Q2 terms at_ op other r Q) ?_ v r h hQ
  intro v o h hI
  unfold r26_first_S2 at h
  rcases ite_some h with ⟨c1, h2⟩ | ⟨c1, h2⟩
  · obtain ⟨c3, h4⟩ := ob_some h2
    rcases ite_some h4 with ⟨c5, h6⟩ | ⟨c5, h6⟩
    · rcases ite_some h6 with ⟨c7, h8⟩ | ⟨c7, h8⟩
      · cases h8
        exact itersK_mk 1 (mpr (r26_first_l2 terms at_ op other v 0 Q) (cnd_t c1 (And.intro c3 (cnd_t c5 (cnd_t c7 hI)))))
      · rcases ite_some h8 with ⟨c9, h10⟩ | ⟨c9, h10⟩
        · cases h10
          exact itersK_mk 1 (mpr (r26_first_l2 terms at_ op other v 0 Q) (cnd_t c1 (And.intro c3 (cnd_t c5 (cnd_f (bfalse c7) (cnd_t c9 hI))))))
        · cases h10
          obtain ⟨k11, hk12⟩ := itersK_get hI
          exact itersK_mk (k11 + 1) (mpr (r26_first_l2 terms at_ op other v k11 Q) (cnd_t c1 (And.intro c3 (cnd_t c5 (cnd_f (bfalse c7) (cnd_f (bfalse c9) hk12))))))
    · cases h6
      obtain ⟨k13, hk14⟩ := itersK_get hI
      exact itersK_mk (k13 + 1) (mpr (r26_first_l2 terms at_ op other v k13 Q) (cnd_t c1 (And.intro c3 (cnd_f (bfalse c5) hk14))))
  · cases h2
    exact itersK_mk 1 (mpr (r26_first_l2 terms at_ op other v 0 Q) (cnd_f (bfalse c1) hI))
def r26_first_fn (terms : List Term) (at_ : Int) (op : Int) (other : Int) : Option (Int) :=
  (r26_first_L2 terms at_ op other (0 : Int)) >>= fun o15 => match o15 with
   | .inl o16 =>
     some (o16.2)
   | .inr o17 =>
     some ((-1 : Int))
theorem r26_first_run {terms : List Term} {at_ : Int} {op : Int} {other : Int} {r : Int} (h : r26_first_fn terms at_ op other = some r) : Runs (awp M_r26_first N_r26_first (bodyOf Try.f19) (entry Try.f19.ntmps 0 [.d (.v (.dat (U := Un) Ty.term terms)), .d (.v (.s (.int .i64 at_))), .d (.v (.s (.int .i64 op))), .d (.v (.s (.int .i64 other)))]) (retQ M_r26_first Try.f19.results.toList [.d] fun rs os => rs = A_r26_first r ∧ os = O_r26_first r)) := by
  constructor
  rw [r26_first_in terms at_ op other (fun rs os => rs = A_r26_first r ∧ os = O_r26_first r)]
  unfold r26_first_fn at h
  obtain ⟨o18, ho19, h20⟩ := bind_some h
  rcases o18 with o21 | o22
  · cases h20
    exact (r26_first_L2_run ho19 _ (r26_first_Q2_ret (mpr (r26_first_a2_ret terms at_ op other o21.1 o21.2 _) ⟨rfl, rfl⟩)))
  · cases h20
    exact (r26_first_L2_run ho19 _ (r26_first_Q2_x0 (mpr (r26_first_a2_x0 terms at_ op other o22 _) ⟨rfl, rfl⟩)))

def r26_first (terms : List Term) (at_ op other : Int) : Int := match firstT at_ op other terms 0 with | some (i, _, _) => (i : Nat) | none => -1

theorem r26_first_loop (terms : List Term) (at_ op other : Int) (ht : WL .term terms) : ∀ (r : List Term) (i : Nat), terms.drop i = r →
    ∃ o, r26_first_L2 terms at_ op other i = some o ∧ (match o with | .inl o => o.2 | .inr _ => (-1 : Int)) = (match firstT at_ op other r i with | some (i, _, _) => ((i : Nat) : Int) | none => -1) := by
  intro r
  induction r with
  | nil =>
    intro i h1
    have e1 := drop_nil h1
    have hn : ¬ ((i : Int) < terms.length) := by omega
    exact ⟨.inr i, by rw [r26_first_L2_eq, r26_first_S2]; simp [hn], rfl⟩
  | cons t r ih =>
    intro i h1
    obtain ⟨a1, a2, a3, _⟩ := drop_cons h1
    have hp : (i : Int) < terms.length := by omega
    have hi : (0 : Int) ≤ i := by omega
    rw [r26_first_L2_eq, r26_first_S2]
    simp only [hp, hi, decide_true, if_true, and_self, Int.toNat_natCast, a2, beq_iff_eq, bne_iff_ne, ne_eq, ite_not]
    unfold r26_bounding firstT
    cases hb : bndT t at_ with
    | none =>
      simp only [if_true]
      rw [wrap_succ a1 ht.len, stepB_inl]; exact ih (i + 1) a3
    | some x =>
      obtain ⟨k, v⟩ := x
      have hk := (bndT_op hb).1
      simp only [hk, if_false]
      by_cases c1 : k = op
      · exact ⟨_, by rw [if_pos c1, stepB_inr], by simp [c1]⟩
      · by_cases c2 : k = other
        · exact ⟨_, by rw [if_neg c1, if_pos c2, stepB_inr], by simp [c2]⟩
        · rw [if_neg c1, if_neg c2, wrap_succ a1 ht.len, stepB_inl]
          simp only [c1, c2, or_self, if_false]
          exact ih (i + 1) a3
theorem r26_first_spec (terms : List Term) (at_ op other : Int) (ht : WL .term terms) (_h1 : WI at_) (_h2 : WI op) (_h3 : WI other) : r26_first_fn terms at_ op other = some (r26_first terms at_ op other) := by
  obtain ⟨o, ho, e⟩ := r26_first_loop terms at_ op other ht _ 0 rfl
  unfold r26_first_fn r26_first
  simp only [List.drop_zero] at e
  rw [← e]
  have ho' : r26_first_L2 terms at_ op other 0 = some o := ho
  rw [ho']
  cases o <;> rfl

def F_r26_first : FnC Un := fun args => match args with
  | [x0, x1, x2, x3] => (dL .term x0).bind fun terms => (dI .i64 x1).bind fun at_ => (dI .i64 x2).bind fun op => (dI .i64 x3).bind fun other => some ([], A_r26_first (r26_first terms at_ op other), O_r26_first (r26_first terms at_ op other))
  | _ => none

theorem ok_r26_first : FnOK 19 F_r26_first := by
  intro args ob rs os h hob
  unfold F_r26_first at h
  split at h
  · simp only [Option.bind_eq_some_iff, Option.some.injEq, Prod.mk.injEq] at h
    obtain ⟨terms, e0, at_, e1, op, e2, other, e3, rfl, rfl, rfl⟩ := h
    obtain rfl := dL_eq e0
    obtain rfl := dI_eq e1
    obtain rfl := dI_eq e2
    obtain rfl := dI_eq e3
    exact ⟨fn_contract (M := M_r26_first) rfl (tbl_ok (l1 := [(20, F_r26_bounding)]) (l2 := []) (l3 := []) (l4 := []) ⟨ok_r26_bounding, trivial⟩ trivial trivial trivial) Try.func19 (by kernel_rfl) N_r26_first 0 [.d] (fun hwf => r26_first_run (r26_first_spec terms at_ op other (wfArg hwf (a := .d (.v (.dat (U := Un) Ty.term terms))) (by simp)) (wfArg hwf (a := .d (.v (.s (.int .i64 at_)))) (by simp)) (wfArg hwf (a := .d (.v (.s (.int .i64 op)))) (by simp)) (wfArg hwf (a := .d (.v (.s (.int .i64 other)))) (by simp)))), hasBody_of Try.func19 (by kernel_rfl) (by kernel_rfl)⟩
  · simp at h


end
end Go.Proofs.Ytohpgnpjijpedaa.B
