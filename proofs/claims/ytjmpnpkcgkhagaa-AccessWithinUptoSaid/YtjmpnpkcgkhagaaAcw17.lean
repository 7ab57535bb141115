/- Part 17 of the proof: Saccess1. -/
import Derived.Test.YtjmpnpkcgkhagaaAcw16
namespace Go.Proofs.Ytjmpnpkcgkhagaa.B
open Go Go.RowKit
set_option maxRecDepth 100000
noncomputable section
attribute [local irreducible] awp ctxK itersK iterK retQ retGQ
def M_access_turned : Mc Un := mach (tbl []) (tbl []) (tbl []) (tbl []) (tbl [])
def N_access_turned : Nat → NS := fun l => (look l []).getD ⟨[], [], [], [], [], false⟩
def A_access_turned (r : Int) : List (A Un) := [.c (.s (.int .i64 r))]
def O_access_turned (_r : Int) : List (Ob Un) := []
theorem access_turned_in (op : Int) (K : List (A Un) → List (Ob Un) → Prop) :
    awp M_access_turned N_access_turned (bodyOf Try.f53) (entry Try.f53.ntmps 0 [.d (.v (.s (.int .i64 op)))]) (retQ M_access_turned Try.f53.results.toList [.d] K) =
(cnd (op == (13 : Int))
 (K (A_access_turned ((15 : Int))) (O_access_turned ((15 : Int))))
 (cnd (op == (14 : Int))
  (K (A_access_turned ((16 : Int))) (O_access_turned ((16 : Int))))
  (cnd (op == (15 : Int))
   (K (A_access_turned ((13 : Int))) (O_access_turned ((13 : Int))))
   (cnd (op == (16 : Int))
    (K (A_access_turned ((14 : Int))) (O_access_turned ((14 : Int))))
    (K (A_access_turned (op)) (O_access_turned (op))))))) := by kernel_rfl
def access_turned_fn (op : Int) : Option (Int) :=
  if (op == (13 : Int)) = true then
   some ((15 : Int))
  else
   if (op == (14 : Int)) = true then
    some ((16 : Int))
   else
    if (op == (15 : Int)) = true then
     some ((13 : Int))
    else
     if (op == (16 : Int)) = true then
      some ((14 : Int))
     else
      some (op)
theorem access_turned_run {op : Int} {r : Int} (h : access_turned_fn op = some r) : Runs (awp M_access_turned N_access_turned (bodyOf Try.f53) (entry Try.f53.ntmps 0 [.d (.v (.s (.int .i64 op)))]) (retQ M_access_turned Try.f53.results.toList [.d] fun rs os => rs = A_access_turned r ∧ os = O_access_turned r)) := by
  constructor
  rw [access_turned_in op (fun rs os => rs = A_access_turned r ∧ os = O_access_turned r)]
  unfold access_turned_fn at h
  rcases ite_some h with ⟨c1, h2⟩ | ⟨c1, h2⟩
  · cases h2
    exact (cnd_t c1 ⟨rfl, rfl⟩)
  · rcases ite_some h2 with ⟨c3, h4⟩ | ⟨c3, h4⟩
    · cases h4
      exact (cnd_f (bfalse c1) (cnd_t c3 ⟨rfl, rfl⟩))
    · rcases ite_some h4 with ⟨c5, h6⟩ | ⟨c5, h6⟩
      · cases h6
        exact (cnd_f (bfalse c1) (cnd_f (bfalse c3) (cnd_t c5 ⟨rfl, rfl⟩)))
      · rcases ite_some h6 with ⟨c7, h8⟩ | ⟨c7, h8⟩
        · cases h8
          exact (cnd_f (bfalse c1) (cnd_f (bfalse c3) (cnd_f (bfalse c5) (cnd_t c7 ⟨rfl, rfl⟩))))
        · cases h8
          exact (cnd_f (bfalse c1) (cnd_f (bfalse c3) (cnd_f (bfalse c5) (cnd_f (bfalse c7) ⟨rfl, rfl⟩))))
def access_turned (op : Int) : Int :=
  if (op == (13 : Int)) = true then
   ((15 : Int))
  else
   if (op == (14 : Int)) = true then
    ((16 : Int))
   else
    if (op == (15 : Int)) = true then
     ((13 : Int))
    else
     if (op == (16 : Int)) = true then
      ((14 : Int))
     else
      (op)
theorem access_turned_eq (op : Int) : access_turned_fn op = some (access_turned op) := by unfold access_turned_fn access_turned; repeat (first | rfl | split)
def F_access_turned : FnC Un := fun args => match args with
  | [x0] => (dI .i64 x0).bind fun op => some ([], A_access_turned (access_turned op), O_access_turned (access_turned op))
  | _ => none
theorem ok_access_turned : FnOK 53 F_access_turned := by
  intro args ob rs os h hob
  unfold F_access_turned at h
  split at h
  · simp only [Option.bind_eq_some_iff, Option.some.injEq, Prod.mk.injEq] at h
    obtain ⟨op, e0, rfl, rfl, rfl⟩ := h
    obtain rfl := dI_eq e0
    exact ⟨fn_contract (M := M_access_turned) rfl (tbl_ok (l1 := []) (l2 := []) (l3 := []) (l4 := []) (l5 := []) trivial trivial trivial trivial trivial) Try.func53 (by kernel_rfl) N_access_turned 0 [.d] (fun hwf => access_turned_run (access_turned_eq op)), hasBody_of Try.func53 (by kernel_rfl) (by kernel_rfl)⟩
  · simp at h
@[simp] theorem access_turned_spec (op : Int) : access_turned op = turnedI op := by
  unfold access_turned turnedI; simp only [beq_iff_eq]
def M_access_bounding : Mc Un := mach (tbl [(53, F_access_turned), (18, F_value_Right)]) (tbl []) (tbl []) (tbl []) (tbl [])
def N_access_bounding : Nat → NS := fun l => (look l []).getD ⟨[], [], [], [], [], false⟩
def A_access_bounding (r : Int × Val × Bool) : List (A Un) := [.c (.s (.int .i64 r.1)), .agg (encC Ty.val r.2.1), .c (.s (.bool r.2.2))]
def O_access_bounding (_r : Int × Val × Bool) : List (Ob Un) := []
theorem access_bounding_in (t : Term) (col : Int) (K : List (A Un) → List (Ob Un) → Prop) :
    awp M_access_bounding N_access_bounding (bodyOf Try.f33) (entry Try.f33.ntmps 0 [.d (.agg (enc Ty.term t)), .d (.v (.s (.int .i64 col)))]) (retQ M_access_bounding Try.f33.results.toList [.d, .d, .d] K) =
(cnd ((↑t.kids.length : Int) != (2 : Int))
 (K (A_access_bounding ((0 : Int), zeroVal, false)) (O_access_bounding ((0 : Int), zeroVal, false)))
 (cnd (t.op != (11 : Int))
  (cnd (decide (t.op < (13 : Int)))
   (K (A_access_bounding ((0 : Int), zeroVal, false)) (O_access_bounding ((0 : Int), zeroVal, false)))
   (cnd (decide (t.op > (16 : Int)))
    (K (A_access_bounding ((0 : Int), zeroVal, false)) (O_access_bounding ((0 : Int), zeroVal, false)))
    (((0 : Int) ≤ (0 : Int) ∧ (0 : Int) < (↑t.kids.length : Int)) ∧
    (((0 : Int) ≤ (1 : Int) ∧ (1 : Int) < (↑t.kids.length : Int)) ∧
    (cnd (Term.op (t.kids.getD 0 zeroTerm) == (1 : Int))
     (cnd (Term.op (t.kids.getD 1 zeroTerm) != (2 : Int))
      (K (A_access_bounding ((0 : Int), zeroVal, false)) (O_access_bounding ((0 : Int), zeroVal, false)))
      (cnd (Term.depth (t.kids.getD 1 zeroTerm) != (0 : Int))
       (K (A_access_bounding ((0 : Int), zeroVal, false)) (O_access_bounding ((0 : Int), zeroVal, false)))
       (cnd (Term.at_ (t.kids.getD 1 zeroTerm) != col)
        (K (A_access_bounding ((0 : Int), zeroVal, false)) (O_access_bounding ((0 : Int), zeroVal, false)))
        (cnd (Term.op (t.kids.getD 0 zeroTerm) != (1 : Int))
         (K (A_access_bounding ((0 : Int), zeroVal, false)) (O_access_bounding ((0 : Int), zeroVal, false)))
         (cnd ((Term.v (t.kids.getD 0 zeroTerm)).kind == (0 : Int))
          (K (A_access_bounding ((0 : Int), zeroVal, false)) (O_access_bounding ((0 : Int), zeroVal, false)))
          (cnd (!value_Right (Term.v (t.kids.getD 0 zeroTerm)))
           (K (A_access_bounding ((0 : Int), zeroVal, false)) (O_access_bounding ((0 : Int), zeroVal, false)))
           (K (A_access_bounding (access_turned t.op, Term.v (t.kids.getD 0 zeroTerm), true)) (O_access_bounding (access_turned t.op, Term.v (t.kids.getD 0 zeroTerm), true)))))))))
     (cnd (Term.op (t.kids.getD 0 zeroTerm) != (2 : Int))
      (K (A_access_bounding ((0 : Int), zeroVal, false)) (O_access_bounding ((0 : Int), zeroVal, false)))
      (cnd (Term.depth (t.kids.getD 0 zeroTerm) != (0 : Int))
       (K (A_access_bounding ((0 : Int), zeroVal, false)) (O_access_bounding ((0 : Int), zeroVal, false)))
       (cnd (Term.at_ (t.kids.getD 0 zeroTerm) != col)
        (K (A_access_bounding ((0 : Int), zeroVal, false)) (O_access_bounding ((0 : Int), zeroVal, false)))
        (cnd (Term.op (t.kids.getD 1 zeroTerm) != (1 : Int))
         (K (A_access_bounding ((0 : Int), zeroVal, false)) (O_access_bounding ((0 : Int), zeroVal, false)))
         (cnd ((Term.v (t.kids.getD 1 zeroTerm)).kind == (0 : Int))
          (K (A_access_bounding ((0 : Int), zeroVal, false)) (O_access_bounding ((0 : Int), zeroVal, false)))
          (cnd (!value_Right (Term.v (t.kids.getD 1 zeroTerm)))
           (K (A_access_bounding ((0 : Int), zeroVal, false)) (O_access_bounding ((0 : Int), zeroVal, false)))
           (K (A_access_bounding (t.op, Term.v (t.kids.getD 1 zeroTerm), true)) (O_access_bounding (t.op, Term.v (t.kids.getD 1 zeroTerm), true))))))))))))))
  (((0 : Int) ≤ (0 : Int) ∧ (0 : Int) < (↑t.kids.length : Int)) ∧
  (((0 : Int) ≤ (1 : Int) ∧ (1 : Int) < (↑t.kids.length : Int)) ∧
  (cnd (Term.op (t.kids.getD 0 zeroTerm) == (1 : Int))
   (cnd (Term.op (t.kids.getD 1 zeroTerm) != (2 : Int))
    (K (A_access_bounding ((0 : Int), zeroVal, false)) (O_access_bounding ((0 : Int), zeroVal, false)))
    (cnd (Term.depth (t.kids.getD 1 zeroTerm) != (0 : Int))
     (K (A_access_bounding ((0 : Int), zeroVal, false)) (O_access_bounding ((0 : Int), zeroVal, false)))
     (cnd (Term.at_ (t.kids.getD 1 zeroTerm) != col)
      (K (A_access_bounding ((0 : Int), zeroVal, false)) (O_access_bounding ((0 : Int), zeroVal, false)))
      (cnd (Term.op (t.kids.getD 0 zeroTerm) != (1 : Int))
       (K (A_access_bounding ((0 : Int), zeroVal, false)) (O_access_bounding ((0 : Int), zeroVal, false)))
       (cnd ((Term.v (t.kids.getD 0 zeroTerm)).kind == (0 : Int))
        (K (A_access_bounding ((0 : Int), zeroVal, false)) (O_access_bounding ((0 : Int), zeroVal, false)))
        (cnd (!value_Right (Term.v (t.kids.getD 0 zeroTerm)))
         (K (A_access_bounding ((0 : Int), zeroVal, false)) (O_access_bounding ((0 : Int), zeroVal, false)))
         (K (A_access_bounding (access_turned t.op, Term.v (t.kids.getD 0 zeroTerm), true)) (O_access_bounding (access_turned t.op, Term.v (t.kids.getD 0 zeroTerm), true)))))))))
   (cnd (Term.op (t.kids.getD 0 zeroTerm) != (2 : Int))
    (K (A_access_bounding ((0 : Int), zeroVal, false)) (O_access_bounding ((0 : Int), zeroVal, false)))
    (cnd (Term.depth (t.kids.getD 0 zeroTerm) != (0 : Int))
     (K (A_access_bounding ((0 : Int), zeroVal, false)) (O_access_bounding ((0 : Int), zeroVal, false)))
     (cnd (Term.at_ (t.kids.getD 0 zeroTerm) != col)
      (K (A_access_bounding ((0 : Int), zeroVal, false)) (O_access_bounding ((0 : Int), zeroVal, false)))
      (cnd (Term.op (t.kids.getD 1 zeroTerm) != (1 : Int))
       (K (A_access_bounding ((0 : Int), zeroVal, false)) (O_access_bounding ((0 : Int), zeroVal, false)))
       (cnd ((Term.v (t.kids.getD 1 zeroTerm)).kind == (0 : Int))
        (K (A_access_bounding ((0 : Int), zeroVal, false)) (O_access_bounding ((0 : Int), zeroVal, false)))
        (cnd (!value_Right (Term.v (t.kids.getD 1 zeroTerm)))
         (K (A_access_bounding ((0 : Int), zeroVal, false)) (O_access_bounding ((0 : Int), zeroVal, false)))
         (K (A_access_bounding (t.op, Term.v (t.kids.getD 1 zeroTerm), true)) (O_access_bounding (t.op, Term.v (t.kids.getD 1 zeroTerm), true)))))))))))))) := by kernel_rfl
def access_bounding_fn (t : Term) (col : Int) : Option (Int × Val × Bool) :=
  if ((↑t.kids.length : Int) != (2 : Int)) = true then
   some ((0 : Int), zeroVal, false)
  else
   if (t.op != (11 : Int)) = true then
    if (decide (t.op < (13 : Int))) = true then
     some ((0 : Int), zeroVal, false)
    else
     if (decide (t.op > (16 : Int))) = true then
      some ((0 : Int), zeroVal, false)
     else
      if (0 : Int) ≤ (0 : Int) ∧ (0 : Int) < (↑t.kids.length : Int) then
       if (0 : Int) ≤ (1 : Int) ∧ (1 : Int) < (↑t.kids.length : Int) then
        if (Term.op (t.kids.getD 0 zeroTerm) == (1 : Int)) = true then
         if (Term.op (t.kids.getD 1 zeroTerm) != (2 : Int)) = true then
          some ((0 : Int), zeroVal, false)
         else
          if (Term.depth (t.kids.getD 1 zeroTerm) != (0 : Int)) = true then
           some ((0 : Int), zeroVal, false)
          else
           if (Term.at_ (t.kids.getD 1 zeroTerm) != col) = true then
            some ((0 : Int), zeroVal, false)
           else
            if (Term.op (t.kids.getD 0 zeroTerm) != (1 : Int)) = true then
             some ((0 : Int), zeroVal, false)
            else
             if ((Term.v (t.kids.getD 0 zeroTerm)).kind == (0 : Int)) = true then
              some ((0 : Int), zeroVal, false)
             else
              if (!value_Right (Term.v (t.kids.getD 0 zeroTerm))) = true then
               some ((0 : Int), zeroVal, false)
              else
               some (access_turned t.op, Term.v (t.kids.getD 0 zeroTerm), true)
        else
         if (Term.op (t.kids.getD 0 zeroTerm) != (2 : Int)) = true then
          some ((0 : Int), zeroVal, false)
         else
          if (Term.depth (t.kids.getD 0 zeroTerm) != (0 : Int)) = true then
           some ((0 : Int), zeroVal, false)
          else
           if (Term.at_ (t.kids.getD 0 zeroTerm) != col) = true then
            some ((0 : Int), zeroVal, false)
           else
            if (Term.op (t.kids.getD 1 zeroTerm) != (1 : Int)) = true then
             some ((0 : Int), zeroVal, false)
            else
             if ((Term.v (t.kids.getD 1 zeroTerm)).kind == (0 : Int)) = true then
              some ((0 : Int), zeroVal, false)
             else
              if (!value_Right (Term.v (t.kids.getD 1 zeroTerm))) = true then
               some ((0 : Int), zeroVal, false)
              else
               some (t.op, Term.v (t.kids.getD 1 zeroTerm), true)
       else none
      else none
   else
    if (0 : Int) ≤ (0 : Int) ∧ (0 : Int) < (↑t.kids.length : Int) then
     if (0 : Int) ≤ (1 : Int) ∧ (1 : Int) < (↑t.kids.length : Int) then
      if (Term.op (t.kids.getD 0 zeroTerm) == (1 : Int)) = true then
       if (Term.op (t.kids.getD 1 zeroTerm) != (2 : Int)) = true then
        some ((0 : Int), zeroVal, false)
       else
        if (Term.depth (t.kids.getD 1 zeroTerm) != (0 : Int)) = true then
         some ((0 : Int), zeroVal, false)
        else
         if (Term.at_ (t.kids.getD 1 zeroTerm) != col) = true then
          some ((0 : Int), zeroVal, false)
         else
          if (Term.op (t.kids.getD 0 zeroTerm) != (1 : Int)) = true then
           some ((0 : Int), zeroVal, false)
          else
           if ((Term.v (t.kids.getD 0 zeroTerm)).kind == (0 : Int)) = true then
            some ((0 : Int), zeroVal, false)
           else
            if (!value_Right (Term.v (t.kids.getD 0 zeroTerm))) = true then
             some ((0 : Int), zeroVal, false)
            else
             some (access_turned t.op, Term.v (t.kids.getD 0 zeroTerm), true)
      else
       if (Term.op (t.kids.getD 0 zeroTerm) != (2 : Int)) = true then
        some ((0 : Int), zeroVal, false)
       else
        if (Term.depth (t.kids.getD 0 zeroTerm) != (0 : Int)) = true then
         some ((0 : Int), zeroVal, false)
        else
         if (Term.at_ (t.kids.getD 0 zeroTerm) != col) = true then
          some ((0 : Int), zeroVal, false)
         else
          if (Term.op (t.kids.getD 1 zeroTerm) != (1 : Int)) = true then
           some ((0 : Int), zeroVal, false)
          else
           if ((Term.v (t.kids.getD 1 zeroTerm)).kind == (0 : Int)) = true then
            some ((0 : Int), zeroVal, false)
           else
            if (!value_Right (Term.v (t.kids.getD 1 zeroTerm))) = true then
             some ((0 : Int), zeroVal, false)
            else
             some (t.op, Term.v (t.kids.getD 1 zeroTerm), true)
     else none
    else none
theorem access_bounding_run {t : Term} {col : Int} {r : Int × Val × Bool} (h : access_bounding_fn t col = some r) : Runs (awp M_access_bounding N_access_bounding (bodyOf Try.f33) (entry Try.f33.ntmps 0 [.d (.agg (enc Ty.term t)), .d (.v (.s (.int .i64 col)))]) (retQ M_access_bounding Try.f33.results.toList [.d, .d, .d] fun rs os => rs = A_access_bounding r ∧ os = O_access_bounding r)) := by
  constructor
  rw [access_bounding_in t col (fun rs os => rs = A_access_bounding r ∧ os = O_access_bounding r)]
  unfold access_bounding_fn at h
  rcases ite_some h with ⟨c1, h2⟩ | ⟨c1, h2⟩
  · cases h2
    exact (cnd_t c1 ⟨rfl, rfl⟩)
  · rcases ite_some h2 with ⟨c3, h4⟩ | ⟨c3, h4⟩
    · rcases ite_some h4 with ⟨c5, h6⟩ | ⟨c5, h6⟩
      · cases h6
        exact (cnd_f (bfalse c1) (cnd_t c3 (cnd_t c5 ⟨rfl, rfl⟩)))
      · rcases ite_some h6 with ⟨c7, h8⟩ | ⟨c7, h8⟩
        · cases h8
          exact (cnd_f (bfalse c1) (cnd_t c3 (cnd_f (bfalse c5) (cnd_t c7 ⟨rfl, rfl⟩))))
        · obtain ⟨c9, h10⟩ := ob_some h8
          obtain ⟨c11, h12⟩ := ob_some h10
          rcases ite_some h12 with ⟨c13, h14⟩ | ⟨c13, h14⟩
          · rcases ite_some h14 with ⟨c15, h16⟩ | ⟨c15, h16⟩
            · cases h16
              exact (cnd_f (bfalse c1) (cnd_t c3 (cnd_f (bfalse c5) (cnd_f (bfalse c7) (And.intro c9 (And.intro c11 (cnd_t c13 (cnd_t c15 ⟨rfl, rfl⟩))))))))
            · rcases ite_some h16 with ⟨c17, h18⟩ | ⟨c17, h18⟩
              · cases h18
                exact (cnd_f (bfalse c1) (cnd_t c3 (cnd_f (bfalse c5) (cnd_f (bfalse c7) (And.intro c9 (And.intro c11 (cnd_t c13 (cnd_f (bfalse c15) (cnd_t c17 ⟨rfl, rfl⟩)))))))))
              · rcases ite_some h18 with ⟨c19, h20⟩ | ⟨c19, h20⟩
                · cases h20
                  exact (cnd_f (bfalse c1) (cnd_t c3 (cnd_f (bfalse c5) (cnd_f (bfalse c7) (And.intro c9 (And.intro c11 (cnd_t c13 (cnd_f (bfalse c15) (cnd_f (bfalse c17) (cnd_t c19 ⟨rfl, rfl⟩))))))))))
                · rcases ite_some h20 with ⟨c21, h22⟩ | ⟨c21, h22⟩
                  · cases h22
                    exact (cnd_f (bfalse c1) (cnd_t c3 (cnd_f (bfalse c5) (cnd_f (bfalse c7) (And.intro c9 (And.intro c11 (cnd_t c13 (cnd_f (bfalse c15) (cnd_f (bfalse c17) (cnd_f (bfalse c19) (cnd_t c21 ⟨rfl, rfl⟩)))))))))))
                  · rcases ite_some h22 with ⟨c23, h24⟩ | ⟨c23, h24⟩
                    · cases h24
                      exact (cnd_f (bfalse c1) (cnd_t c3 (cnd_f (bfalse c5) (cnd_f (bfalse c7) (And.intro c9 (And.intro c11 (cnd_t c13 (cnd_f (bfalse c15) (cnd_f (bfalse c17) (cnd_f (bfalse c19) (cnd_f (bfalse c21) (cnd_t c23 ⟨rfl, rfl⟩))))))))))))
                    · rcases ite_some h24 with ⟨c25, h26⟩ | ⟨c25, h26⟩
                      · cases h26
                        exact (cnd_f (bfalse c1) (cnd_t c3 (cnd_f (bfalse c5) (cnd_f (bfalse c7) (And.intro c9 (And.intro c11 (cnd_t c13 (cnd_f (bfalse c15) (cnd_f (bfalse c17) (cnd_f (bfalse c19) (cnd_f (bfalse c21) (cnd_f (bfalse c23) (cnd_t c25 ⟨rfl, rfl⟩)))))))))))))
                      · cases h26
                        exact (cnd_f (bfalse c1) (cnd_t c3 (cnd_f (bfalse c5) (cnd_f (bfalse c7) (And.intro c9 (And.intro c11 (cnd_t c13 (cnd_f (bfalse c15) (cnd_f (bfalse c17) (cnd_f (bfalse c19) (cnd_f (bfalse c21) (cnd_f (bfalse c23) (cnd_f (bfalse c25) ⟨rfl, rfl⟩)))))))))))))
          · rcases ite_some h14 with ⟨c27, h28⟩ | ⟨c27, h28⟩
            · cases h28
              exact (cnd_f (bfalse c1) (cnd_t c3 (cnd_f (bfalse c5) (cnd_f (bfalse c7) (And.intro c9 (And.intro c11 (cnd_f (bfalse c13) (cnd_t c27 ⟨rfl, rfl⟩))))))))
            · rcases ite_some h28 with ⟨c29, h30⟩ | ⟨c29, h30⟩
              · cases h30
                exact (cnd_f (bfalse c1) (cnd_t c3 (cnd_f (bfalse c5) (cnd_f (bfalse c7) (And.intro c9 (And.intro c11 (cnd_f (bfalse c13) (cnd_f (bfalse c27) (cnd_t c29 ⟨rfl, rfl⟩)))))))))
              · rcases ite_some h30 with ⟨c31, h32⟩ | ⟨c31, h32⟩
                · cases h32
                  exact (cnd_f (bfalse c1) (cnd_t c3 (cnd_f (bfalse c5) (cnd_f (bfalse c7) (And.intro c9 (And.intro c11 (cnd_f (bfalse c13) (cnd_f (bfalse c27) (cnd_f (bfalse c29) (cnd_t c31 ⟨rfl, rfl⟩))))))))))
                · rcases ite_some h32 with ⟨c33, h34⟩ | ⟨c33, h34⟩
                  · cases h34
                    exact (cnd_f (bfalse c1) (cnd_t c3 (cnd_f (bfalse c5) (cnd_f (bfalse c7) (And.intro c9 (And.intro c11 (cnd_f (bfalse c13) (cnd_f (bfalse c27) (cnd_f (bfalse c29) (cnd_f (bfalse c31) (cnd_t c33 ⟨rfl, rfl⟩)))))))))))
                  · rcases ite_some h34 with ⟨c35, h36⟩ | ⟨c35, h36⟩
                    · cases h36
                      exact (cnd_f (bfalse c1) (cnd_t c3 (cnd_f (bfalse c5) (cnd_f (bfalse c7) (And.intro c9 (And.intro c11 (cnd_f (bfalse c13) (cnd_f (bfalse c27) (cnd_f (bfalse c29) (cnd_f (bfalse c31) (cnd_f (bfalse c33) (cnd_t c35 ⟨rfl, rfl⟩))))))))))))
                    · rcases ite_some h36 with ⟨c37, h38⟩ | ⟨c37, h38⟩
                      · cases h38
                        exact (cnd_f (bfalse c1) (cnd_t c3 (cnd_f (bfalse c5) (cnd_f (bfalse c7) (And.intro c9 (And.intro c11 (cnd_f (bfalse c13) (cnd_f (bfalse c27) (cnd_f (bfalse c29) (cnd_f (bfalse c31) (cnd_f (bfalse c33) (cnd_f (bfalse c35) (cnd_t c37 ⟨rfl, rfl⟩)))))))))))))
                      · cases h38
                        exact (cnd_f (bfalse c1) (cnd_t c3 (cnd_f (bfalse c5) (cnd_f (bfalse c7) (And.intro c9 (And.intro c11 (cnd_f (bfalse c13) (cnd_f (bfalse c27) (cnd_f (bfalse c29) (cnd_f (bfalse c31) (cnd_f (bfalse c33) (cnd_f (bfalse c35) (cnd_f (bfalse c37) ⟨rfl, rfl⟩)))))))))))))
    · obtain ⟨c39, h40⟩ := ob_some h4
      obtain ⟨c41, h42⟩ := ob_some h40
      rcases ite_some h42 with ⟨c43, h44⟩ | ⟨c43, h44⟩
      · rcases ite_some h44 with ⟨c45, h46⟩ | ⟨c45, h46⟩
        · cases h46
          exact (cnd_f (bfalse c1) (cnd_f (bfalse c3) (And.intro c39 (And.intro c41 (cnd_t c43 (cnd_t c45 ⟨rfl, rfl⟩))))))
        · rcases ite_some h46 with ⟨c47, h48⟩ | ⟨c47, h48⟩
          · cases h48
            exact (cnd_f (bfalse c1) (cnd_f (bfalse c3) (And.intro c39 (And.intro c41 (cnd_t c43 (cnd_f (bfalse c45) (cnd_t c47 ⟨rfl, rfl⟩)))))))
          · rcases ite_some h48 with ⟨c49, h50⟩ | ⟨c49, h50⟩
            · cases h50
              exact (cnd_f (bfalse c1) (cnd_f (bfalse c3) (And.intro c39 (And.intro c41 (cnd_t c43 (cnd_f (bfalse c45) (cnd_f (bfalse c47) (cnd_t c49 ⟨rfl, rfl⟩))))))))
            · rcases ite_some h50 with ⟨c51, h52⟩ | ⟨c51, h52⟩
              · cases h52
                exact (cnd_f (bfalse c1) (cnd_f (bfalse c3) (And.intro c39 (And.intro c41 (cnd_t c43 (cnd_f (bfalse c45) (cnd_f (bfalse c47) (cnd_f (bfalse c49) (cnd_t c51 ⟨rfl, rfl⟩)))))))))
              · rcases ite_some h52 with ⟨c53, h54⟩ | ⟨c53, h54⟩
                · cases h54
                  exact (cnd_f (bfalse c1) (cnd_f (bfalse c3) (And.intro c39 (And.intro c41 (cnd_t c43 (cnd_f (bfalse c45) (cnd_f (bfalse c47) (cnd_f (bfalse c49) (cnd_f (bfalse c51) (cnd_t c53 ⟨rfl, rfl⟩))))))))))
                · rcases ite_some h54 with ⟨c55, h56⟩ | ⟨c55, h56⟩
                  · cases h56
                    exact (cnd_f (bfalse c1) (cnd_f (bfalse c3) (And.intro c39 (And.intro c41 (cnd_t c43 (cnd_f (bfalse c45) (cnd_f (bfalse c47) (cnd_f (bfalse c49) (cnd_f (bfalse c51) (cnd_f (bfalse c53) (cnd_t c55 ⟨rfl, rfl⟩)))))))))))
                  · cases h56
                    exact (cnd_f (bfalse c1) (cnd_f (bfalse c3) (And.intro c39 (And.intro c41 (cnd_t c43 (cnd_f (bfalse c45) (cnd_f (bfalse c47) (cnd_f (bfalse c49) (cnd_f (bfalse c51) (cnd_f (bfalse c53) (cnd_f (bfalse c55) ⟨rfl, rfl⟩)))))))))))
      · rcases ite_some h44 with ⟨c57, h58⟩ | ⟨c57, h58⟩
        · cases h58
          exact (cnd_f (bfalse c1) (cnd_f (bfalse c3) (And.intro c39 (And.intro c41 (cnd_f (bfalse c43) (cnd_t c57 ⟨rfl, rfl⟩))))))
        · rcases ite_some h58 with ⟨c59, h60⟩ | ⟨c59, h60⟩
          · cases h60
            exact (cnd_f (bfalse c1) (cnd_f (bfalse c3) (And.intro c39 (And.intro c41 (cnd_f (bfalse c43) (cnd_f (bfalse c57) (cnd_t c59 ⟨rfl, rfl⟩)))))))
          · rcases ite_some h60 with ⟨c61, h62⟩ | ⟨c61, h62⟩
            · cases h62
              exact (cnd_f (bfalse c1) (cnd_f (bfalse c3) (And.intro c39 (And.intro c41 (cnd_f (bfalse c43) (cnd_f (bfalse c57) (cnd_f (bfalse c59) (cnd_t c61 ⟨rfl, rfl⟩))))))))
            · rcases ite_some h62 with ⟨c63, h64⟩ | ⟨c63, h64⟩
              · cases h64
                exact (cnd_f (bfalse c1) (cnd_f (bfalse c3) (And.intro c39 (And.intro c41 (cnd_f (bfalse c43) (cnd_f (bfalse c57) (cnd_f (bfalse c59) (cnd_f (bfalse c61) (cnd_t c63 ⟨rfl, rfl⟩)))))))))
              · rcases ite_some h64 with ⟨c65, h66⟩ | ⟨c65, h66⟩
                · cases h66
                  exact (cnd_f (bfalse c1) (cnd_f (bfalse c3) (And.intro c39 (And.intro c41 (cnd_f (bfalse c43) (cnd_f (bfalse c57) (cnd_f (bfalse c59) (cnd_f (bfalse c61) (cnd_f (bfalse c63) (cnd_t c65 ⟨rfl, rfl⟩))))))))))
                · rcases ite_some h66 with ⟨c67, h68⟩ | ⟨c67, h68⟩
                  · cases h68
                    exact (cnd_f (bfalse c1) (cnd_f (bfalse c3) (And.intro c39 (And.intro c41 (cnd_f (bfalse c43) (cnd_f (bfalse c57) (cnd_f (bfalse c59) (cnd_f (bfalse c61) (cnd_f (bfalse c63) (cnd_f (bfalse c65) (cnd_t c67 ⟨rfl, rfl⟩)))))))))))
                  · cases h68
                    exact (cnd_f (bfalse c1) (cnd_f (bfalse c3) (And.intro c39 (And.intro c41 (cnd_f (bfalse c43) (cnd_f (bfalse c57) (cnd_f (bfalse c59) (cnd_f (bfalse c61) (cnd_f (bfalse c63) (cnd_f (bfalse c65) (cnd_f (bfalse c67) ⟨rfl, rfl⟩)))))))))))
def access_bounding (t : Term) (col : Int) : Int × Val × Bool := match bndT t col with | some (op, v) => (op, v, true) | none => (0, zeroVal, false)
theorem access_bounding_spec (t : Term) (col : Int) (_ht : WS .term t) (_hc : WI col) : access_bounding_fn t col = some (access_bounding t col) := by
  unfold access_bounding bndT
  by_cases hl : t.kids.length = 2
  · have h0 : (0 : Int) < (t.kids.length : Int) := by omega
    have h1 : (1 : Int) < (t.kids.length : Int) := by omega
    have hl' : ((t.kids.length : Int) != 2) = false := by simp; omega
    unfold access_bounding_fn
    simp only [hl', h0, h1, Bool.false_eq_true, if_false, Int.le_refl, and_self, if_true, show (0 : Int) ≤ 1 from by decide, true_and, show Int.toNat 0 = 0 from rfl, show Int.toNat 1 = 1 from rfl, access_turned_spec, value_Right_eq, show Un.dflt Ty.term = zeroTerm from rfl, hl, decide_true, Bool.and_true]
    unfold sides boundsB compB
    generalize t.kids.getD 0 zeroTerm = a
    generalize t.kids.getD 1 zeroTerm = b
    generalize t.op = op
    simp only [beq_iff_eq, bne_iff_ne, ne_eq, ite_not, decide_eq_true_eq]
    by_cases c0 : op = 11
    · by_cases ca : a.op = 1
      · by_cases c1 : b.op = 2 <;> by_cases c2 : b.depth = 0 <;> by_cases c3 : b.at_ = col <;> by_cases c4 : a.v.kind = 0 <;> by_cases c5 : rightV a.v = true <;> simp [c0, ca, c1, c2, c3, c4, c5, zeroVal]
      · by_cases c1 : a.op = 2 <;> by_cases c2 : a.depth = 0 <;> by_cases c3 : a.at_ = col <;> by_cases c4 : b.v.kind = 0 <;> by_cases c5 : rightV b.v = true <;> by_cases c6 : b.op = 1 <;> simp [c0, ca, c1, c2, c3, c4, c5, c6, zeroVal]
    · by_cases d1 : op < 13
      · simp [c0, d1, show ¬ 13 ≤ op from by omega, zeroVal]
      · by_cases d2 : op > 16
        · simp [c0, d1, d2, show ¬ op ≤ 16 from by omega, zeroVal]
        · by_cases ca : a.op = 1
          · by_cases c1 : b.op = 2 <;> by_cases c2 : b.depth = 0 <;> by_cases c3 : b.at_ = col <;> by_cases c4 : a.v.kind = 0 <;> by_cases c5 : rightV a.v = true <;> simp [c0, d1, d2, show 13 ≤ op from by omega, show op ≤ 16 from by omega, ca, c1, c2, c3, c4, c5, zeroVal]
          · by_cases c1 : a.op = 2 <;> by_cases c2 : a.depth = 0 <;> by_cases c3 : a.at_ = col <;> by_cases c4 : b.v.kind = 0 <;> by_cases c5 : rightV b.v = true <;> by_cases c6 : b.op = 1 <;> simp [c0, d1, d2, show 13 ≤ op from by omega, show op ≤ 16 from by omega, ca, c1, c2, c3, c4, c5, c6, zeroVal]
  · have hl' : ((t.kids.length : Int) != 2) = true := by simp; omega
    unfold access_bounding_fn
    simp [hl', hl, zeroVal]
def F_access_bounding : FnC Un := fun args => match args with
  | [x0, x1] => (dS .term x0).bind fun t => (dI .i64 x1).bind fun col => some ([], A_access_bounding (access_bounding t col), O_access_bounding (access_bounding t col))
  | _ => none
theorem ok_access_bounding : FnOK 33 F_access_bounding := by
  intro args ob rs os h hob
  unfold F_access_bounding at h
  split at h
  · simp only [Option.bind_eq_some_iff, Option.some.injEq, Prod.mk.injEq] at h
    obtain ⟨t, e0, col, e1, rfl, rfl, rfl⟩ := h
    obtain rfl := dS_eq e0
    obtain rfl := dI_eq e1
    exact ⟨fn_contract (M := M_access_bounding) rfl (tbl_ok (l1 := [(53, F_access_turned), (18, F_value_Right)]) (l2 := []) (l3 := []) (l4 := []) (l5 := []) ⟨ok_access_turned, ok_value_Right, trivial⟩ trivial trivial trivial trivial) Try.func33 (by kernel_rfl) N_access_bounding 0 [.d, .d, .d] (fun hwf => access_bounding_run (access_bounding_spec t col (wfArg hwf (a := .d (.agg (enc Ty.term t))) (List.mem_of_getElem? (i := 0) rfl)) (wfArg hwf (a := .d (.v (.s (.int .i64 col)))) (List.mem_of_getElem? (i := 1) rfl)))), hasBody_of Try.func33 (by kernel_rfl) (by kernel_rfl)⟩
  · simp at h
def M_access_first : Mc Un := mach (tbl [(33, F_access_bounding)]) (tbl []) (tbl []) (tbl []) (tbl [])
def N_access_first : Nat → NS := fun l => (look l [(2, { ts := [false, true, true, true, false, false, false, false, true, true, true, false, false, false, false, false, true, true, true, false, false, false, false, false, false, false, false, false, false, false, false, false, false, false, false, false, false, false, false, false, false, false, false, false, false, false], bs := [false, false, false, false, false, false, false, false, false, false, true, false, false, false, false, false, false, false, false, false, false, false, false, false, false, false, false, false, false, false, false, false, false, false, false, false, false, false, false, false, false, false, false, false, false, false], nm := [], gb := [10], gs := [] })]).getD ⟨[], [], [], [], [], false⟩
def A_access_first (r : Int × Int × Val) : List (A Un) := [.c (.s (.int .i64 r.1)), .c (.s (.int .i64 r.2.1)), .agg (encC Ty.val r.2.2)]
def O_access_first (_r : Int × Int × Val) : List (Ob Un) := []
def access_first_s2 (terms : List Term) (col : Int) (one : Int) (other : Int) (b10 : Val) (v0 : Int) : S Un := (st 46 46 184 0 [(1, AV.one (A.c (C.s (Value.int IntKind.i64 col)))), (2, AV.one (A.c (C.s (Value.int IntKind.i64 one)))), (3, AV.one (A.c (C.s (Value.int IntKind.i64 other)))), (8, AV.one (A.c (C.s (Value.int IntKind.i64 (0 : Int))))), (9, AV.one (A.c (C.s (Value.int IntKind.i64 (0 : Int))))), (10, AV.one (A.c (C.bx (10 : Nat) (0 : Nat)))), (16, AV.one (A.c (C.sl Ty.term terms false))), (17, AV.one (A.c (C.s (Value.int IntKind.i64 (↑terms.length : Int))))), (18, AV.one (A.c (C.s (Value.int IntKind.i64 v0))))] [(10, some (false, encC Ty.val (b10)))] [])
def access_first_e2_ret (terms : List Term) (col : Int) (one : Int) (other : Int) (b10 : Val) (v0 : Int) (v1 : Int) (v2 : Int) : S Un := (st 46 46 184 0 [(1, AV.one (A.c (C.s (Value.int IntKind.i64 col)))), (2, AV.one (A.c (C.s (Value.int IntKind.i64 one)))), (3, AV.one (A.c (C.s (Value.int IntKind.i64 other)))), (8, AV.one (A.c (C.s (Value.int IntKind.i64 v1)))), (9, AV.one (A.c (C.s (Value.int IntKind.i64 v2)))), (10, AV.one (A.c (C.bx (10 : Nat) (0 : Nat)))), (16, AV.one (A.c (C.sl Ty.term terms false))), (17, AV.one (A.c (C.s (Value.int IntKind.i64 (↑terms.length : Int))))), (18, AV.one (A.c (C.s (Value.int IntKind.i64 v0))))] [(10, some (false, encC Ty.val (b10)))] [])
theorem access_first_in (terms : List Term) (col : Int) (one : Int) (other : Int) (K : List (A Un) → List (Ob Un) → Prop) :
    awp M_access_first N_access_first (bodyOf Try.f23) (entry Try.f23.ntmps 0 [.d (.v (.dat (U := Un) Ty.term terms)), .d (.v (.s (.int .i64 col))), .d (.v (.s (.int .i64 one))), .d (.v (.s (.int .i64 other)))]) (retQ M_access_first Try.f23.results.toList [.d, .d, .d] K) =
(itersK (N_access_first 2) (awp M_access_first N_access_first (sub (bodyOf Try.f23) [1, 0, 1, 2, 2])) (ctxK M_access_first N_access_first (bodyOf Try.f23) [1, 0, 1, 2] (retQ M_access_first Try.f23.results.toList [.d, .d, .d] K)) (access_first_s2 terms col one other zeroVal (0 : Int))) := by kernel_rfl
theorem access_first_l2_raw (terms : List Term) (col : Int) (one : Int) (other : Int) (b10 : Val) (v0 : Int) (k : Nat) (Q : Exit → S Un → Prop) :
    iterK (N_access_first 2) (awp M_access_first N_access_first (sub (bodyOf Try.f23) [1, 0, 1, 2, 2])) Q (k + 1) (access_first_s2 terms col one other b10 v0) =
(cnd (decide (v0 < (↑terms.length : Int)))
 (((0 : Int) ≤ v0 ∧ v0 < (↑terms.length : Int)) ∧
 (cnd ((access_bounding (Term.mk (Term.op (terms.getD v0.toNat zeroTerm)) (Term.v (terms.getD v0.toNat zeroTerm)) (Term.depth (terms.getD v0.toNat zeroTerm)) (Term.at_ (terms.getD v0.toNat zeroTerm)) (Term.name (terms.getD v0.toNat zeroTerm)) (Term.kids (terms.getD v0.toNat zeroTerm)) (Term.sub (terms.getD v0.toNat zeroTerm)) (Term.type (terms.getD v0.toNat zeroTerm))) col).snd.snd)
  (cnd ((access_bounding (Term.mk (Term.op (terms.getD v0.toNat zeroTerm)) (Term.v (terms.getD v0.toNat zeroTerm)) (Term.depth (terms.getD v0.toNat zeroTerm)) (Term.at_ (terms.getD v0.toNat zeroTerm)) (Term.name (terms.getD v0.toNat zeroTerm)) (Term.kids (terms.getD v0.toNat zeroTerm)) (Term.sub (terms.getD v0.toNat zeroTerm)) (Term.type (terms.getD v0.toNat zeroTerm))) col).fst == one)
   (Q .ret (access_first_e2_ret terms col one other ((access_bounding (Term.mk (Term.op (terms.getD v0.toNat zeroTerm)) (Term.v (terms.getD v0.toNat zeroTerm)) (Term.depth (terms.getD v0.toNat zeroTerm)) (Term.at_ (terms.getD v0.toNat zeroTerm)) (Term.name (terms.getD v0.toNat zeroTerm)) (Term.kids (terms.getD v0.toNat zeroTerm)) (Term.sub (terms.getD v0.toNat zeroTerm)) (Term.type (terms.getD v0.toNat zeroTerm))) col).snd.fst) v0 v0 ((access_bounding (Term.mk (Term.op (terms.getD v0.toNat zeroTerm)) (Term.v (terms.getD v0.toNat zeroTerm)) (Term.depth (terms.getD v0.toNat zeroTerm)) (Term.at_ (terms.getD v0.toNat zeroTerm)) (Term.name (terms.getD v0.toNat zeroTerm)) (Term.kids (terms.getD v0.toNat zeroTerm)) (Term.sub (terms.getD v0.toNat zeroTerm)) (Term.type (terms.getD v0.toNat zeroTerm))) col).fst)))
   (cnd ((access_bounding (Term.mk (Term.op (terms.getD v0.toNat zeroTerm)) (Term.v (terms.getD v0.toNat zeroTerm)) (Term.depth (terms.getD v0.toNat zeroTerm)) (Term.at_ (terms.getD v0.toNat zeroTerm)) (Term.name (terms.getD v0.toNat zeroTerm)) (Term.kids (terms.getD v0.toNat zeroTerm)) (Term.sub (terms.getD v0.toNat zeroTerm)) (Term.type (terms.getD v0.toNat zeroTerm))) col).fst == other)
    (Q .ret (access_first_e2_ret terms col one other ((access_bounding (Term.mk (Term.op (terms.getD v0.toNat zeroTerm)) (Term.v (terms.getD v0.toNat zeroTerm)) (Term.depth (terms.getD v0.toNat zeroTerm)) (Term.at_ (terms.getD v0.toNat zeroTerm)) (Term.name (terms.getD v0.toNat zeroTerm)) (Term.kids (terms.getD v0.toNat zeroTerm)) (Term.sub (terms.getD v0.toNat zeroTerm)) (Term.type (terms.getD v0.toNat zeroTerm))) col).snd.fst) v0 v0 ((access_bounding (Term.mk (Term.op (terms.getD v0.toNat zeroTerm)) (Term.v (terms.getD v0.toNat zeroTerm)) (Term.depth (terms.getD v0.toNat zeroTerm)) (Term.at_ (terms.getD v0.toNat zeroTerm)) (Term.name (terms.getD v0.toNat zeroTerm)) (Term.kids (terms.getD v0.toNat zeroTerm)) (Term.sub (terms.getD v0.toNat zeroTerm)) (Term.type (terms.getD v0.toNat zeroTerm))) col).fst)))
    (iterK (N_access_first 2) (awp M_access_first N_access_first (sub (bodyOf Try.f23) [1, 0, 1, 2, 2])) Q k (access_first_s2 terms col one other b10 (IntKind.i64.wrap (v0 + (1 : Int)))))))
  (iterK (N_access_first 2) (awp M_access_first N_access_first (sub (bodyOf Try.f23) [1, 0, 1, 2, 2])) Q k (access_first_s2 terms col one other b10 (IntKind.i64.wrap (v0 + (1 : Int)))))))
 (Q (.exit 0) (access_first_s2 terms col one other b10 v0))) := by kernel_rfl
theorem access_first_l2 (terms : List Term) (col : Int) (one : Int) (other : Int) (b10 : Val) (v0 : Int) (k : Nat) (Q : Exit → S Un → Prop) :
    iterK (N_access_first 2) (awp M_access_first N_access_first (sub (bodyOf Try.f23) [1, 0, 1, 2, 2])) Q (k + 1) (access_first_s2 terms col one other b10 v0) =
(cnd (decide (v0 < (↑terms.length : Int)))
 (((0 : Int) ≤ v0 ∧ v0 < (↑terms.length : Int)) ∧
 (cnd ((access_bounding (terms.getD v0.toNat zeroTerm) col).snd.snd)
  (cnd ((access_bounding (terms.getD v0.toNat zeroTerm) col).fst == one)
   (Q .ret (access_first_e2_ret terms col one other ((access_bounding (terms.getD v0.toNat zeroTerm) col).snd.fst) v0 v0 ((access_bounding (terms.getD v0.toNat zeroTerm) col).fst)))
   (cnd ((access_bounding (terms.getD v0.toNat zeroTerm) col).fst == other)
    (Q .ret (access_first_e2_ret terms col one other ((access_bounding (terms.getD v0.toNat zeroTerm) col).snd.fst) v0 v0 ((access_bounding (terms.getD v0.toNat zeroTerm) col).fst)))
    (iterK (N_access_first 2) (awp M_access_first N_access_first (sub (bodyOf Try.f23) [1, 0, 1, 2, 2])) Q k (access_first_s2 terms col one other b10 (IntKind.i64.wrap (v0 + (1 : Int)))))))
  (iterK (N_access_first 2) (awp M_access_first N_access_first (sub (bodyOf Try.f23) [1, 0, 1, 2, 2])) Q k (access_first_s2 terms col one other b10 (IntKind.i64.wrap (v0 + (1 : Int)))))))
 (Q (.exit 0) (access_first_s2 terms col one other b10 v0))) :=
  (access_first_l2_raw terms col one other b10 v0 k Q).trans (by simp only [Term.eta])
theorem access_first_a2_ret (terms : List Term) (col : Int) (one : Int) (other : Int) (b10 : Val) (v0 : Int) (v1 : Int) (v2 : Int) (K : List (A Un) → List (Ob Un) → Prop) :
    ctxK M_access_first N_access_first (bodyOf Try.f23) [1, 0, 1, 2] (retQ M_access_first Try.f23.results.toList [.d, .d, .d] K) .ret (access_first_e2_ret terms col one other b10 v0 v1 v2) =
(K (A_access_first (v1, v2, b10)) (O_access_first (v1, v2, b10))) := by kernel_rfl
theorem access_first_a2_x0 (terms : List Term) (col : Int) (one : Int) (other : Int) (b10 : Val) (v0 : Int) (K : List (A Un) → List (Ob Un) → Prop) :
    ctxK M_access_first N_access_first (bodyOf Try.f23) [1, 0, 1, 2] (retQ M_access_first Try.f23.results.toList [.d, .d, .d] K) (.exit 0) (access_first_s2 terms col one other b10 v0) =
(K (A_access_first ((-1 : Int), (0 : Int), zeroVal)) (O_access_first ((-1 : Int), (0 : Int), zeroVal))) := by kernel_rfl
def access_first_S2 (terms : List Term) (col : Int) (one : Int) (other : Int) (v : Val × Int) : Option ((Val × Int) ⊕ ((Val × Int × Int × Int) ⊕ (Val × Int))) :=
  if (decide (v.2 < (↑terms.length : Int))) = true then
   if (0 : Int) ≤ v.2 ∧ v.2 < (↑terms.length : Int) then
    if ((access_bounding (terms.getD v.2.toNat zeroTerm) col).snd.snd) = true then
     if ((access_bounding (terms.getD v.2.toNat zeroTerm) col).fst == one) = true then
      some (.inr (.inl (((access_bounding (terms.getD v.2.toNat zeroTerm) col).snd.fst), v.2, v.2, ((access_bounding (terms.getD v.2.toNat zeroTerm) col).fst))))
     else
      if ((access_bounding (terms.getD v.2.toNat zeroTerm) col).fst == other) = true then
       some (.inr (.inl (((access_bounding (terms.getD v.2.toNat zeroTerm) col).snd.fst), v.2, v.2, ((access_bounding (terms.getD v.2.toNat zeroTerm) col).fst))))
      else
       some (.inl (v.1, (IntKind.i64.wrap (v.2 + (1 : Int)))))
    else
     some (.inl (v.1, (IntKind.i64.wrap (v.2 + (1 : Int)))))
   else none
  else
   some (.inr (.inr (v.1, v.2)))
def access_first_L2 (terms : List Term) (col : Int) (one : Int) (other : Int) (v : Val × Int) : Option ((Val × Int × Int × Int) ⊕ (Val × Int)) := loopO (access_first_S2 terms col one other) v
theorem access_first_L2_eq (terms : List Term) (col : Int) (one : Int) (other : Int) (v : Val × Int) : access_first_L2 terms col one other v = stepB (access_first_L2 terms col one other) (access_first_S2 terms col one other v) := loopO_eq _ _
def access_first_Q2 (terms : List Term) (col : Int) (one : Int) (other : Int) (r : (Val × Int × Int × Int) ⊕ (Val × Int)) (Q : Exit → S Un → Prop) : Prop := match r with | .inl x => Q .ret (access_first_e2_ret terms col one other x.1 x.2.1 x.2.2.1 x.2.2.2) | .inr x => Q (.exit 0) (access_first_s2 terms col one other x.1 x.2)
theorem access_first_Q2_ret {terms : List Term} {col : Int} {one : Int} {other : Int} {x : Val × Int × Int × Int} {Q : Exit → S Un → Prop} (h : Q .ret (access_first_e2_ret terms col one other x.1 x.2.1 x.2.2.1 x.2.2.2)) : access_first_Q2 terms col one other (.inl x) Q := h
theorem access_first_Q2_x0 {terms : List Term} {col : Int} {one : Int} {other : Int} {x : Val × Int} {Q : Exit → S Un → Prop} (h : Q (.exit 0) (access_first_s2 terms col one other x.1 x.2)) : access_first_Q2 terms col one other (.inr x) Q := h
theorem access_first_L2_run {terms : List Term} {col : Int} {one : Int} {other : Int} {v : Val × Int} {r : (Val × Int × Int × Int) ⊕ (Val × Int)} (h : access_first_L2 terms col one other v = some r) (Q : Exit → S Un → Prop) (hQ : access_first_Q2 terms col one other r Q) : itersK (N_access_first 2) (awp M_access_first N_access_first (sub (bodyOf Try.f23) [1, 0, 1, 2, 2])) Q (access_first_s2 terms col one other v.1 v.2) := by
  refine @loop_run _ _ (access_first_S2 terms col one other) (fun v => itersK (N_access_first 2) (awp M_access_first N_access_first (sub (bodyOf Try.f23) [1, 0, 1, 2, 2])) Q (access_first_s2 terms col one other v.1 v.2)) (fun r => access_first_Q2 terms col one other r Q) ?_ v r h hQ
  intro v o h hI
  unfold access_first_S2 at h
  rcases ite_some h with ⟨c1, h2⟩ | ⟨c1, h2⟩
  · obtain ⟨c3, h4⟩ := ob_some h2
    rcases ite_some h4 with ⟨c5, h6⟩ | ⟨c5, h6⟩
    · rcases ite_some h6 with ⟨c7, h8⟩ | ⟨c7, h8⟩
      · cases h8
        exact itersK_mk 1 (mpr (access_first_l2 terms col one other v.1 v.2 0 Q) (cnd_t c1 (And.intro c3 (cnd_t c5 (cnd_t c7 hI)))))
      · rcases ite_some h8 with ⟨c9, h10⟩ | ⟨c9, h10⟩
        · cases h10
          exact itersK_mk 1 (mpr (access_first_l2 terms col one other v.1 v.2 0 Q) (cnd_t c1 (And.intro c3 (cnd_t c5 (cnd_f (bfalse c7) (cnd_t c9 hI))))))
        · cases h10
          obtain ⟨k11, hk12⟩ := itersK_get hI
          exact itersK_mk (k11 + 1) (mpr (access_first_l2 terms col one other v.1 v.2 k11 Q) (cnd_t c1 (And.intro c3 (cnd_t c5 (cnd_f (bfalse c7) (cnd_f (bfalse c9) hk12))))))
    · cases h6
      obtain ⟨k13, hk14⟩ := itersK_get hI
      exact itersK_mk (k13 + 1) (mpr (access_first_l2 terms col one other v.1 v.2 k13 Q) (cnd_t c1 (And.intro c3 (cnd_f (bfalse c5) hk14))))
  · cases h2
    exact itersK_mk 1 (mpr (access_first_l2 terms col one other v.1 v.2 0 Q) (cnd_f (bfalse c1) hI))
def access_first_fn (terms : List Term) (col : Int) (one : Int) (other : Int) : Option (Int × Int × Val) :=
  (access_first_L2 terms col one other (zeroVal, (0 : Int))) >>= fun o15 => match o15 with
   | .inl o16 =>
     some (o16.2.2.1, o16.2.2.2, o16.1)
   | .inr o17 =>
     some ((-1 : Int), (0 : Int), zeroVal)
theorem access_first_run {terms : List Term} {col : Int} {one : Int} {other : Int} {r : Int × Int × Val} (h : access_first_fn terms col one other = some r) : Runs (awp M_access_first N_access_first (bodyOf Try.f23) (entry Try.f23.ntmps 0 [.d (.v (.dat (U := Un) Ty.term terms)), .d (.v (.s (.int .i64 col))), .d (.v (.s (.int .i64 one))), .d (.v (.s (.int .i64 other)))]) (retQ M_access_first Try.f23.results.toList [.d, .d, .d] fun rs os => rs = A_access_first r ∧ os = O_access_first r)) := by
  constructor
  rw [access_first_in terms col one other (fun rs os => rs = A_access_first r ∧ os = O_access_first r)]
  unfold access_first_fn at h
  obtain ⟨o18, ho19, h20⟩ := bind_some h
  rcases o18 with o21 | o22
  · cases h20
    exact (access_first_L2_run ho19 _ (access_first_Q2_ret (mpr (access_first_a2_ret terms col one other o21.1 o21.2.1 o21.2.2.1 o21.2.2.2 _) ⟨rfl, rfl⟩)))
  · cases h20
    exact (access_first_L2_run ho19 _ (access_first_Q2_x0 (mpr (access_first_a2_x0 terms col one other o22.1 o22.2 _) ⟨rfl, rfl⟩)))
def access_first (terms : List Term) (col one other : Int) : Int × Int × Val := match firstT col one other terms 0 with | some (i, op, v) => ((i : Nat), op, v) | none => (-1, 0, zeroVal)
theorem access_first_loop (terms : List Term) (col one other : Int) (ht : WL .term terms) : ∀ (r : List Term) (i : Nat) (z : Val), terms.drop i = r →
    ∃ o, access_first_L2 terms col one other (z, i) = some o ∧ (match o with | .inl o => (o.2.2.1, o.2.2.2, o.1) | .inr _ => ((-1 : Int), (0 : Int), zeroVal)) = (match firstT col one other r i with | some (i, op, v) => (((i : Nat) : Int), op, v) | none => (-1, 0, zeroVal)) := by
  intro r
  induction r with
  | nil =>
    intro i z h1
    have e1 := drop_nil h1
    have hn : ¬ ((i : Int) < terms.length) := by omega
    exact ⟨.inr (z, i), by rw [access_first_L2_eq, access_first_S2]; simp [hn], rfl⟩
  | cons t r ih =>
    intro i z h1
    obtain ⟨a1, a2, a3, _⟩ := drop_cons h1
    have hp : (i : Int) < terms.length := by omega
    have hi : (0 : Int) ≤ i := by omega
    rw [access_first_L2_eq, access_first_S2]
    simp only [hp, hi, decide_true, if_true, and_self, Int.toNat_natCast, a2, beq_iff_eq]
    unfold access_bounding firstT
    cases hb : bndT t col with
    | none =>
      simp only [Bool.false_eq_true, if_false]
      rw [wrap_succ a1 ht.len, stepB_inl]; exact ih (i + 1) z a3
    | some x =>
      obtain ⟨op, v⟩ := x
      simp only [if_true]
      by_cases c1 : op = one
      · exact ⟨_, by rw [if_pos c1, stepB_inr], by simp [c1]⟩
      · by_cases c2 : op = other
        · exact ⟨_, by rw [if_neg c1, if_pos c2, stepB_inr], by simp [c2]⟩
        · rw [if_neg c1, if_neg c2, wrap_succ a1 ht.len, stepB_inl]
          simp only [c1, c2, or_self, if_false]
          exact ih (i + 1) z a3
theorem access_first_spec (terms : List Term) (col one other : Int) (ht : WL .term terms) (_h1 : WI col) (_h2 : WI one) (_h3 : WI other) : access_first_fn terms col one other = some (access_first terms col one other) := by
  obtain ⟨o, ho, e⟩ := access_first_loop terms col one other ht _ 0 zeroVal rfl
  unfold access_first_fn access_first
  simp only [List.drop_zero] at e
  rw [← e]
  have ho' : access_first_L2 terms col one other (zeroVal, 0) = some o := ho
  rw [ho']
  cases o <;> rfl
def F_access_first : FnC Un := fun args => match args with
  | [x0, x1, x2, x3] => (dL .term x0).bind fun terms => (dI .i64 x1).bind fun col => (dI .i64 x2).bind fun one => (dI .i64 x3).bind fun other => some ([], A_access_first (access_first terms col one other), O_access_first (access_first terms col one other))
  | _ => none
theorem ok_access_first : FnOK 23 F_access_first := by
  intro args ob rs os h hob
  unfold F_access_first at h
  split at h
  · simp only [Option.bind_eq_some_iff, Option.some.injEq, Prod.mk.injEq] at h
    obtain ⟨terms, e0, col, e1, one, e2, other, e3, rfl, rfl, rfl⟩ := h
    obtain rfl := dL_eq e0
    obtain rfl := dI_eq e1
    obtain rfl := dI_eq e2
    obtain rfl := dI_eq e3
    exact ⟨fn_contract (M := M_access_first) rfl (tbl_ok (l1 := [(33, F_access_bounding)]) (l2 := []) (l3 := []) (l4 := []) (l5 := []) ⟨ok_access_bounding, trivial⟩ trivial trivial trivial trivial) Try.func23 (by kernel_rfl) N_access_first 0 [.d, .d, .d] (fun hwf => access_first_run (access_first_spec terms col one other (wfArg hwf (a := .d (.v (.dat (U := Un) Ty.term terms))) (List.mem_of_getElem? (i := 0) rfl)) (wfArg hwf (a := .d (.v (.s (.int .i64 col)))) (List.mem_of_getElem? (i := 1) rfl)) (wfArg hwf (a := .d (.v (.s (.int .i64 one)))) (List.mem_of_getElem? (i := 2) rfl)) (wfArg hwf (a := .d (.v (.s (.int .i64 other)))) (List.mem_of_getElem? (i := 3) rfl)))), hasBody_of Try.func23 (by kernel_rfl) (by kernel_rfl)⟩
  · simp at h
end
end Go.Proofs.Ytjmpnpkcgkhagaa.B
