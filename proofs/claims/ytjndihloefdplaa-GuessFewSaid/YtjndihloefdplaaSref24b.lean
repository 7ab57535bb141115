/- Functions: ref24b. (Printed by wip/tools/mkfn.py out of wip/src/ref24b.src.) -/
import Derived.Test.YtjndihloefdplaaBLib
import Derived.Test.YtjndihloefdplaaSspec
import Derived.Test.YtjndihloefdplaaSspec26
import Derived.Test.YtjndihloefdplaaSterms
import Derived.Test.YtjndihloefdplaaSlcmp
import Derived.Test.YtjndihloefdplaaSvcmp
import Derived.Test.YtjndihloefdplaaSref03
import Derived.Test.YtjndihloefdplaaSref03c
import Derived.Test.YtjndihloefdplaaSbits
import Derived.Test.YtjndihloefdplaaSguess1
import Derived.Test.YtjndihloefdplaaSguess2
import Derived.Test.YtjndihloefdplaaSguess3
import Derived.Test.YtjndihloefdplaaSguess4
import Derived.Test.YtjndihloefdplaaSguess5
import Derived.Test.YtjndihloefdplaaSref24a
namespace Go.Proofs.Ytjndihloefdplaa.B
open Go Go.RowKit
set_option maxRecDepth 100000
noncomputable section
attribute [local irreducible] awp ctxK itersK iterK retQ retGQ

def r24_Part (t : Term) (l : List ColStat) : Int := guess_Part t l
def r24_two (t : Term) (l : List ColStat) : Int := guess_Part t l

def A_r24_Part (r : Int) : List (A Un) := [.c (.s (.int .i64 r))]
def O_r24_Part (_r : Int) : List (Ob Un) := []

def Fm_r24_Part (m : Nat) : FnC Un := fun args => match args with
  | [x0, x1] => (dS .term x0).bind fun t => (dL .colStat x1).bind fun l => some ([2 * t.ht + 1 < m, l.all (fun c => decide (c.ends.length ≤ 4398046511104)) = true], A_r24_Part (r24_Part t l), O_r24_Part (r24_Part t l))
  | _ => none

def A_r24_two (r : Int) : List (A Un) := [.c (.s (.int .i64 r))]
def O_r24_two (_r : Int) : List (Ob Un) := []

def Fm_r24_two (m : Nat) : FnC Un := fun args => match args with
  | [x0, x1] => (dS .term x0).bind fun t => (dL .colStat x1).bind fun l => some ([2 * t.ht < m, t.kids.length = 2 ∧ ¬ t.op = 1 ∧ l.all (fun c => decide (c.ends.length ≤ 4398046511104)) = true], A_r24_two (r24_two t l), O_r24_two (r24_two t l))
  | _ => none

theorem colOf_mem {t : Term} {l : List ColStat} {c : ColStat} (h : colOf t l = some c) : c ∈ l := by
  unfold colOf at h; split at h
  · rename_i hc
    simp only [Option.some.injEq] at h
    rw [← h]
    exact getD_mem (by omega)
  · simp at h
theorem ends_le {t : Term} {l : List ColStat} (hl : l.all (fun c => decide (c.ends.length ≤ 4398046511104)) = true) : (r24_column t l).1.ends.length ≤ 4398046511104 := by
  unfold r24_column
  cases h : colOf t l with
  | none => simp [zeroColStat]
  | some c => exact of_decide_eq_true (List.all_eq_true.1 hl c (colOf_mem h))
theorem colOf_const {t : Term} {l : List ColStat} (h : t.op = 1) : colOf t l = none := by
  unfold colOf; rw [if_neg (by omega)]

/-! ### tabellionref24.two -/
def M_r24_two (m : Nat) : Mc Un := mach (tbl [(11, Fm_r24_Part m), (27, F_r24_column), (40, F_r24_compared), (41, F_r24_turned)]) (tbl []) (tbl []) (tbl [])
def N_r24_two : Nat → NS := fun l => (look l []).getD ⟨[], [], [], [], []⟩
def r24_two_c1 (t : Term) (l : List ColStat) := r24_column (Term.mk (Term.op (t.kids.getD 0 zeroTerm)) (Term.v (t.kids.getD 0 zeroTerm)) (Term.depth (t.kids.getD 0 zeroTerm)) (Term.at_ (t.kids.getD 0 zeroTerm)) (Term.name (t.kids.getD 0 zeroTerm)) (Term.kids (t.kids.getD 0 zeroTerm)) (Term.sub (t.kids.getD 0 zeroTerm)) (Term.type (t.kids.getD 0 zeroTerm))) l
def r24_two_c2 (t : Term) (l : List ColStat) := r24_column (Term.mk (Term.op (t.kids.getD 1 zeroTerm)) (Term.v (t.kids.getD 1 zeroTerm)) (Term.depth (t.kids.getD 1 zeroTerm)) (Term.at_ (t.kids.getD 1 zeroTerm)) (Term.name (t.kids.getD 1 zeroTerm)) (Term.kids (t.kids.getD 1 zeroTerm)) (Term.sub (t.kids.getD 1 zeroTerm)) (Term.type (t.kids.getD 1 zeroTerm))) l
theorem r24_two_in_raw (m : Nat) (t : Term) (l : List ColStat) (K : List (A Un) → List (Ob Un) → Prop) :
    awp (M_r24_two m) N_r24_two (bodyOf Try.f26) (entry Try.f26.ntmps 0 [.d (.agg (enc Ty.term t)), .d (.v (.dat (U := Un) Ty.colStat l))]) (retQ (M_r24_two m) Try.f26.results.toList [.d] K) =
(((0 : Int) ≤ (0 : Int) ∧ (0 : Int) < (↑t.kids.length : Int)) ∧
(((0 : Int) ≤ (1 : Int) ∧ (1 : Int) < (↑t.kids.length : Int)) ∧
(cnd (t.op == (17 : Int))
 (((2 : Nat) * (Term.mk (Term.op (t.kids.getD 0 zeroTerm)) (Term.v (t.kids.getD 0 zeroTerm)) (Term.depth (t.kids.getD 0 zeroTerm)) (Term.at_ (t.kids.getD 0 zeroTerm)) (Term.name (t.kids.getD 0 zeroTerm)) (Term.kids (t.kids.getD 0 zeroTerm)) (Term.sub (t.kids.getD 0 zeroTerm)) (Term.type (t.kids.getD 0 zeroTerm))).ht + (1 : Nat) < m) ∧
 (((l.all fun c => decide (c.ends.length ≤ (4398046511104 : Nat))) = true) ∧
 (((2 : Nat) * (Term.mk (Term.op (t.kids.getD 1 zeroTerm)) (Term.v (t.kids.getD 1 zeroTerm)) (Term.depth (t.kids.getD 1 zeroTerm)) (Term.at_ (t.kids.getD 1 zeroTerm)) (Term.name (t.kids.getD 1 zeroTerm)) (Term.kids (t.kids.getD 1 zeroTerm)) (Term.sub (t.kids.getD 1 zeroTerm)) (Term.type (t.kids.getD 1 zeroTerm))).ht + (1 : Nat) < m) ∧
 (((l.all fun c => decide (c.ends.length ≤ (4398046511104 : Nat))) = true) ∧
 (cnd (t.op == (17 : Int))
  ((¬(1000000 : Int) = (0 : Int)) ∧
  (K (A_r24_two (IntKind.i64.wrap ((IntKind.i64.wrap (r24_Part (Term.mk (Term.op (t.kids.getD 0 zeroTerm)) (Term.v (t.kids.getD 0 zeroTerm)) (Term.depth (t.kids.getD 0 zeroTerm)) (Term.at_ (t.kids.getD 0 zeroTerm)) (Term.name (t.kids.getD 0 zeroTerm)) (Term.kids (t.kids.getD 0 zeroTerm)) (Term.sub (t.kids.getD 0 zeroTerm)) (Term.type (t.kids.getD 0 zeroTerm))) l * r24_Part (Term.mk (Term.op (t.kids.getD 1 zeroTerm)) (Term.v (t.kids.getD 1 zeroTerm)) (Term.depth (t.kids.getD 1 zeroTerm)) (Term.at_ (t.kids.getD 1 zeroTerm)) (Term.name (t.kids.getD 1 zeroTerm)) (Term.kids (t.kids.getD 1 zeroTerm)) (Term.sub (t.kids.getD 1 zeroTerm)) (Term.type (t.kids.getD 1 zeroTerm))) l)).tdiv (1000000 : Int)))) (O_r24_two (IntKind.i64.wrap ((IntKind.i64.wrap (r24_Part (Term.mk (Term.op (t.kids.getD 0 zeroTerm)) (Term.v (t.kids.getD 0 zeroTerm)) (Term.depth (t.kids.getD 0 zeroTerm)) (Term.at_ (t.kids.getD 0 zeroTerm)) (Term.name (t.kids.getD 0 zeroTerm)) (Term.kids (t.kids.getD 0 zeroTerm)) (Term.sub (t.kids.getD 0 zeroTerm)) (Term.type (t.kids.getD 0 zeroTerm))) l * r24_Part (Term.mk (Term.op (t.kids.getD 1 zeroTerm)) (Term.v (t.kids.getD 1 zeroTerm)) (Term.depth (t.kids.getD 1 zeroTerm)) (Term.at_ (t.kids.getD 1 zeroTerm)) (Term.name (t.kids.getD 1 zeroTerm)) (Term.kids (t.kids.getD 1 zeroTerm)) (Term.sub (t.kids.getD 1 zeroTerm)) (Term.type (t.kids.getD 1 zeroTerm))) l)).tdiv (1000000 : Int))))))
  ((¬(1000000 : Int) = (0 : Int)) ∧
  (K (A_r24_two (IntKind.i64.wrap (IntKind.i64.wrap (r24_Part (Term.mk (Term.op (t.kids.getD 0 zeroTerm)) (Term.v (t.kids.getD 0 zeroTerm)) (Term.depth (t.kids.getD 0 zeroTerm)) (Term.at_ (t.kids.getD 0 zeroTerm)) (Term.name (t.kids.getD 0 zeroTerm)) (Term.kids (t.kids.getD 0 zeroTerm)) (Term.sub (t.kids.getD 0 zeroTerm)) (Term.type (t.kids.getD 0 zeroTerm))) l + r24_Part (Term.mk (Term.op (t.kids.getD 1 zeroTerm)) (Term.v (t.kids.getD 1 zeroTerm)) (Term.depth (t.kids.getD 1 zeroTerm)) (Term.at_ (t.kids.getD 1 zeroTerm)) (Term.name (t.kids.getD 1 zeroTerm)) (Term.kids (t.kids.getD 1 zeroTerm)) (Term.sub (t.kids.getD 1 zeroTerm)) (Term.type (t.kids.getD 1 zeroTerm))) l) - IntKind.i64.wrap ((IntKind.i64.wrap (r24_Part (Term.mk (Term.op (t.kids.getD 0 zeroTerm)) (Term.v (t.kids.getD 0 zeroTerm)) (Term.depth (t.kids.getD 0 zeroTerm)) (Term.at_ (t.kids.getD 0 zeroTerm)) (Term.name (t.kids.getD 0 zeroTerm)) (Term.kids (t.kids.getD 0 zeroTerm)) (Term.sub (t.kids.getD 0 zeroTerm)) (Term.type (t.kids.getD 0 zeroTerm))) l * r24_Part (Term.mk (Term.op (t.kids.getD 1 zeroTerm)) (Term.v (t.kids.getD 1 zeroTerm)) (Term.depth (t.kids.getD 1 zeroTerm)) (Term.at_ (t.kids.getD 1 zeroTerm)) (Term.name (t.kids.getD 1 zeroTerm)) (Term.kids (t.kids.getD 1 zeroTerm)) (Term.sub (t.kids.getD 1 zeroTerm)) (Term.type (t.kids.getD 1 zeroTerm))) l)).tdiv (1000000 : Int))))) (O_r24_two (IntKind.i64.wrap (IntKind.i64.wrap (r24_Part (Term.mk (Term.op (t.kids.getD 0 zeroTerm)) (Term.v (t.kids.getD 0 zeroTerm)) (Term.depth (t.kids.getD 0 zeroTerm)) (Term.at_ (t.kids.getD 0 zeroTerm)) (Term.name (t.kids.getD 0 zeroTerm)) (Term.kids (t.kids.getD 0 zeroTerm)) (Term.sub (t.kids.getD 0 zeroTerm)) (Term.type (t.kids.getD 0 zeroTerm))) l + r24_Part (Term.mk (Term.op (t.kids.getD 1 zeroTerm)) (Term.v (t.kids.getD 1 zeroTerm)) (Term.depth (t.kids.getD 1 zeroTerm)) (Term.at_ (t.kids.getD 1 zeroTerm)) (Term.name (t.kids.getD 1 zeroTerm)) (Term.kids (t.kids.getD 1 zeroTerm)) (Term.sub (t.kids.getD 1 zeroTerm)) (Term.type (t.kids.getD 1 zeroTerm))) l) - IntKind.i64.wrap ((IntKind.i64.wrap (r24_Part (Term.mk (Term.op (t.kids.getD 0 zeroTerm)) (Term.v (t.kids.getD 0 zeroTerm)) (Term.depth (t.kids.getD 0 zeroTerm)) (Term.at_ (t.kids.getD 0 zeroTerm)) (Term.name (t.kids.getD 0 zeroTerm)) (Term.kids (t.kids.getD 0 zeroTerm)) (Term.sub (t.kids.getD 0 zeroTerm)) (Term.type (t.kids.getD 0 zeroTerm))) l * r24_Part (Term.mk (Term.op (t.kids.getD 1 zeroTerm)) (Term.v (t.kids.getD 1 zeroTerm)) (Term.depth (t.kids.getD 1 zeroTerm)) (Term.at_ (t.kids.getD 1 zeroTerm)) (Term.name (t.kids.getD 1 zeroTerm)) (Term.kids (t.kids.getD 1 zeroTerm)) (Term.sub (t.kids.getD 1 zeroTerm)) (Term.type (t.kids.getD 1 zeroTerm))) l)).tdiv (1000000 : Int))))))))))))
 (cnd (t.op == (18 : Int))
  (((2 : Nat) * (Term.mk (Term.op (t.kids.getD 0 zeroTerm)) (Term.v (t.kids.getD 0 zeroTerm)) (Term.depth (t.kids.getD 0 zeroTerm)) (Term.at_ (t.kids.getD 0 zeroTerm)) (Term.name (t.kids.getD 0 zeroTerm)) (Term.kids (t.kids.getD 0 zeroTerm)) (Term.sub (t.kids.getD 0 zeroTerm)) (Term.type (t.kids.getD 0 zeroTerm))).ht + (1 : Nat) < m) ∧
  (((l.all fun c => decide (c.ends.length ≤ (4398046511104 : Nat))) = true) ∧
  (((2 : Nat) * (Term.mk (Term.op (t.kids.getD 1 zeroTerm)) (Term.v (t.kids.getD 1 zeroTerm)) (Term.depth (t.kids.getD 1 zeroTerm)) (Term.at_ (t.kids.getD 1 zeroTerm)) (Term.name (t.kids.getD 1 zeroTerm)) (Term.kids (t.kids.getD 1 zeroTerm)) (Term.sub (t.kids.getD 1 zeroTerm)) (Term.type (t.kids.getD 1 zeroTerm))).ht + (1 : Nat) < m) ∧
  (((l.all fun c => decide (c.ends.length ≤ (4398046511104 : Nat))) = true) ∧
  (cnd (t.op == (17 : Int))
   ((¬(1000000 : Int) = (0 : Int)) ∧
   (K (A_r24_two (IntKind.i64.wrap ((IntKind.i64.wrap (r24_Part (Term.mk (Term.op (t.kids.getD 0 zeroTerm)) (Term.v (t.kids.getD 0 zeroTerm)) (Term.depth (t.kids.getD 0 zeroTerm)) (Term.at_ (t.kids.getD 0 zeroTerm)) (Term.name (t.kids.getD 0 zeroTerm)) (Term.kids (t.kids.getD 0 zeroTerm)) (Term.sub (t.kids.getD 0 zeroTerm)) (Term.type (t.kids.getD 0 zeroTerm))) l * r24_Part (Term.mk (Term.op (t.kids.getD 1 zeroTerm)) (Term.v (t.kids.getD 1 zeroTerm)) (Term.depth (t.kids.getD 1 zeroTerm)) (Term.at_ (t.kids.getD 1 zeroTerm)) (Term.name (t.kids.getD 1 zeroTerm)) (Term.kids (t.kids.getD 1 zeroTerm)) (Term.sub (t.kids.getD 1 zeroTerm)) (Term.type (t.kids.getD 1 zeroTerm))) l)).tdiv (1000000 : Int)))) (O_r24_two (IntKind.i64.wrap ((IntKind.i64.wrap (r24_Part (Term.mk (Term.op (t.kids.getD 0 zeroTerm)) (Term.v (t.kids.getD 0 zeroTerm)) (Term.depth (t.kids.getD 0 zeroTerm)) (Term.at_ (t.kids.getD 0 zeroTerm)) (Term.name (t.kids.getD 0 zeroTerm)) (Term.kids (t.kids.getD 0 zeroTerm)) (Term.sub (t.kids.getD 0 zeroTerm)) (Term.type (t.kids.getD 0 zeroTerm))) l * r24_Part (Term.mk (Term.op (t.kids.getD 1 zeroTerm)) (Term.v (t.kids.getD 1 zeroTerm)) (Term.depth (t.kids.getD 1 zeroTerm)) (Term.at_ (t.kids.getD 1 zeroTerm)) (Term.name (t.kids.getD 1 zeroTerm)) (Term.kids (t.kids.getD 1 zeroTerm)) (Term.sub (t.kids.getD 1 zeroTerm)) (Term.type (t.kids.getD 1 zeroTerm))) l)).tdiv (1000000 : Int))))))
   ((¬(1000000 : Int) = (0 : Int)) ∧
   (K (A_r24_two (IntKind.i64.wrap (IntKind.i64.wrap (r24_Part (Term.mk (Term.op (t.kids.getD 0 zeroTerm)) (Term.v (t.kids.getD 0 zeroTerm)) (Term.depth (t.kids.getD 0 zeroTerm)) (Term.at_ (t.kids.getD 0 zeroTerm)) (Term.name (t.kids.getD 0 zeroTerm)) (Term.kids (t.kids.getD 0 zeroTerm)) (Term.sub (t.kids.getD 0 zeroTerm)) (Term.type (t.kids.getD 0 zeroTerm))) l + r24_Part (Term.mk (Term.op (t.kids.getD 1 zeroTerm)) (Term.v (t.kids.getD 1 zeroTerm)) (Term.depth (t.kids.getD 1 zeroTerm)) (Term.at_ (t.kids.getD 1 zeroTerm)) (Term.name (t.kids.getD 1 zeroTerm)) (Term.kids (t.kids.getD 1 zeroTerm)) (Term.sub (t.kids.getD 1 zeroTerm)) (Term.type (t.kids.getD 1 zeroTerm))) l) - IntKind.i64.wrap ((IntKind.i64.wrap (r24_Part (Term.mk (Term.op (t.kids.getD 0 zeroTerm)) (Term.v (t.kids.getD 0 zeroTerm)) (Term.depth (t.kids.getD 0 zeroTerm)) (Term.at_ (t.kids.getD 0 zeroTerm)) (Term.name (t.kids.getD 0 zeroTerm)) (Term.kids (t.kids.getD 0 zeroTerm)) (Term.sub (t.kids.getD 0 zeroTerm)) (Term.type (t.kids.getD 0 zeroTerm))) l * r24_Part (Term.mk (Term.op (t.kids.getD 1 zeroTerm)) (Term.v (t.kids.getD 1 zeroTerm)) (Term.depth (t.kids.getD 1 zeroTerm)) (Term.at_ (t.kids.getD 1 zeroTerm)) (Term.name (t.kids.getD 1 zeroTerm)) (Term.kids (t.kids.getD 1 zeroTerm)) (Term.sub (t.kids.getD 1 zeroTerm)) (Term.type (t.kids.getD 1 zeroTerm))) l)).tdiv (1000000 : Int))))) (O_r24_two (IntKind.i64.wrap (IntKind.i64.wrap (r24_Part (Term.mk (Term.op (t.kids.getD 0 zeroTerm)) (Term.v (t.kids.getD 0 zeroTerm)) (Term.depth (t.kids.getD 0 zeroTerm)) (Term.at_ (t.kids.getD 0 zeroTerm)) (Term.name (t.kids.getD 0 zeroTerm)) (Term.kids (t.kids.getD 0 zeroTerm)) (Term.sub (t.kids.getD 0 zeroTerm)) (Term.type (t.kids.getD 0 zeroTerm))) l + r24_Part (Term.mk (Term.op (t.kids.getD 1 zeroTerm)) (Term.v (t.kids.getD 1 zeroTerm)) (Term.depth (t.kids.getD 1 zeroTerm)) (Term.at_ (t.kids.getD 1 zeroTerm)) (Term.name (t.kids.getD 1 zeroTerm)) (Term.kids (t.kids.getD 1 zeroTerm)) (Term.sub (t.kids.getD 1 zeroTerm)) (Term.type (t.kids.getD 1 zeroTerm))) l) - IntKind.i64.wrap ((IntKind.i64.wrap (r24_Part (Term.mk (Term.op (t.kids.getD 0 zeroTerm)) (Term.v (t.kids.getD 0 zeroTerm)) (Term.depth (t.kids.getD 0 zeroTerm)) (Term.at_ (t.kids.getD 0 zeroTerm)) (Term.name (t.kids.getD 0 zeroTerm)) (Term.kids (t.kids.getD 0 zeroTerm)) (Term.sub (t.kids.getD 0 zeroTerm)) (Term.type (t.kids.getD 0 zeroTerm))) l * r24_Part (Term.mk (Term.op (t.kids.getD 1 zeroTerm)) (Term.v (t.kids.getD 1 zeroTerm)) (Term.depth (t.kids.getD 1 zeroTerm)) (Term.at_ (t.kids.getD 1 zeroTerm)) (Term.name (t.kids.getD 1 zeroTerm)) (Term.kids (t.kids.getD 1 zeroTerm)) (Term.sub (t.kids.getD 1 zeroTerm)) (Term.type (t.kids.getD 1 zeroTerm))) l)).tdiv (1000000 : Int))))))))))))
  (cnd (decide (t.op < (11 : Int)))
   (K (A_r24_two ((333333 : Int))) (O_r24_two ((333333 : Int))))
   (cnd (decide (t.op > (16 : Int)))
    (K (A_r24_two ((333333 : Int))) (O_r24_two ((333333 : Int))))
    (cnd ((r24_two_c1 t l).snd)
     (cnd (Term.op (t.kids.getD 1 zeroTerm) == (1 : Int))
      (((r24_two_c1 t l).fst.ends.length ≤ (4398046511104 : Nat)) ∧
      (K (A_r24_two (r24_compared t.op (r24_two_c1 t l).fst (Term.v (t.kids.getD 1 zeroTerm)))) (O_r24_two (r24_compared t.op (r24_two_c1 t l).fst (Term.v (t.kids.getD 1 zeroTerm))))))
      (cnd ((r24_two_c2 t l).snd)
       (cnd (Term.op (t.kids.getD 0 zeroTerm) == (1 : Int))
        (((r24_two_c2 t l).fst.ends.length ≤ (4398046511104 : Nat)) ∧
        (K (A_r24_two (r24_compared (r24_turned t.op) (r24_two_c2 t l).fst (Term.v (t.kids.getD 0 zeroTerm)))) (O_r24_two (r24_compared (r24_turned t.op) (r24_two_c2 t l).fst (Term.v (t.kids.getD 0 zeroTerm))))))
        (K (A_r24_two ((333333 : Int))) (O_r24_two ((333333 : Int)))))
       (K (A_r24_two ((333333 : Int))) (O_r24_two ((333333 : Int))))))
     (cnd ((r24_two_c2 t l).snd)
      (cnd (Term.op (t.kids.getD 0 zeroTerm) == (1 : Int))
       (((r24_two_c2 t l).fst.ends.length ≤ (4398046511104 : Nat)) ∧
       (K (A_r24_two (r24_compared (r24_turned t.op) (r24_two_c2 t l).fst (Term.v (t.kids.getD 0 zeroTerm)))) (O_r24_two (r24_compared (r24_turned t.op) (r24_two_c2 t l).fst (Term.v (t.kids.getD 0 zeroTerm))))))
       (K (A_r24_two ((333333 : Int))) (O_r24_two ((333333 : Int)))))
      (K (A_r24_two ((333333 : Int))) (O_r24_two ((333333 : Int)))))))))))) := by kernel_rfl
theorem r24_two_in (m : Nat) (t : Term) (l : List ColStat) (K : List (A Un) → List (Ob Un) → Prop) :
    awp (M_r24_two m) N_r24_two (bodyOf Try.f26) (entry Try.f26.ntmps 0 [.d (.agg (enc Ty.term t)), .d (.v (.dat (U := Un) Ty.colStat l))]) (retQ (M_r24_two m) Try.f26.results.toList [.d] K) =
(((0 : Int) ≤ (0 : Int) ∧ (0 : Int) < (↑t.kids.length : Int)) ∧
(((0 : Int) ≤ (1 : Int) ∧ (1 : Int) < (↑t.kids.length : Int)) ∧
(cnd (t.op == (17 : Int))
 (((2 : Nat) * (t.kids.getD 0 zeroTerm).ht + (1 : Nat) < m) ∧
 (((l.all fun c => decide (c.ends.length ≤ (4398046511104 : Nat))) = true) ∧
 (((2 : Nat) * (t.kids.getD 1 zeroTerm).ht + (1 : Nat) < m) ∧
 (((l.all fun c => decide (c.ends.length ≤ (4398046511104 : Nat))) = true) ∧
 (cnd (t.op == (17 : Int))
  ((¬(1000000 : Int) = (0 : Int)) ∧
  (K (A_r24_two (IntKind.i64.wrap ((IntKind.i64.wrap (r24_Part (t.kids.getD 0 zeroTerm) l * r24_Part (t.kids.getD 1 zeroTerm) l)).tdiv (1000000 : Int)))) (O_r24_two (IntKind.i64.wrap ((IntKind.i64.wrap (r24_Part (t.kids.getD 0 zeroTerm) l * r24_Part (t.kids.getD 1 zeroTerm) l)).tdiv (1000000 : Int))))))
  ((¬(1000000 : Int) = (0 : Int)) ∧
  (K (A_r24_two (IntKind.i64.wrap (IntKind.i64.wrap (r24_Part (t.kids.getD 0 zeroTerm) l + r24_Part (t.kids.getD 1 zeroTerm) l) - IntKind.i64.wrap ((IntKind.i64.wrap (r24_Part (t.kids.getD 0 zeroTerm) l * r24_Part (t.kids.getD 1 zeroTerm) l)).tdiv (1000000 : Int))))) (O_r24_two (IntKind.i64.wrap (IntKind.i64.wrap (r24_Part (t.kids.getD 0 zeroTerm) l + r24_Part (t.kids.getD 1 zeroTerm) l) - IntKind.i64.wrap ((IntKind.i64.wrap (r24_Part (t.kids.getD 0 zeroTerm) l * r24_Part (t.kids.getD 1 zeroTerm) l)).tdiv (1000000 : Int))))))))))))
 (cnd (t.op == (18 : Int))
  (((2 : Nat) * (t.kids.getD 0 zeroTerm).ht + (1 : Nat) < m) ∧
  (((l.all fun c => decide (c.ends.length ≤ (4398046511104 : Nat))) = true) ∧
  (((2 : Nat) * (t.kids.getD 1 zeroTerm).ht + (1 : Nat) < m) ∧
  (((l.all fun c => decide (c.ends.length ≤ (4398046511104 : Nat))) = true) ∧
  (cnd (t.op == (17 : Int))
   ((¬(1000000 : Int) = (0 : Int)) ∧
   (K (A_r24_two (IntKind.i64.wrap ((IntKind.i64.wrap (r24_Part (t.kids.getD 0 zeroTerm) l * r24_Part (t.kids.getD 1 zeroTerm) l)).tdiv (1000000 : Int)))) (O_r24_two (IntKind.i64.wrap ((IntKind.i64.wrap (r24_Part (t.kids.getD 0 zeroTerm) l * r24_Part (t.kids.getD 1 zeroTerm) l)).tdiv (1000000 : Int))))))
   ((¬(1000000 : Int) = (0 : Int)) ∧
   (K (A_r24_two (IntKind.i64.wrap (IntKind.i64.wrap (r24_Part (t.kids.getD 0 zeroTerm) l + r24_Part (t.kids.getD 1 zeroTerm) l) - IntKind.i64.wrap ((IntKind.i64.wrap (r24_Part (t.kids.getD 0 zeroTerm) l * r24_Part (t.kids.getD 1 zeroTerm) l)).tdiv (1000000 : Int))))) (O_r24_two (IntKind.i64.wrap (IntKind.i64.wrap (r24_Part (t.kids.getD 0 zeroTerm) l + r24_Part (t.kids.getD 1 zeroTerm) l) - IntKind.i64.wrap ((IntKind.i64.wrap (r24_Part (t.kids.getD 0 zeroTerm) l * r24_Part (t.kids.getD 1 zeroTerm) l)).tdiv (1000000 : Int))))))))))))
  (cnd (decide (t.op < (11 : Int)))
   (K (A_r24_two ((333333 : Int))) (O_r24_two ((333333 : Int))))
   (cnd (decide (t.op > (16 : Int)))
    (K (A_r24_two ((333333 : Int))) (O_r24_two ((333333 : Int))))
    (cnd ((r24_two_c1 t l).snd)
     (cnd (Term.op (t.kids.getD 1 zeroTerm) == (1 : Int))
      (((r24_two_c1 t l).fst.ends.length ≤ (4398046511104 : Nat)) ∧
      (K (A_r24_two (r24_compared t.op (r24_two_c1 t l).fst (Term.v (t.kids.getD 1 zeroTerm)))) (O_r24_two (r24_compared t.op (r24_two_c1 t l).fst (Term.v (t.kids.getD 1 zeroTerm))))))
      (cnd ((r24_two_c2 t l).snd)
       (cnd (Term.op (t.kids.getD 0 zeroTerm) == (1 : Int))
        (((r24_two_c2 t l).fst.ends.length ≤ (4398046511104 : Nat)) ∧
        (K (A_r24_two (r24_compared (r24_turned t.op) (r24_two_c2 t l).fst (Term.v (t.kids.getD 0 zeroTerm)))) (O_r24_two (r24_compared (r24_turned t.op) (r24_two_c2 t l).fst (Term.v (t.kids.getD 0 zeroTerm))))))
        (K (A_r24_two ((333333 : Int))) (O_r24_two ((333333 : Int)))))
       (K (A_r24_two ((333333 : Int))) (O_r24_two ((333333 : Int))))))
     (cnd ((r24_two_c2 t l).snd)
      (cnd (Term.op (t.kids.getD 0 zeroTerm) == (1 : Int))
       (((r24_two_c2 t l).fst.ends.length ≤ (4398046511104 : Nat)) ∧
       (K (A_r24_two (r24_compared (r24_turned t.op) (r24_two_c2 t l).fst (Term.v (t.kids.getD 0 zeroTerm)))) (O_r24_two (r24_compared (r24_turned t.op) (r24_two_c2 t l).fst (Term.v (t.kids.getD 0 zeroTerm))))))
       (K (A_r24_two ((333333 : Int))) (O_r24_two ((333333 : Int)))))
      (K (A_r24_two ((333333 : Int))) (O_r24_two ((333333 : Int)))))))))))) :=
  (r24_two_in_raw m t l K).trans (by simp only [Term.eta])
def r24_two_fn (m : Nat) (t : Term) (l : List ColStat) : Option (Int) :=
  if (0 : Int) ≤ (0 : Int) ∧ (0 : Int) < (↑t.kids.length : Int) then
   if (0 : Int) ≤ (1 : Int) ∧ (1 : Int) < (↑t.kids.length : Int) then
    if (t.op == (17 : Int)) = true then
     if (2 : Nat) * (t.kids.getD 0 zeroTerm).ht + (1 : Nat) < m then
      if (l.all fun c => decide (c.ends.length ≤ (4398046511104 : Nat))) = true then
       if (2 : Nat) * (t.kids.getD 1 zeroTerm).ht + (1 : Nat) < m then
        if (l.all fun c => decide (c.ends.length ≤ (4398046511104 : Nat))) = true then
         if (t.op == (17 : Int)) = true then
          if ¬(1000000 : Int) = (0 : Int) then
           some (IntKind.i64.wrap ((IntKind.i64.wrap (r24_Part (t.kids.getD 0 zeroTerm) l * r24_Part (t.kids.getD 1 zeroTerm) l)).tdiv (1000000 : Int)))
          else none
         else
          if ¬(1000000 : Int) = (0 : Int) then
           some (IntKind.i64.wrap (IntKind.i64.wrap (r24_Part (t.kids.getD 0 zeroTerm) l + r24_Part (t.kids.getD 1 zeroTerm) l) - IntKind.i64.wrap ((IntKind.i64.wrap (r24_Part (t.kids.getD 0 zeroTerm) l * r24_Part (t.kids.getD 1 zeroTerm) l)).tdiv (1000000 : Int))))
          else none
        else none
       else none
      else none
     else none
    else
     if (t.op == (18 : Int)) = true then
      if (2 : Nat) * (t.kids.getD 0 zeroTerm).ht + (1 : Nat) < m then
       if (l.all fun c => decide (c.ends.length ≤ (4398046511104 : Nat))) = true then
        if (2 : Nat) * (t.kids.getD 1 zeroTerm).ht + (1 : Nat) < m then
         if (l.all fun c => decide (c.ends.length ≤ (4398046511104 : Nat))) = true then
          if (t.op == (17 : Int)) = true then
           if ¬(1000000 : Int) = (0 : Int) then
            some (IntKind.i64.wrap ((IntKind.i64.wrap (r24_Part (t.kids.getD 0 zeroTerm) l * r24_Part (t.kids.getD 1 zeroTerm) l)).tdiv (1000000 : Int)))
           else none
          else
           if ¬(1000000 : Int) = (0 : Int) then
            some (IntKind.i64.wrap (IntKind.i64.wrap (r24_Part (t.kids.getD 0 zeroTerm) l + r24_Part (t.kids.getD 1 zeroTerm) l) - IntKind.i64.wrap ((IntKind.i64.wrap (r24_Part (t.kids.getD 0 zeroTerm) l * r24_Part (t.kids.getD 1 zeroTerm) l)).tdiv (1000000 : Int))))
           else none
         else none
        else none
       else none
      else none
     else
      if (decide (t.op < (11 : Int))) = true then
       some ((333333 : Int))
      else
       if (decide (t.op > (16 : Int))) = true then
        some ((333333 : Int))
       else
        if ((r24_two_c1 t l).snd) = true then
         if (Term.op (t.kids.getD 1 zeroTerm) == (1 : Int)) = true then
          if (r24_two_c1 t l).fst.ends.length ≤ (4398046511104 : Nat) then
           some (r24_compared t.op (r24_two_c1 t l).fst (Term.v (t.kids.getD 1 zeroTerm)))
          else none
         else
          if ((r24_two_c2 t l).snd) = true then
           if (Term.op (t.kids.getD 0 zeroTerm) == (1 : Int)) = true then
            if (r24_two_c2 t l).fst.ends.length ≤ (4398046511104 : Nat) then
             some (r24_compared (r24_turned t.op) (r24_two_c2 t l).fst (Term.v (t.kids.getD 0 zeroTerm)))
            else none
           else
            some ((333333 : Int))
          else
           some ((333333 : Int))
        else
         if ((r24_two_c2 t l).snd) = true then
          if (Term.op (t.kids.getD 0 zeroTerm) == (1 : Int)) = true then
           if (r24_two_c2 t l).fst.ends.length ≤ (4398046511104 : Nat) then
            some (r24_compared (r24_turned t.op) (r24_two_c2 t l).fst (Term.v (t.kids.getD 0 zeroTerm)))
           else none
          else
           some ((333333 : Int))
         else
          some ((333333 : Int))
   else none
  else none
theorem r24_two_run {m : Nat} {t : Term} {l : List ColStat} {r : Int} (h : r24_two_fn m t l = some r) : Runs (awp (M_r24_two m) N_r24_two (bodyOf Try.f26) (entry Try.f26.ntmps 0 [.d (.agg (enc Ty.term t)), .d (.v (.dat (U := Un) Ty.colStat l))]) (retQ (M_r24_two m) Try.f26.results.toList [.d] fun rs os => rs = A_r24_two r ∧ os = O_r24_two r)) := by
  constructor
  rw [r24_two_in m t l (fun rs os => rs = A_r24_two r ∧ os = O_r24_two r)]
  unfold r24_two_fn at h
  obtain ⟨c1, h2⟩ := ob_some h
  obtain ⟨c3, h4⟩ := ob_some h2
  rcases ite_some h4 with ⟨c5, h6⟩ | ⟨c5, h6⟩
  · obtain ⟨c7, h8⟩ := ob_some h6
    obtain ⟨c9, h10⟩ := ob_some h8
    obtain ⟨c11, h12⟩ := ob_some h10
    obtain ⟨c13, h14⟩ := ob_some h12
    rcases ite_some h14 with ⟨c15, h16⟩ | ⟨c15, h16⟩
    · obtain ⟨c17, h18⟩ := ob_some h16
      cases h18
      exact (And.intro c1 (And.intro c3 (cnd_t c5 (And.intro c7 (And.intro c9 (And.intro c11 (And.intro c13 (cnd_t c15 (And.intro c17 ⟨rfl, rfl⟩)))))))))
    · obtain ⟨c19, h20⟩ := ob_some h16
      cases h20
      exact (And.intro c1 (And.intro c3 (cnd_t c5 (And.intro c7 (And.intro c9 (And.intro c11 (And.intro c13 (cnd_f (bfalse c15) (And.intro c19 ⟨rfl, rfl⟩)))))))))
  · rcases ite_some h6 with ⟨c21, h22⟩ | ⟨c21, h22⟩
    · obtain ⟨c23, h24⟩ := ob_some h22
      obtain ⟨c25, h26⟩ := ob_some h24
      obtain ⟨c27, h28⟩ := ob_some h26
      obtain ⟨c29, h30⟩ := ob_some h28
      rcases ite_some h30 with ⟨c31, h32⟩ | ⟨c31, h32⟩
      · obtain ⟨c33, h34⟩ := ob_some h32
        cases h34
        exact (And.intro c1 (And.intro c3 (cnd_f (bfalse c5) (cnd_t c21 (And.intro c23 (And.intro c25 (And.intro c27 (And.intro c29 (cnd_t c31 (And.intro c33 ⟨rfl, rfl⟩))))))))))
      · obtain ⟨c35, h36⟩ := ob_some h32
        cases h36
        exact (And.intro c1 (And.intro c3 (cnd_f (bfalse c5) (cnd_t c21 (And.intro c23 (And.intro c25 (And.intro c27 (And.intro c29 (cnd_f (bfalse c31) (And.intro c35 ⟨rfl, rfl⟩))))))))))
    · rcases ite_some h22 with ⟨c37, h38⟩ | ⟨c37, h38⟩
      · cases h38
        exact (And.intro c1 (And.intro c3 (cnd_f (bfalse c5) (cnd_f (bfalse c21) (cnd_t c37 ⟨rfl, rfl⟩)))))
      · rcases ite_some h38 with ⟨c39, h40⟩ | ⟨c39, h40⟩
        · cases h40
          exact (And.intro c1 (And.intro c3 (cnd_f (bfalse c5) (cnd_f (bfalse c21) (cnd_f (bfalse c37) (cnd_t c39 ⟨rfl, rfl⟩))))))
        · rcases ite_some h40 with ⟨c41, h42⟩ | ⟨c41, h42⟩
          · rcases ite_some h42 with ⟨c43, h44⟩ | ⟨c43, h44⟩
            · obtain ⟨c45, h46⟩ := ob_some h44
              cases h46
              exact (And.intro c1 (And.intro c3 (cnd_f (bfalse c5) (cnd_f (bfalse c21) (cnd_f (bfalse c37) (cnd_f (bfalse c39) (cnd_t c41 (cnd_t c43 (And.intro c45 ⟨rfl, rfl⟩)))))))))
            · rcases ite_some h44 with ⟨c47, h48⟩ | ⟨c47, h48⟩
              · rcases ite_some h48 with ⟨c49, h50⟩ | ⟨c49, h50⟩
                · obtain ⟨c51, h52⟩ := ob_some h50
                  cases h52
                  exact (And.intro c1 (And.intro c3 (cnd_f (bfalse c5) (cnd_f (bfalse c21) (cnd_f (bfalse c37) (cnd_f (bfalse c39) (cnd_t c41 (cnd_f (bfalse c43) (cnd_t c47 (cnd_t c49 (And.intro c51 ⟨rfl, rfl⟩)))))))))))
                · cases h50
                  exact (And.intro c1 (And.intro c3 (cnd_f (bfalse c5) (cnd_f (bfalse c21) (cnd_f (bfalse c37) (cnd_f (bfalse c39) (cnd_t c41 (cnd_f (bfalse c43) (cnd_t c47 (cnd_f (bfalse c49) ⟨rfl, rfl⟩))))))))))
              · cases h48
                exact (And.intro c1 (And.intro c3 (cnd_f (bfalse c5) (cnd_f (bfalse c21) (cnd_f (bfalse c37) (cnd_f (bfalse c39) (cnd_t c41 (cnd_f (bfalse c43) (cnd_f (bfalse c47) ⟨rfl, rfl⟩)))))))))
          · rcases ite_some h42 with ⟨c53, h54⟩ | ⟨c53, h54⟩
            · rcases ite_some h54 with ⟨c55, h56⟩ | ⟨c55, h56⟩
              · obtain ⟨c57, h58⟩ := ob_some h56
                cases h58
                exact (And.intro c1 (And.intro c3 (cnd_f (bfalse c5) (cnd_f (bfalse c21) (cnd_f (bfalse c37) (cnd_f (bfalse c39) (cnd_f (bfalse c41) (cnd_t c53 (cnd_t c55 (And.intro c57 ⟨rfl, rfl⟩))))))))))
              · cases h56
                exact (And.intro c1 (And.intro c3 (cnd_f (bfalse c5) (cnd_f (bfalse c21) (cnd_f (bfalse c37) (cnd_f (bfalse c39) (cnd_f (bfalse c41) (cnd_t c53 (cnd_f (bfalse c55) ⟨rfl, rfl⟩)))))))))
            · cases h54
              exact (And.intro c1 (And.intro c3 (cnd_f (bfalse c5) (cnd_f (bfalse c21) (cnd_f (bfalse c37) (cnd_f (bfalse c39) (cnd_f (bfalse c41) (cnd_f (bfalse c53) ⟨rfl, rfl⟩))))))))

theorem r24_two_c1_eq (t : Term) (l : List ColStat) : r24_two_c1 t l = r24_column (t.kids.getD 0 zeroTerm) l := by unfold r24_two_c1; try rw [Term.eta]
theorem r24_two_c2_eq (t : Term) (l : List ColStat) : r24_two_c2 t l = r24_column (t.kids.getD 1 zeroTerm) l := by unfold r24_two_c2; try rw [Term.eta]
theorem r24_two_spec (m : Nat) (t : Term) (l : List ColStat) (_h1 : WS .term t) (_h2 : WL .colStat l) (h3 : 2 * t.ht < m + 1) (h4 : t.kids.length = 2 ∧ ¬ t.op = 1 ∧ l.all (fun c => decide (c.ends.length ≤ 4398046511104)) = true) : r24_two_fn m t l = some (r24_two t l) := by
  obtain ⟨hl, h1, hall⟩ := h4
  have k0 : 2 * (t.kids.getD 0 zeroTerm).ht + 1 < m := by have := kid0_ht (t := t) (.inr hl); omega
  have k1 : 2 * (t.kids.getD 1 zeroTerm).ht + 1 < m := by have := kid1_ht hl; omega
  have r0 := guess_Part_range (t.kids.getD 0 zeroTerm) l
  have r1 := guess_Part_range (t.kids.getD 1 zeroTerm) l
  have hm := mul_million r0 r1
  have p0 : r24_Part (t.kids.getD 0 zeroTerm) l = guess_Part (t.kids.getD 0 zeroTerm) l := rfl
  have p1 : r24_Part (t.kids.getD 1 zeroTerm) l = guess_Part (t.kids.getD 1 zeroTerm) l := rfl
  have f0 := ends_le (t := t.kids.getD 0 zeroTerm) hall
  have f1 := ends_le (t := t.kids.getD 1 zeroTerm) hall
  have b0 : (0 : Int) ≤ 0 ∧ (0 : Int) < (t.kids.length : Int) := by omega
  have b1 : (0 : Int) ≤ 1 ∧ (1 : Int) < (t.kids.length : Int) := by omega
  have n0 : ¬ ((1000000 : Int) = 0) := by decide
  unfold r24_two
  rw [guess_Part_unfold]
  unfold r24_two_fn
  rw [if_pos b0, if_pos b1, if_neg h1, if_neg (by omega : ¬ (t.op = 4 ∧ t.kids.length = 1))]
  simp only [p0, p1, r24_two_c1_eq, r24_two_c2_eq, beq_iff_eq, decide_eq_true_eq, k0, k1, hall, if_true, n0, not_false_eq_true, f0, f1]
  generalize hA : guess_Part (t.kids.getD 0 zeroTerm) l = A at *
  generalize hB : guess_Part (t.kids.getD 1 zeroTerm) l = B at *
  have w1 : IntKind.i64.wrap (A * B) = A * B := wrap_id (by omega)
  have w2 : (A * B).tdiv 1000000 = A * B / 1000000 := Int.tdiv_eq_ediv_of_nonneg hm.1.1
  have w3 : IntKind.i64.wrap (A * B / 1000000) = A * B / 1000000 := wrap_id (by omega)
  have w4 : IntKind.i64.wrap (A + B) = A + B := wrap_id (by omega)
  have w5 : IntKind.i64.wrap (A + B - A * B / 1000000) = A + B - A * B / 1000000 := wrap_id (by omega)
  simp only [w1, w2, w3, w4, w5]
  by_cases h17 : t.op = 17
  · rw [if_pos h17, if_pos h17, if_pos ⟨h17, hl⟩]
  rw [if_neg h17, if_neg (by omega : ¬ (t.op = 17 ∧ t.kids.length = 2))]
  by_cases h18 : t.op = 18
  · rw [if_pos h18, if_neg h17, if_pos ⟨h18, hl⟩]
  rw [if_neg h18, if_neg (by omega : ¬ (t.op = 18 ∧ t.kids.length = 2)), if_neg (by omega : ¬ (t.op = 19 ∧ t.kids.length = 1))]
  by_cases g1 : t.op < 11
  · rw [if_pos g1, if_neg (by omega)]
  rw [if_neg g1]
  by_cases g2 : t.op > 16
  · rw [if_pos g2, if_neg (by omega)]
  rw [if_neg g2, if_pos (by omega : (11 ≤ t.op ∧ t.op ≤ 16) ∧ t.kids.length = 2)]
  unfold sides
  by_cases hc : (t.kids.getD 0 zeroTerm).op = 1
  · have hn : colOf (t.kids.getD 0 zeroTerm) l = none := colOf_const hc
    simp only [hc, if_true, r24_turned_spec, r24_compared_eq]
    unfold r24_column
    rw [hn]
    cases colOf (t.kids.getD 1 zeroTerm) l <;> simp
  · simp only [hc, if_false, r24_compared_eq]
    unfold r24_column
    cases colOf (t.kids.getD 0 zeroTerm) l with
    | none => simp
    | some c =>
      simp only [if_true]
      split
      · rfl
      · split <;> rfl

theorem okm_r24_two (m : Nat) (h_r24_Part : FnOK 11 (Fm_r24_Part m)) (h_r24_two : FnOK 26 (Fm_r24_two m)) : FnOK 26 (Fm_r24_two (m + 1)) := by
  intro args ob rs os h hob
  unfold Fm_r24_two at h
  split at h
  · simp only [Option.bind_eq_some_iff, Option.some.injEq, Prod.mk.injEq] at h
    obtain ⟨t, e0, l, e1, rfl, rfl, rfl⟩ := h
    obtain rfl := dS_eq e0
    obtain rfl := dL_eq e1
    exact ⟨fn_contract (M := (M_r24_two m)) rfl (tbl_ok (l1 := [(11, Fm_r24_Part m), (27, F_r24_column), (40, F_r24_compared), (41, F_r24_turned)]) (l2 := []) (l3 := []) (l4 := []) ⟨h_r24_Part, ok_r24_column, ok_r24_compared, ok_r24_turned, trivial⟩ trivial trivial trivial) Try.func26 (by kernel_rfl) N_r24_two 0 [.d] (fun hwf => r24_two_run (r24_two_spec m t l (wfArg hwf (a := .d (.agg (enc Ty.term t))) (List.mem_of_getElem? (i := 0) rfl)) (wfArg hwf (a := .d (.v (.dat (U := Un) Ty.colStat l))) (List.mem_of_getElem? (i := 1) rfl)) (hob _ (List.mem_of_getElem? (i := 0) rfl)) (hob _ (List.mem_of_getElem? (i := 1) rfl)))), hasBody_of Try.func26 (by kernel_rfl) (by kernel_rfl)⟩
  · simp at h


/-! ### tabellionref24.Part -/
def M_r24_Part (m : Nat) : Mc Un := mach (tbl [(26, Fm_r24_two m), (11, Fm_r24_Part m), (27, F_r24_column), (28, F_r24_share)]) (tbl []) (tbl []) (tbl [])
def N_r24_Part : Nat → NS := fun l => (look l []).getD ⟨[], [], [], [], []⟩
theorem r24_Part_in_raw (m : Nat) (t : Term) (l : List ColStat) (K : List (A Un) → List (Ob Un) → Prop) :
    awp (M_r24_Part m) N_r24_Part (bodyOf Try.f11) (entry Try.f11.ntmps 0 [.d (.agg (enc Ty.term t)), .d (.v (.dat (U := Un) Ty.colStat l))]) (retQ (M_r24_Part m) Try.f11.results.toList [.d] K) =
(cnd (t.op == (1 : Int))
 (cnd (t.v.kind == (1 : Int))
  (cnd (t.v.n != (0 : Int))
   (K (A_r24_Part ((1000000 : Int))) (O_r24_Part ((1000000 : Int))))
   (K (A_r24_Part ((0 : Int))) (O_r24_Part ((0 : Int)))))
  (K (A_r24_Part ((0 : Int))) (O_r24_Part ((0 : Int)))))
 (cnd ((↑t.kids.length : Int) == (2 : Int))
  (((2 : Nat) * (Term.mk t.op t.v t.depth t.at_ t.name t.kids t.sub t.type).ht < m) ∧
  ((t.kids.length = (2 : Nat) ∧ ¬t.op = (1 : Int) ∧ (l.all fun c => decide (c.ends.length ≤ (4398046511104 : Nat))) = true) ∧
  (K (A_r24_Part (r24_two (Term.mk t.op t.v t.depth t.at_ t.name t.kids t.sub t.type) l)) (O_r24_Part (r24_two (Term.mk t.op t.v t.depth t.at_ t.name t.kids t.sub t.type) l)))))
  (cnd ((↑t.kids.length : Int) != (1 : Int))
   (K (A_r24_Part ((333333 : Int))) (O_r24_Part ((333333 : Int))))
   (cnd (t.op == (4 : Int))
    (((0 : Int) ≤ (0 : Int) ∧ (0 : Int) < (↑t.kids.length : Int)) ∧
    (((2 : Nat) * (Term.mk (Term.op (t.kids.getD 0 zeroTerm)) (Term.v (t.kids.getD 0 zeroTerm)) (Term.depth (t.kids.getD 0 zeroTerm)) (Term.at_ (t.kids.getD 0 zeroTerm)) (Term.name (t.kids.getD 0 zeroTerm)) (Term.kids (t.kids.getD 0 zeroTerm)) (Term.sub (t.kids.getD 0 zeroTerm)) (Term.type (t.kids.getD 0 zeroTerm))).ht + (1 : Nat) < m) ∧
    (((l.all fun c => decide (c.ends.length ≤ (4398046511104 : Nat))) = true) ∧
    (K (A_r24_Part (IntKind.i64.wrap ((1000000 : Int) - r24_Part (Term.mk (Term.op (t.kids.getD 0 zeroTerm)) (Term.v (t.kids.getD 0 zeroTerm)) (Term.depth (t.kids.getD 0 zeroTerm)) (Term.at_ (t.kids.getD 0 zeroTerm)) (Term.name (t.kids.getD 0 zeroTerm)) (Term.kids (t.kids.getD 0 zeroTerm)) (Term.sub (t.kids.getD 0 zeroTerm)) (Term.type (t.kids.getD 0 zeroTerm))) l))) (O_r24_Part (IntKind.i64.wrap ((1000000 : Int) - r24_Part (Term.mk (Term.op (t.kids.getD 0 zeroTerm)) (Term.v (t.kids.getD 0 zeroTerm)) (Term.depth (t.kids.getD 0 zeroTerm)) (Term.at_ (t.kids.getD 0 zeroTerm)) (Term.name (t.kids.getD 0 zeroTerm)) (Term.kids (t.kids.getD 0 zeroTerm)) (Term.sub (t.kids.getD 0 zeroTerm)) (Term.type (t.kids.getD 0 zeroTerm))) l)))))))
    (((0 : Int) ≤ (0 : Int) ∧ (0 : Int) < (↑t.kids.length : Int)) ∧
    (cnd (t.op == (19 : Int))
     (cnd ((r24_column (Term.mk (Term.op (t.kids.getD 0 zeroTerm)) (Term.v (t.kids.getD 0 zeroTerm)) (Term.depth (t.kids.getD 0 zeroTerm)) (Term.at_ (t.kids.getD 0 zeroTerm)) (Term.name (t.kids.getD 0 zeroTerm)) (Term.kids (t.kids.getD 0 zeroTerm)) (Term.sub (t.kids.getD 0 zeroTerm)) (Term.type (t.kids.getD 0 zeroTerm))) l).snd)
      (K (A_r24_Part (r24_share (r24_column (Term.mk (Term.op (t.kids.getD 0 zeroTerm)) (Term.v (t.kids.getD 0 zeroTerm)) (Term.depth (t.kids.getD 0 zeroTerm)) (Term.at_ (t.kids.getD 0 zeroTerm)) (Term.name (t.kids.getD 0 zeroTerm)) (Term.kids (t.kids.getD 0 zeroTerm)) (Term.sub (t.kids.getD 0 zeroTerm)) (Term.type (t.kids.getD 0 zeroTerm))) l).fst (r24_column (Term.mk (Term.op (t.kids.getD 0 zeroTerm)) (Term.v (t.kids.getD 0 zeroTerm)) (Term.depth (t.kids.getD 0 zeroTerm)) (Term.at_ (t.kids.getD 0 zeroTerm)) (Term.name (t.kids.getD 0 zeroTerm)) (Term.kids (t.kids.getD 0 zeroTerm)) (Term.sub (t.kids.getD 0 zeroTerm)) (Term.type (t.kids.getD 0 zeroTerm))) l).fst.nulls)) (O_r24_Part (r24_share (r24_column (Term.mk (Term.op (t.kids.getD 0 zeroTerm)) (Term.v (t.kids.getD 0 zeroTerm)) (Term.depth (t.kids.getD 0 zeroTerm)) (Term.at_ (t.kids.getD 0 zeroTerm)) (Term.name (t.kids.getD 0 zeroTerm)) (Term.kids (t.kids.getD 0 zeroTerm)) (Term.sub (t.kids.getD 0 zeroTerm)) (Term.type (t.kids.getD 0 zeroTerm))) l).fst (r24_column (Term.mk (Term.op (t.kids.getD 0 zeroTerm)) (Term.v (t.kids.getD 0 zeroTerm)) (Term.depth (t.kids.getD 0 zeroTerm)) (Term.at_ (t.kids.getD 0 zeroTerm)) (Term.name (t.kids.getD 0 zeroTerm)) (Term.kids (t.kids.getD 0 zeroTerm)) (Term.sub (t.kids.getD 0 zeroTerm)) (Term.type (t.kids.getD 0 zeroTerm))) l).fst.nulls)))
      (K (A_r24_Part ((333333 : Int))) (O_r24_Part ((333333 : Int)))))
     (K (A_r24_Part ((333333 : Int))) (O_r24_Part ((333333 : Int)))))))))) := by kernel_rfl
theorem r24_Part_in (m : Nat) (t : Term) (l : List ColStat) (K : List (A Un) → List (Ob Un) → Prop) :
    awp (M_r24_Part m) N_r24_Part (bodyOf Try.f11) (entry Try.f11.ntmps 0 [.d (.agg (enc Ty.term t)), .d (.v (.dat (U := Un) Ty.colStat l))]) (retQ (M_r24_Part m) Try.f11.results.toList [.d] K) =
(cnd (t.op == (1 : Int))
 (cnd (t.v.kind == (1 : Int))
  (cnd (t.v.n != (0 : Int))
   (K (A_r24_Part ((1000000 : Int))) (O_r24_Part ((1000000 : Int))))
   (K (A_r24_Part ((0 : Int))) (O_r24_Part ((0 : Int)))))
  (K (A_r24_Part ((0 : Int))) (O_r24_Part ((0 : Int)))))
 (cnd ((↑t.kids.length : Int) == (2 : Int))
  (((2 : Nat) * t.ht < m) ∧
  ((t.kids.length = (2 : Nat) ∧ ¬t.op = (1 : Int) ∧ (l.all fun c => decide (c.ends.length ≤ (4398046511104 : Nat))) = true) ∧
  (K (A_r24_Part (r24_two t l)) (O_r24_Part (r24_two t l)))))
  (cnd ((↑t.kids.length : Int) != (1 : Int))
   (K (A_r24_Part ((333333 : Int))) (O_r24_Part ((333333 : Int))))
   (cnd (t.op == (4 : Int))
    (((0 : Int) ≤ (0 : Int) ∧ (0 : Int) < (↑t.kids.length : Int)) ∧
    (((2 : Nat) * (t.kids.getD 0 zeroTerm).ht + (1 : Nat) < m) ∧
    (((l.all fun c => decide (c.ends.length ≤ (4398046511104 : Nat))) = true) ∧
    (K (A_r24_Part (IntKind.i64.wrap ((1000000 : Int) - r24_Part (t.kids.getD 0 zeroTerm) l))) (O_r24_Part (IntKind.i64.wrap ((1000000 : Int) - r24_Part (t.kids.getD 0 zeroTerm) l)))))))
    (((0 : Int) ≤ (0 : Int) ∧ (0 : Int) < (↑t.kids.length : Int)) ∧
    (cnd (t.op == (19 : Int))
     (cnd ((r24_column (t.kids.getD 0 zeroTerm) l).snd)
      (K (A_r24_Part (r24_share (r24_column (t.kids.getD 0 zeroTerm) l).fst (r24_column (t.kids.getD 0 zeroTerm) l).fst.nulls)) (O_r24_Part (r24_share (r24_column (t.kids.getD 0 zeroTerm) l).fst (r24_column (t.kids.getD 0 zeroTerm) l).fst.nulls)))
      (K (A_r24_Part ((333333 : Int))) (O_r24_Part ((333333 : Int)))))
     (K (A_r24_Part ((333333 : Int))) (O_r24_Part ((333333 : Int)))))))))) :=
  (r24_Part_in_raw m t l K).trans (by simp only [Term.eta])
def r24_Part_fn (m : Nat) (t : Term) (l : List ColStat) : Option (Int) :=
  if (t.op == (1 : Int)) = true then
   if (t.v.kind == (1 : Int)) = true then
    if (t.v.n != (0 : Int)) = true then
     some ((1000000 : Int))
    else
     some ((0 : Int))
   else
    some ((0 : Int))
  else
   if ((↑t.kids.length : Int) == (2 : Int)) = true then
    if (2 : Nat) * t.ht < m then
     if t.kids.length = (2 : Nat) ∧ ¬t.op = (1 : Int) ∧ (l.all fun c => decide (c.ends.length ≤ (4398046511104 : Nat))) = true then
      some (r24_two t l)
     else none
    else none
   else
    if ((↑t.kids.length : Int) != (1 : Int)) = true then
     some ((333333 : Int))
    else
     if (t.op == (4 : Int)) = true then
      if (0 : Int) ≤ (0 : Int) ∧ (0 : Int) < (↑t.kids.length : Int) then
       if (2 : Nat) * (t.kids.getD 0 zeroTerm).ht + (1 : Nat) < m then
        if (l.all fun c => decide (c.ends.length ≤ (4398046511104 : Nat))) = true then
         some (IntKind.i64.wrap ((1000000 : Int) - r24_Part (t.kids.getD 0 zeroTerm) l))
        else none
       else none
      else none
     else
      if (0 : Int) ≤ (0 : Int) ∧ (0 : Int) < (↑t.kids.length : Int) then
       if (t.op == (19 : Int)) = true then
        if ((r24_column (t.kids.getD 0 zeroTerm) l).snd) = true then
         some (r24_share (r24_column (t.kids.getD 0 zeroTerm) l).fst (r24_column (t.kids.getD 0 zeroTerm) l).fst.nulls)
        else
         some ((333333 : Int))
       else
        some ((333333 : Int))
      else none
theorem r24_Part_run {m : Nat} {t : Term} {l : List ColStat} {r : Int} (h : r24_Part_fn m t l = some r) : Runs (awp (M_r24_Part m) N_r24_Part (bodyOf Try.f11) (entry Try.f11.ntmps 0 [.d (.agg (enc Ty.term t)), .d (.v (.dat (U := Un) Ty.colStat l))]) (retQ (M_r24_Part m) Try.f11.results.toList [.d] fun rs os => rs = A_r24_Part r ∧ os = O_r24_Part r)) := by
  constructor
  rw [r24_Part_in m t l (fun rs os => rs = A_r24_Part r ∧ os = O_r24_Part r)]
  unfold r24_Part_fn at h
  rcases ite_some h with ⟨c1, h2⟩ | ⟨c1, h2⟩
  · rcases ite_some h2 with ⟨c3, h4⟩ | ⟨c3, h4⟩
    · rcases ite_some h4 with ⟨c5, h6⟩ | ⟨c5, h6⟩
      · cases h6
        exact (cnd_t c1 (cnd_t c3 (cnd_t c5 ⟨rfl, rfl⟩)))
      · cases h6
        exact (cnd_t c1 (cnd_t c3 (cnd_f (bfalse c5) ⟨rfl, rfl⟩)))
    · cases h4
      exact (cnd_t c1 (cnd_f (bfalse c3) ⟨rfl, rfl⟩))
  · rcases ite_some h2 with ⟨c7, h8⟩ | ⟨c7, h8⟩
    · obtain ⟨c9, h10⟩ := ob_some h8
      obtain ⟨c11, h12⟩ := ob_some h10
      cases h12
      exact (cnd_f (bfalse c1) (cnd_t c7 (And.intro c9 (And.intro c11 ⟨rfl, rfl⟩))))
    · rcases ite_some h8 with ⟨c13, h14⟩ | ⟨c13, h14⟩
      · cases h14
        exact (cnd_f (bfalse c1) (cnd_f (bfalse c7) (cnd_t c13 ⟨rfl, rfl⟩)))
      · rcases ite_some h14 with ⟨c15, h16⟩ | ⟨c15, h16⟩
        · obtain ⟨c17, h18⟩ := ob_some h16
          obtain ⟨c19, h20⟩ := ob_some h18
          obtain ⟨c21, h22⟩ := ob_some h20
          cases h22
          exact (cnd_f (bfalse c1) (cnd_f (bfalse c7) (cnd_f (bfalse c13) (cnd_t c15 (And.intro c17 (And.intro c19 (And.intro c21 ⟨rfl, rfl⟩)))))))
        · obtain ⟨c23, h24⟩ := ob_some h16
          rcases ite_some h24 with ⟨c25, h26⟩ | ⟨c25, h26⟩
          · rcases ite_some h26 with ⟨c27, h28⟩ | ⟨c27, h28⟩
            · cases h28
              exact (cnd_f (bfalse c1) (cnd_f (bfalse c7) (cnd_f (bfalse c13) (cnd_f (bfalse c15) (And.intro c23 (cnd_t c25 (cnd_t c27 ⟨rfl, rfl⟩)))))))
            · cases h28
              exact (cnd_f (bfalse c1) (cnd_f (bfalse c7) (cnd_f (bfalse c13) (cnd_f (bfalse c15) (And.intro c23 (cnd_t c25 (cnd_f (bfalse c27) ⟨rfl, rfl⟩)))))))
          · cases h26
            exact (cnd_f (bfalse c1) (cnd_f (bfalse c7) (cnd_f (bfalse c13) (cnd_f (bfalse c15) (And.intro c23 (cnd_f (bfalse c25) ⟨rfl, rfl⟩))))))

theorem r24_Part_spec (m : Nat) (t : Term) (l : List ColStat) (_h1 : WS .term t) (_h2 : WL .colStat l) (h3 : 2 * t.ht + 1 < m + 1) (hall : l.all (fun c => decide (c.ends.length ≤ 4398046511104)) = true) : r24_Part_fn m t l = some (r24_Part t l) := by
  have k0 : t.kids.length = 1 → 2 * (t.kids.getD 0 zeroTerm).ht + 1 < m := fun hl => by have := kid0_ht (t := t) (.inl hl); omega
  have k2 : 2 * t.ht < m := by omega
  have r0 := guess_Part_range (t.kids.getD 0 zeroTerm) l
  have p0 : r24_Part (t.kids.getD 0 zeroTerm) l = guess_Part (t.kids.getD 0 zeroTerm) l := rfl
  have pt : r24_Part t l = guess_Part t l := rfl
  have l2 : ((t.kids.length : Int) = 2) = (t.kids.length = 2) := by simp only [eq_iff_iff]; omega
  have l1 : ((t.kids.length : Int) = 1) = (t.kids.length = 1) := by simp only [eq_iff_iff]; omega
  unfold r24_Part_fn
  simp only [beq_iff_eq, bne_iff_ne, ne_eq, ite_not, l1, l2]
  by_cases h1 : t.op = 1
  · rw [if_pos h1, pt, guess_Part_unfold, if_pos h1]
    by_cases a : t.v.kind = 1 <;> by_cases b : t.v.n = 0 <;> simp [a, b]
  rw [if_neg h1]
  by_cases hl : t.kids.length = 2
  · rw [if_pos hl, if_pos k2, if_pos ⟨hl, h1, hall⟩]; rfl
  rw [if_neg hl, p0, pt, guess_Part_unfold t l, if_neg h1, if_neg (by omega : ¬ (t.op = 17 ∧ t.kids.length = 2)), if_neg (by omega : ¬ (t.op = 18 ∧ t.kids.length = 2)), if_neg (by omega : ¬ ((11 ≤ t.op ∧ t.op ≤ 16) ∧ t.kids.length = 2))]
  by_cases hk : t.kids.length = 1
  · rw [if_pos hk]
    have b0 : (0 : Int) ≤ 0 ∧ (0 : Int) < (t.kids.length : Int) := by omega
    by_cases h4 : t.op = 4
    · rw [if_pos h4, if_pos b0, if_pos (k0 hk), if_pos hall, if_pos ⟨h4, hk⟩, wrap_id (by omega)]
    · rw [if_neg h4, if_pos b0]
      by_cases h19 : t.op = 19
      · rw [if_pos h19, if_neg (by omega : ¬ (t.op = 4 ∧ t.kids.length = 1)), if_pos (show t.op = 19 ∧ t.kids.length = 1 from ⟨h19, hk⟩)]
        simp only [r24_share_eq]
        unfold r24_column
        cases colOf (t.kids.getD 0 zeroTerm) l <;> simp
      · rw [if_neg h19, if_neg (by omega : ¬ (t.op = 4 ∧ t.kids.length = 1)), if_neg (by omega : ¬ (t.op = 19 ∧ t.kids.length = 1))]
  · rw [if_neg hk, if_neg (by omega : ¬ (t.op = 4 ∧ t.kids.length = 1)), if_neg (by omega : ¬ (t.op = 19 ∧ t.kids.length = 1))]

theorem okm_r24_Part (m : Nat) (h_r24_Part : FnOK 11 (Fm_r24_Part m)) (h_r24_two : FnOK 26 (Fm_r24_two m)) : FnOK 11 (Fm_r24_Part (m + 1)) := by
  intro args ob rs os h hob
  unfold Fm_r24_Part at h
  split at h
  · simp only [Option.bind_eq_some_iff, Option.some.injEq, Prod.mk.injEq] at h
    obtain ⟨t, e0, l, e1, rfl, rfl, rfl⟩ := h
    obtain rfl := dS_eq e0
    obtain rfl := dL_eq e1
    exact ⟨fn_contract (M := (M_r24_Part m)) rfl (tbl_ok (l1 := [(26, Fm_r24_two m), (11, Fm_r24_Part m), (27, F_r24_column), (28, F_r24_share)]) (l2 := []) (l3 := []) (l4 := []) ⟨h_r24_two, h_r24_Part, ok_r24_column, ok_r24_share, trivial⟩ trivial trivial trivial) Try.func11 (by kernel_rfl) N_r24_Part 0 [.d] (fun hwf => r24_Part_run (r24_Part_spec m t l (wfArg hwf (a := .d (.agg (enc Ty.term t))) (List.mem_of_getElem? (i := 0) rfl)) (wfArg hwf (a := .d (.v (.dat (U := Un) Ty.colStat l))) (List.mem_of_getElem? (i := 1) rfl)) (hob _ (List.mem_of_getElem? (i := 0) rfl)) (hob _ (List.mem_of_getElem? (i := 1) rfl)))), hasBody_of Try.func11 (by kernel_rfl) (by kernel_rfl)⟩
  · simp at h


theorem okAll_r24p : ∀ m, FnOK 11 (Fm_r24_Part m) ∧ FnOK 26 (Fm_r24_two m)
  | 0 => by
    refine ⟨?_, ?_⟩
    · intro args ob rs os h hob
      unfold Fm_r24_Part at h
      split at h
      · simp only [Option.bind_eq_some_iff, Option.some.injEq, Prod.mk.injEq] at h
        obtain ⟨_, _, _, _, rfl, _, _⟩ := h
        exact absurd (hob _ (List.mem_of_getElem? (i := 0) rfl)) (Nat.not_lt_zero _)
      · simp at h
    · intro args ob rs os h hob
      unfold Fm_r24_two at h
      split at h
      · simp only [Option.bind_eq_some_iff, Option.some.injEq, Prod.mk.injEq] at h
        obtain ⟨_, _, _, _, rfl, _, _⟩ := h
        exact absurd (hob _ (List.mem_of_getElem? (i := 0) rfl)) (Nat.not_lt_zero _)
      · simp at h
  | m + 1 => by
    have ih := okAll_r24p m
    exact ⟨okm_r24_Part m ih.1 ih.2, okm_r24_two m ih.1 ih.2⟩

def F_r24_Part : FnC Un := fun args => match args with
  | [x0, x1] => (dS .term x0).bind fun t => (dL .colStat x1).bind fun l => some ([l.all (fun c => decide (c.ends.length ≤ 4398046511104)) = true], A_r24_Part (r24_Part t l), O_r24_Part (r24_Part t l))
  | _ => none

theorem ok_r24_Part : FnOK 11 F_r24_Part := by
  intro args ob rs os h hob
  unfold F_r24_Part at h
  split at h
  · simp only [Option.bind_eq_some_iff, Option.some.injEq, Prod.mk.injEq] at h
    obtain ⟨t, e0, l, e1, rfl, rfl, rfl⟩ := h
    refine ((okAll_r24p (2 * t.ht + 1 + 1)).1) _ ((2 * t.ht + 1 < 2 * t.ht + 1 + 1) :: [l.all (fun c => decide (c.ends.length ≤ 4398046511104)) = true]) _ _ (?_ : Fm_r24_Part (2 * t.ht + 1 + 1) _ = some _) ?_
    · unfold Fm_r24_Part
      simp only [e0, e1, Option.bind_some]
    · intro p hp
      rcases List.mem_cons.1 hp with rfl | hp
      · exact Nat.lt_succ_self _
      · exact hob p hp
  · simp at h

def F_r24_two : FnC Un := fun args => match args with
  | [x0, x1] => (dS .term x0).bind fun t => (dL .colStat x1).bind fun l => some ([t.kids.length = 2 ∧ ¬ t.op = 1 ∧ l.all (fun c => decide (c.ends.length ≤ 4398046511104)) = true], A_r24_two (r24_two t l), O_r24_two (r24_two t l))
  | _ => none

theorem ok_r24_two : FnOK 26 F_r24_two := by
  intro args ob rs os h hob
  unfold F_r24_two at h
  split at h
  · simp only [Option.bind_eq_some_iff, Option.some.injEq, Prod.mk.injEq] at h
    obtain ⟨t, e0, l, e1, rfl, rfl, rfl⟩ := h
    refine ((okAll_r24p (2 * t.ht + 1)).2) _ ((2 * t.ht < 2 * t.ht + 1) :: [t.kids.length = 2 ∧ ¬ t.op = 1 ∧ l.all (fun c => decide (c.ends.length ≤ 4398046511104)) = true]) _ _ (?_ : Fm_r24_two (2 * t.ht + 1) _ = some _) ?_
    · unfold Fm_r24_two
      simp only [e0, e1, Option.bind_some]
    · intro p hp
      rcases List.mem_cons.1 hp with rfl | hp
      · exact Nat.lt_succ_self _
      · exact hob p hp
  · simp at h

end
end Go.Proofs.Ytjndihloefdplaa.B
