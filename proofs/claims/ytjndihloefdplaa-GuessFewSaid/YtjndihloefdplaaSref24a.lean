/- Functions: ref24a. (Printed by wip/tools/mkfn.py out of wip/src/ref24a.src.) -/
import Derived.Test.YtjndihloefdplaaBLib
import Derived.Test.YtjndihloefdplaaSspec
import Derived.Test.YtjndihloefdplaaSspec26
import Derived.Test.YtjndihloefdplaaSterms
import Derived.Test.YtjndihloefdplaaSlcmp
import Derived.Test.YtjndihloefdplaaSvcmp
import Derived.Test.YtjndihloefdplaaSref03
import Derived.Test.YtjndihloefdplaaSref03c
import Derived.Test.YtjndihloefdplaaSbits
import Derived.Test.YtjndihloefdplaaSguess1
import Derived.Test.YtjndihloefdplaaSguess2
import Derived.Test.YtjndihloefdplaaSguess3
import Derived.Test.YtjndihloefdplaaSguess4
import Derived.Test.YtjndihloefdplaaSguess5
namespace Go.Proofs.Ytjndihloefdplaa.B
open Go Go.RowKit
set_option maxRecDepth 100000
noncomputable section
attribute [local irreducible] awp ctxK itersK iterK retQ retGQ

/-! ### tabellionref24.size -/
def M_r24_size : Mc Un := mach (tbl []) (tbl []) (tbl []) (tbl [])
def N_r24_size : Nat → NS := fun l => (look l []).getD ⟨[], [], [], [], []⟩
def A_r24_size (r : Int) : List (A Un) := [.c (.s (.int .i64 r))]
def O_r24_size (_r : Int) : List (Ob Un) := []
theorem r24_size_in (n : Int) (K : List (A Un) → List (Ob Un) → Prop) :
    awp M_r24_size N_r24_size (bodyOf Try.f31) (entry Try.f31.ntmps 0 [.d (.v (.s (.int .i64 n)))]) (retQ M_r24_size Try.f31.results.toList [.d] K) =
(cnd (decide (n < (0 : Int)))
 (K (A_r24_size ((0 : Int))) (O_r24_size ((0 : Int))))
 (K (A_r24_size (List.foldl (fun a b => if b < a then b else a) n [(1000000000000 : Int)])) (O_r24_size (List.foldl (fun a b => if b < a then b else a) n [(1000000000000 : Int)])))) := by kernel_rfl
def r24_size_fn (n : Int) : Option (Int) :=
  if (decide (n < (0 : Int))) = true then
   some ((0 : Int))
  else
   some (List.foldl (fun a b => if b < a then b else a) n [(1000000000000 : Int)])
theorem r24_size_run {n : Int} {r : Int} (h : r24_size_fn n = some r) : Runs (awp M_r24_size N_r24_size (bodyOf Try.f31) (entry Try.f31.ntmps 0 [.d (.v (.s (.int .i64 n)))]) (retQ M_r24_size Try.f31.results.toList [.d] fun rs os => rs = A_r24_size r ∧ os = O_r24_size r)) := by
  constructor
  rw [r24_size_in n (fun rs os => rs = A_r24_size r ∧ os = O_r24_size r)]
  unfold r24_size_fn at h
  rcases ite_some h with ⟨c1, h2⟩ | ⟨c1, h2⟩
  · cases h2
    exact (cnd_t c1 ⟨rfl, rfl⟩)
  · cases h2
    exact (cnd_f (bfalse c1) ⟨rfl, rfl⟩)

def r24_size (n : Int) : Int := szI n

@[simp] theorem r24_size_eq (n : Int) : r24_size n = szI n := by unfold r24_size; rfl
theorem r24_size_spec (n : Int) (_h : WI n) : r24_size_fn n = some (r24_size n) := by
  unfold r24_size_fn r24_size szI
  rw [foldMin]
  by_cases h : n < 0
  · rw [if_pos (decide_eq_true h)]; congr 1; omega
  · rw [if_neg (by simpa using h)]; congr 1; omega

def F_r24_size : FnC Un := fun args => match args with
  | [x0] => (dI .i64 x0).bind fun n => some ([], A_r24_size (r24_size n), O_r24_size (r24_size n))
  | _ => none

theorem ok_r24_size : FnOK 31 F_r24_size := by
  intro args ob rs os h hob
  unfold F_r24_size at h
  split at h
  · simp only [Option.bind_eq_some_iff, Option.some.injEq, Prod.mk.injEq] at h
    obtain ⟨n, e0, rfl, rfl, rfl⟩ := h
    obtain rfl := dI_eq e0
    exact ⟨fn_contract (M := M_r24_size) rfl (tbl_ok (l1 := []) (l2 := []) (l3 := []) (l4 := []) trivial trivial trivial trivial) Try.func31 (by kernel_rfl) N_r24_size 0 [.d] (fun hwf => r24_size_run (r24_size_spec n (wfArg hwf (a := .d (.v (.s (.int .i64 n)))) (List.mem_of_getElem? (i := 0) rfl)))), hasBody_of Try.func31 (by kernel_rfl) (by kernel_rfl)⟩
  · simp at h


/-! ### tabellionref24.turned -/
def M_r24_turned : Mc Un := mach (tbl []) (tbl []) (tbl []) (tbl [])
def N_r24_turned : Nat → NS := fun l => (look l []).getD ⟨[], [], [], [], []⟩
def A_r24_turned (r : Int) : List (A Un) := [.c (.s (.int .i64 r))]
def O_r24_turned (_r : Int) : List (Ob Un) := []
theorem r24_turned_in (op : Int) (K : List (A Un) → List (Ob Un) → Prop) :
    awp M_r24_turned N_r24_turned (bodyOf Try.f41) (entry Try.f41.ntmps 0 [.d (.v (.s (.int .i64 op)))]) (retQ M_r24_turned Try.f41.results.toList [.d] K) =
(cnd (op == (13 : Int))
 (K (A_r24_turned ((15 : Int))) (O_r24_turned ((15 : Int))))
 (cnd (op == (14 : Int))
  (K (A_r24_turned ((16 : Int))) (O_r24_turned ((16 : Int))))
  (cnd (op == (15 : Int))
   (K (A_r24_turned ((13 : Int))) (O_r24_turned ((13 : Int))))
   (cnd (op == (16 : Int))
    (K (A_r24_turned ((14 : Int))) (O_r24_turned ((14 : Int))))
    (K (A_r24_turned (op)) (O_r24_turned (op))))))) := by kernel_rfl
def r24_turned_fn (op : Int) : Option (Int) :=
  if (op == (13 : Int)) = true then
   some ((15 : Int))
  else
   if (op == (14 : Int)) = true then
    some ((16 : Int))
   else
    if (op == (15 : Int)) = true then
     some ((13 : Int))
    else
     if (op == (16 : Int)) = true then
      some ((14 : Int))
     else
      some (op)
theorem r24_turned_run {op : Int} {r : Int} (h : r24_turned_fn op = some r) : Runs (awp M_r24_turned N_r24_turned (bodyOf Try.f41) (entry Try.f41.ntmps 0 [.d (.v (.s (.int .i64 op)))]) (retQ M_r24_turned Try.f41.results.toList [.d] fun rs os => rs = A_r24_turned r ∧ os = O_r24_turned r)) := by
  constructor
  rw [r24_turned_in op (fun rs os => rs = A_r24_turned r ∧ os = O_r24_turned r)]
  unfold r24_turned_fn at h
  rcases ite_some h with ⟨c1, h2⟩ | ⟨c1, h2⟩
  · cases h2
    exact (cnd_t c1 ⟨rfl, rfl⟩)
  · rcases ite_some h2 with ⟨c3, h4⟩ | ⟨c3, h4⟩
    · cases h4
      exact (cnd_f (bfalse c1) (cnd_t c3 ⟨rfl, rfl⟩))
    · rcases ite_some h4 with ⟨c5, h6⟩ | ⟨c5, h6⟩
      · cases h6
        exact (cnd_f (bfalse c1) (cnd_f (bfalse c3) (cnd_t c5 ⟨rfl, rfl⟩)))
      · rcases ite_some h6 with ⟨c7, h8⟩ | ⟨c7, h8⟩
        · cases h8
          exact (cnd_f (bfalse c1) (cnd_f (bfalse c3) (cnd_f (bfalse c5) (cnd_t c7 ⟨rfl, rfl⟩))))
        · cases h8
          exact (cnd_f (bfalse c1) (cnd_f (bfalse c3) (cnd_f (bfalse c5) (cnd_f (bfalse c7) ⟨rfl, rfl⟩))))
def r24_turned (op : Int) : Int :=
  if (op == (13 : Int)) = true then
   ((15 : Int))
  else
   if (op == (14 : Int)) = true then
    ((16 : Int))
   else
    if (op == (15 : Int)) = true then
     ((13 : Int))
    else
     if (op == (16 : Int)) = true then
      ((14 : Int))
     else
      (op)
theorem r24_turned_eq (op : Int) : r24_turned_fn op = some (r24_turned op) := by unfold r24_turned_fn r24_turned; repeat (first | rfl | split)

def F_r24_turned : FnC Un := fun args => match args with
  | [x0] => (dI .i64 x0).bind fun op => some ([], A_r24_turned (r24_turned op), O_r24_turned (r24_turned op))
  | _ => none

theorem ok_r24_turned : FnOK 41 F_r24_turned := by
  intro args ob rs os h hob
  unfold F_r24_turned at h
  split at h
  · simp only [Option.bind_eq_some_iff, Option.some.injEq, Prod.mk.injEq] at h
    obtain ⟨op, e0, rfl, rfl, rfl⟩ := h
    obtain rfl := dI_eq e0
    exact ⟨fn_contract (M := M_r24_turned) rfl (tbl_ok (l1 := []) (l2 := []) (l3 := []) (l4 := []) trivial trivial trivial trivial) Try.func41 (by kernel_rfl) N_r24_turned 0 [.d] (fun hwf => r24_turned_run (r24_turned_eq op)), hasBody_of Try.func41 (by kernel_rfl) (by kernel_rfl)⟩
  · simp at h

@[simp] theorem r24_turned_spec (op : Int) : r24_turned op = turnedI op := by
  unfold r24_turned turnedI; simp only [beq_iff_eq]


/-! ### tabellionref24.column -/
def M_r24_column : Mc Un := mach (tbl []) (tbl []) (tbl []) (tbl [])
def N_r24_column : Nat → NS := fun l => (look l []).getD ⟨[], [], [], [], []⟩
def A_r24_column (r : ColStat × Bool) : List (A Un) := [.agg (encC Ty.colStat r.1), .c (.s (.bool r.2))]
def O_r24_column (_r : ColStat × Bool) : List (Ob Un) := []
theorem r24_column_in (t : Term) (l : List ColStat) (K : List (A Un) → List (Ob Un) → Prop) :
    awp M_r24_column N_r24_column (bodyOf Try.f27) (entry Try.f27.ntmps 0 [.d (.agg (enc Ty.term t)), .d (.v (.dat (U := Un) Ty.colStat l))]) (retQ M_r24_column Try.f27.results.toList [.d, .d] K) =
(cnd (t.op != (2 : Int))
 (K (A_r24_column (zeroColStat, false)) (O_r24_column (zeroColStat, false)))
 (cnd (t.depth != (0 : Int))
  (K (A_r24_column (zeroColStat, false)) (O_r24_column (zeroColStat, false)))
  (cnd (decide (t.at_ < (0 : Int)))
   (K (A_r24_column (zeroColStat, false)) (O_r24_column (zeroColStat, false)))
   (cnd (decide (t.at_ ≥ (↑l.length : Int)))
    (K (A_r24_column (zeroColStat, false)) (O_r24_column (zeroColStat, false)))
    (((0 : Int) ≤ t.at_ ∧ t.at_ < (↑l.length : Int)) ∧
    (K (A_r24_column (l.getD t.at_.toNat zeroColStat, true)) (O_r24_column (l.getD t.at_.toNat zeroColStat, true)))))))) := by kernel_rfl
def r24_column_fn (t : Term) (l : List ColStat) : Option (ColStat × Bool) :=
  if (t.op != (2 : Int)) = true then
   some (zeroColStat, false)
  else
   if (t.depth != (0 : Int)) = true then
    some (zeroColStat, false)
   else
    if (decide (t.at_ < (0 : Int))) = true then
     some (zeroColStat, false)
    else
     if (decide (t.at_ ≥ (↑l.length : Int))) = true then
      some (zeroColStat, false)
     else
      if (0 : Int) ≤ t.at_ ∧ t.at_ < (↑l.length : Int) then
       some (l.getD t.at_.toNat zeroColStat, true)
      else none
theorem r24_column_run {t : Term} {l : List ColStat} {r : ColStat × Bool} (h : r24_column_fn t l = some r) : Runs (awp M_r24_column N_r24_column (bodyOf Try.f27) (entry Try.f27.ntmps 0 [.d (.agg (enc Ty.term t)), .d (.v (.dat (U := Un) Ty.colStat l))]) (retQ M_r24_column Try.f27.results.toList [.d, .d] fun rs os => rs = A_r24_column r ∧ os = O_r24_column r)) := by
  constructor
  rw [r24_column_in t l (fun rs os => rs = A_r24_column r ∧ os = O_r24_column r)]
  unfold r24_column_fn at h
  rcases ite_some h with ⟨c1, h2⟩ | ⟨c1, h2⟩
  · cases h2
    exact (cnd_t c1 ⟨rfl, rfl⟩)
  · rcases ite_some h2 with ⟨c3, h4⟩ | ⟨c3, h4⟩
    · cases h4
      exact (cnd_f (bfalse c1) (cnd_t c3 ⟨rfl, rfl⟩))
    · rcases ite_some h4 with ⟨c5, h6⟩ | ⟨c5, h6⟩
      · cases h6
        exact (cnd_f (bfalse c1) (cnd_f (bfalse c3) (cnd_t c5 ⟨rfl, rfl⟩)))
      · rcases ite_some h6 with ⟨c7, h8⟩ | ⟨c7, h8⟩
        · cases h8
          exact (cnd_f (bfalse c1) (cnd_f (bfalse c3) (cnd_f (bfalse c5) (cnd_t c7 ⟨rfl, rfl⟩))))
        · obtain ⟨c9, h10⟩ := ob_some h8
          cases h10
          exact (cnd_f (bfalse c1) (cnd_f (bfalse c3) (cnd_f (bfalse c5) (cnd_f (bfalse c7) (And.intro c9 ⟨rfl, rfl⟩)))))

def r24_column (t : Term) (l : List ColStat) : ColStat × Bool := match colOf t l with | some c => (c, true) | none => (zeroColStat, false)

theorem r24_column_spec (t : Term) (l : List ColStat) (_ht : WS .term t) (_hl : WL .colStat l) : r24_column_fn t l = some (r24_column t l) := by
  unfold r24_column_fn r24_column colOf
  simp only [bne_iff_ne, ne_eq, ite_not, decide_eq_true_eq]
  by_cases h1 : t.op = 2
  · by_cases h2 : t.depth = 0
    · by_cases h3 : t.at_ < 0
      · have : ¬ (0 ≤ t.at_) := by omega
        simp [h1, h2, h3, this]
      · by_cases h4 : t.at_ ≥ (l.length : Int)
        · have : ¬ (t.at_ < (l.length : Int)) := by omega
          simp [h1, h2, h3, h4, this]
        · have g1 : 0 ≤ t.at_ := by omega
          have g2 : t.at_ < (l.length : Int) := by omega
          simp [h1, h2, h3, h4, g1, g2]
    · simp [h1, h2]
  · simp [h1]

def F_r24_column : FnC Un := fun args => match args with
  | [x0, x1] => (dS .term x0).bind fun t => (dL .colStat x1).bind fun l => some ([], A_r24_column (r24_column t l), O_r24_column (r24_column t l))
  | _ => none

theorem ok_r24_column : FnOK 27 F_r24_column := by
  intro args ob rs os h hob
  unfold F_r24_column at h
  split at h
  · simp only [Option.bind_eq_some_iff, Option.some.injEq, Prod.mk.injEq] at h
    obtain ⟨t, e0, l, e1, rfl, rfl, rfl⟩ := h
    obtain rfl := dS_eq e0
    obtain rfl := dL_eq e1
    exact ⟨fn_contract (M := M_r24_column) rfl (tbl_ok (l1 := []) (l2 := []) (l3 := []) (l4 := []) trivial trivial trivial trivial) Try.func27 (by kernel_rfl) N_r24_column 0 [.d, .d] (fun hwf => r24_column_run (r24_column_spec t l (wfArg hwf (a := .d (.agg (enc Ty.term t))) (List.mem_of_getElem? (i := 0) rfl)) (wfArg hwf (a := .d (.v (.dat (U := Un) Ty.colStat l))) (List.mem_of_getElem? (i := 1) rfl)))), hasBody_of Try.func27 (by kernel_rfl) (by kernel_rfl)⟩
  · simp at h


/-! ### tabellionref24.others -/
def M_r24_others : Mc Un := mach (tbl [(31, F_r24_size)]) (tbl []) (tbl []) (tbl [])
def N_r24_others : Nat → NS := fun l => (look l []).getD ⟨[], [], [], [], []⟩
def A_r24_others (r : Int) : List (A Un) := [.c (.s (.int .i64 r))]
def O_r24_others (_r : Int) : List (Ob Un) := []
theorem r24_others_in (c : ColStat) (K : List (A Un) → List (Ob Un) → Prop) :
    awp M_r24_others N_r24_others (bodyOf Try.f49) (entry Try.f49.ntmps 0 [.d (.agg (enc Ty.colStat c))]) (retQ M_r24_others Try.f49.results.toList [.d] K) =
(K (A_r24_others (List.foldl (fun a b => if a < b then b else a) (0 : Int) [IntKind.i64.wrap (r24_size c.distinct - (↑c.common.length : Int))])) (O_r24_others (List.foldl (fun a b => if a < b then b else a) (0 : Int) [IntKind.i64.wrap (r24_size c.distinct - (↑c.common.length : Int))]))) := by kernel_rfl
def r24_others_fn (c : ColStat) : Option (Int) :=
  some (List.foldl (fun a b => if a < b then b else a) (0 : Int) [IntKind.i64.wrap (r24_size c.distinct - (↑c.common.length : Int))])
theorem r24_others_run {c : ColStat} {r : Int} (h : r24_others_fn c = some r) : Runs (awp M_r24_others N_r24_others (bodyOf Try.f49) (entry Try.f49.ntmps 0 [.d (.agg (enc Ty.colStat c))]) (retQ M_r24_others Try.f49.results.toList [.d] fun rs os => rs = A_r24_others r ∧ os = O_r24_others r)) := by
  constructor
  rw [r24_others_in c (fun rs os => rs = A_r24_others r ∧ os = O_r24_others r)]
  unfold r24_others_fn at h
  cases h
  exact ⟨rfl, rfl⟩

def r24_others (c : ColStat) : Int := othersI c

@[simp] theorem r24_others_eq (c : ColStat) : r24_others c = othersI c := by unfold r24_others; rfl
theorem r24_others_spec (c : ColStat) (h : WS .colStat c) : r24_others_fn c = some (r24_others c) := by
  have hl := (h.colStat_common).len
  have hs := szI_range c.distinct
  unfold r24_others_fn r24_others othersI
  rw [foldMax, r24_size_eq, wrap_id (by omega)]; congr 1; omega

def F_r24_others : FnC Un := fun args => match args with
  | [x0] => (dS .colStat x0).bind fun c => some ([], A_r24_others (r24_others c), O_r24_others (r24_others c))
  | _ => none

theorem ok_r24_others : FnOK 49 F_r24_others := by
  intro args ob rs os h hob
  unfold F_r24_others at h
  split at h
  · simp only [Option.bind_eq_some_iff, Option.some.injEq, Prod.mk.injEq] at h
    obtain ⟨c, e0, rfl, rfl, rfl⟩ := h
    obtain rfl := dS_eq e0
    exact ⟨fn_contract (M := M_r24_others) rfl (tbl_ok (l1 := [(31, F_r24_size)]) (l2 := []) (l3 := []) (l4 := []) ⟨ok_r24_size, trivial⟩ trivial trivial trivial) Try.func49 (by kernel_rfl) N_r24_others 0 [.d] (fun hwf => r24_others_run (r24_others_spec c (wfArg hwf (a := .d (.agg (enc Ty.colStat c))) (List.mem_of_getElem? (i := 0) rfl)))), hasBody_of Try.func49 (by kernel_rfl) (by kernel_rfl)⟩
  · simp at h


/-! ### tabellionref24.all -/
def M_r24_all : Mc Un := mach (tbl [(31, F_r24_size), (49, F_r24_others)]) (tbl []) (tbl []) (tbl [])
def N_r24_all : Nat → NS := fun l => (look l [(3, { ts := [false, true, false, true, true, false, false, false, false, false, false, false, false, false, false, false, false, false, false, false, false, false, false, false, false, false, false, false, false, false], bs := [false, true, false, false, false, false, false, false, false, false, false, false, false, false, false, false, false, false, false, false, false, false, false, false, false, false, false, false, false, false], nm := [], gb := [], gs := [] })]).getD ⟨[], [], [], [], []⟩
def A_r24_all (r : Int) : List (A Un) := [.c (.s (.int .i64 r))]
def O_r24_all (_r : Int) : List (Ob Un) := []
def r24_all_s3 (c : ColStat) (v0 : Int) (v1 : Int) : S Un := (st 30 30 120 0 [(1, AV.one (A.c (C.bx (1 : Nat) (0 : Nat)))), (3, AV.one (A.c (C.s (Value.int IntKind.i64 v0)))), (4, AV.one (A.c (C.s (Value.int IntKind.i64 v1))))] [(1, some (false, encC Ty.colStat (c)))] [])
theorem r24_all_in (c : ColStat) (K : List (A Un) → List (Ob Un) → Prop) :
    awp M_r24_all N_r24_all (bodyOf Try.f42) (entry Try.f42.ntmps 0 [.d (.agg (enc Ty.colStat c))]) (retQ M_r24_all Try.f42.results.toList [.d] K) =
(itersK (N_r24_all 3) (awp M_r24_all N_r24_all (sub (bodyOf Try.f42) [1, 1, 0, 1, 2, 2])) (ctxK M_r24_all N_r24_all (bodyOf Try.f42) [1, 1, 0, 1, 2] (retQ M_r24_all Try.f42.results.toList [.d] K)) (r24_all_s3 c (r24_size (IntKind.i64.wrap (r24_size c.nulls + r24_others c))) (0 : Int))) := by kernel_rfl
theorem r24_all_l3 (c : ColStat) (v0 : Int) (v1 : Int) (k : Nat) (Q : Exit → S Un → Prop) :
    iterK (N_r24_all 3) (awp M_r24_all N_r24_all (sub (bodyOf Try.f42) [1, 1, 0, 1, 2, 2])) Q (k + 1) (r24_all_s3 c v0 v1) =
(cnd (decide (v1 < (↑c.common.length : Int)))
 (((0 : Int) ≤ v1 ∧ v1 < (↑c.common.length : Int)) ∧
 (iterK (N_r24_all 3) (awp M_r24_all N_r24_all (sub (bodyOf Try.f42) [1, 1, 0, 1, 2, 2])) Q k (r24_all_s3 c (r24_size (IntKind.i64.wrap (v0 + r24_size (c.common.getD v1.toNat zeroOften).n))) (IntKind.i64.wrap (v1 + (1 : Int))))))
 (Q (.exit 0) (r24_all_s3 c v0 v1))) := by kernel_rfl
theorem r24_all_a3_x0 (c : ColStat) (v0 : Int) (v1 : Int) (K : List (A Un) → List (Ob Un) → Prop) :
    ctxK M_r24_all N_r24_all (bodyOf Try.f42) [1, 1, 0, 1, 2] (retQ M_r24_all Try.f42.results.toList [.d] K) (.exit 0) (r24_all_s3 c v0 v1) =
(K (A_r24_all (v0)) (O_r24_all (v0))) := by kernel_rfl
def r24_all_S3 (c : ColStat) (v : Int × Int) : Option ((Int × Int) ⊕ (Int × Int)) :=
  if (decide (v.2 < (↑c.common.length : Int))) = true then
   if (0 : Int) ≤ v.2 ∧ v.2 < (↑c.common.length : Int) then
    some (.inl ((r24_size (IntKind.i64.wrap (v.1 + r24_size (c.common.getD v.2.toNat zeroOften).n))), (IntKind.i64.wrap (v.2 + (1 : Int)))))
   else none
  else
   some (.inr (v.1, v.2))
def r24_all_L3 (c : ColStat) (v : Int × Int) : Option (Int × Int) := loopO (r24_all_S3 c) v
theorem r24_all_L3_eq (c : ColStat) (v : Int × Int) : r24_all_L3 c v = stepB (r24_all_L3 c) (r24_all_S3 c v) := loopO_eq _ _
def r24_all_Q3 (c : ColStat) (r : Int × Int) (Q : Exit → S Un → Prop) : Prop := Q (.exit 0) (r24_all_s3 c r.1 r.2)
theorem r24_all_Q3_x0 {c : ColStat} {r : Int × Int} {Q : Exit → S Un → Prop} (h : Q (.exit 0) (r24_all_s3 c r.1 r.2)) : r24_all_Q3 c r Q := h
theorem r24_all_L3_run {c : ColStat} {v : Int × Int} {r : Int × Int} (h : r24_all_L3 c v = some r) (Q : Exit → S Un → Prop) (hQ : r24_all_Q3 c r Q) : itersK (N_r24_all 3) (awp M_r24_all N_r24_all (sub (bodyOf Try.f42) [1, 1, 0, 1, 2, 2])) Q (r24_all_s3 c v.1 v.2) := by
  refine @loop_run _ _ (r24_all_S3 c) (fun v => itersK (N_r24_all 3) (awp M_r24_all N_r24_all (sub (bodyOf Try.f42) [1, 1, 0, 1, 2, 2])) Q (r24_all_s3 c v.1 v.2)) (fun r => r24_all_Q3 c r Q) ?_ v r h hQ
  intro v o h hI
  unfold r24_all_S3 at h
  rcases ite_some h with ⟨c1, h2⟩ | ⟨c1, h2⟩
  · obtain ⟨c3, h4⟩ := ob_some h2
    cases h4
    obtain ⟨k5, hk6⟩ := itersK_get hI
    exact itersK_mk (k5 + 1) (mpr (r24_all_l3 c v.1 v.2 k5 Q) (cnd_t c1 (And.intro c3 hk6)))
  · cases h2
    exact itersK_mk 1 (mpr (r24_all_l3 c v.1 v.2 0 Q) (cnd_f (bfalse c1) hI))
def r24_all_fn (c : ColStat) : Option (Int) :=
  (r24_all_L3 c ((r24_size (IntKind.i64.wrap (r24_size c.nulls + r24_others c))), (0 : Int))) >>= fun o7 =>
   some (o7.1)
theorem r24_all_run {c : ColStat} {r : Int} (h : r24_all_fn c = some r) : Runs (awp M_r24_all N_r24_all (bodyOf Try.f42) (entry Try.f42.ntmps 0 [.d (.agg (enc Ty.colStat c))]) (retQ M_r24_all Try.f42.results.toList [.d] fun rs os => rs = A_r24_all r ∧ os = O_r24_all r)) := by
  constructor
  rw [r24_all_in c (fun rs os => rs = A_r24_all r ∧ os = O_r24_all r)]
  unfold r24_all_fn at h
  obtain ⟨o8, ho9, h10⟩ := bind_some h
  cases h10
  exact (r24_all_L3_run ho9 _ (r24_all_Q3_x0 (mpr (r24_all_a3_x0 c o8.1 o8.2 _) ⟨rfl, rfl⟩)))

def r24_all (c : ColStat) : Int := allI c

@[simp] theorem r24_all_eq (c : ColStat) : r24_all c = allI c := by unfold r24_all; rfl
theorem r24_all_loop (c : ColStat) (hc : c.common.length ≤ 9223372036854775807) : ∀ (r : List Often) (i : Nat) (a : Int), c.common.drop i = r → i ≤ c.common.length → (0 ≤ a ∧ a ≤ 1000000000000) →
    r24_all_L3 c (a, (i : Int)) = some (r.foldl (fun a x => szI (a + szI x.n)) a, (c.common.length : Int)) := by
  intro r
  induction r with
  | nil =>
    intro i a h1 h2 _
    have e1 := drop_nil h1
    have hn : ¬ ((i : Int) < c.common.length) := by omega
    have : i = c.common.length := by omega
    subst this
    rw [r24_all_L3_eq, r24_all_S3]; simp
  | cons y r ih =>
    intro i a h1 h2 h3
    obtain ⟨a1, a2, a3, _⟩ := drop_cons h1
    have hp : (i : Int) < c.common.length := by omega
    have hi : (0 : Int) ≤ i := by omega
    have hy := szI_range y.n
    have hw : IntKind.i64.wrap (a + szI y.n) = a + szI y.n := wrap_id (by omega)
    rw [r24_all_L3_eq, r24_all_S3]
    simp only [hp, hi, decide_true, if_true, and_self, Int.toNat_natCast, a2, r24_size_eq, hw]
    rw [wrap_succ a1 hc, stepB_inl, ih (i + 1) _ a3 (by omega) (szI_range _)]
    rfl
theorem r24_all_spec (c : ColStat) (h : WS .colStat c) : r24_all_fn c = some (r24_all c) := by
  have hl := (h.colStat_common).len
  have h1 := szI_range c.nulls; have h2 := othersI_range c
  have e := r24_all_loop c hl c.common 0 (szI (szI c.nulls + othersI c)) rfl (by omega) (szI_range _)
  unfold r24_all_fn r24_all allI
  have w : IntKind.i64.wrap (szI c.nulls + othersI c) = szI c.nulls + othersI c := wrap_id (by omega)
  simp only [r24_size_eq, r24_others_eq, w]
  erw [e]
  rfl

def F_r24_all : FnC Un := fun args => match args with
  | [x0] => (dS .colStat x0).bind fun c => some ([], A_r24_all (r24_all c), O_r24_all (r24_all c))
  | _ => none

theorem ok_r24_all : FnOK 42 F_r24_all := by
  intro args ob rs os h hob
  unfold F_r24_all at h
  split at h
  · simp only [Option.bind_eq_some_iff, Option.some.injEq, Prod.mk.injEq] at h
    obtain ⟨c, e0, rfl, rfl, rfl⟩ := h
    obtain rfl := dS_eq e0
    exact ⟨fn_contract (M := M_r24_all) rfl (tbl_ok (l1 := [(31, F_r24_size), (49, F_r24_others)]) (l2 := []) (l3 := []) (l4 := []) ⟨ok_r24_size, ok_r24_others, trivial⟩ trivial trivial trivial) Try.func42 (by kernel_rfl) N_r24_all 0 [.d] (fun hwf => r24_all_run (r24_all_spec c (wfArg hwf (a := .d (.agg (enc Ty.colStat c))) (List.mem_of_getElem? (i := 0) rfl)))), hasBody_of Try.func42 (by kernel_rfl) (by kernel_rfl)⟩
  · simp at h


/-! ### tabellionref24.share -/
def M_r24_share : Mc Un := mach (tbl [(42, F_r24_all), (31, F_r24_size)]) (tbl []) (tbl []) (tbl [])
def N_r24_share : Nat → NS := fun l => (look l []).getD ⟨[], [], [], [], []⟩
def A_r24_share (r : Int) : List (A Un) := [.c (.s (.int .i64 r))]
def O_r24_share (_r : Int) : List (Ob Un) := []
theorem r24_share_in (c : ColStat) (n : Int) (K : List (A Un) → List (Ob Un) → Prop) :
    awp M_r24_share N_r24_share (bodyOf Try.f28) (entry Try.f28.ntmps 0 [.d (.agg (enc Ty.colStat c)), .d (.v (.s (.int .i64 n)))]) (retQ M_r24_share Try.f28.results.toList [.d] K) =
(cnd (r24_all c == (0 : Int))
 (K (A_r24_share ((0 : Int))) (O_r24_share ((0 : Int))))
 ((¬r24_all c = (0 : Int)) ∧
 (K (A_r24_share (List.foldl (fun a b => if b < a then b else a) (1000000 : Int) [IntKind.i64.wrap ((IntKind.i64.wrap (r24_size n * (1000000 : Int))).tdiv (r24_all c))])) (O_r24_share (List.foldl (fun a b => if b < a then b else a) (1000000 : Int) [IntKind.i64.wrap ((IntKind.i64.wrap (r24_size n * (1000000 : Int))).tdiv (r24_all c))]))))) := by kernel_rfl
def r24_share_fn (c : ColStat) (n : Int) : Option (Int) :=
  if (r24_all c == (0 : Int)) = true then
   some ((0 : Int))
  else
   if ¬r24_all c = (0 : Int) then
    some (List.foldl (fun a b => if b < a then b else a) (1000000 : Int) [IntKind.i64.wrap ((IntKind.i64.wrap (r24_size n * (1000000 : Int))).tdiv (r24_all c))])
   else none
theorem r24_share_run {c : ColStat} {n : Int} {r : Int} (h : r24_share_fn c n = some r) : Runs (awp M_r24_share N_r24_share (bodyOf Try.f28) (entry Try.f28.ntmps 0 [.d (.agg (enc Ty.colStat c)), .d (.v (.s (.int .i64 n)))]) (retQ M_r24_share Try.f28.results.toList [.d] fun rs os => rs = A_r24_share r ∧ os = O_r24_share r)) := by
  constructor
  rw [r24_share_in c n (fun rs os => rs = A_r24_share r ∧ os = O_r24_share r)]
  unfold r24_share_fn at h
  rcases ite_some h with ⟨c1, h2⟩ | ⟨c1, h2⟩
  · cases h2
    exact (cnd_t c1 ⟨rfl, rfl⟩)
  · obtain ⟨c3, h4⟩ := ob_some h2
    cases h4
    exact (cnd_f (bfalse c1) (And.intro c3 ⟨rfl, rfl⟩))

def r24_share (c : ColStat) (n : Int) : Int := shareA (allI c) (szI n)

@[simp] theorem r24_share_eq (c : ColStat) (n : Int) : r24_share c n = shareA (allI c) (szI n) := by unfold r24_share; rfl
theorem r24_share_spec (c : ColStat) (n : Int) (_h : WS .colStat c) (_hn : WI n) : r24_share_fn c n = some (r24_share c n) := by
  have h1 := szI_range n; have h2 := allI_range c
  unfold r24_share_fn r24_share shareA
  have w : IntKind.i64.wrap (szI n * 1000000) = szI n * 1000000 := wrap_id (by omega)
  simp only [r24_all_eq, r24_size_eq, beq_iff_eq, w, foldMin]
  by_cases h : allI c = 0
  · simp [h]
  · have e : (szI n * 1000000).tdiv (allI c) = szI n * 1000000 / allI c := Int.tdiv_eq_ediv_of_nonneg (by omega)
    have h3 : szI n * 1000000 / allI c ≤ szI n * 1000000 := by
      have := Int.ediv_le_self (a := szI n * 1000000) (allI c) (by omega)
      exact this
    have h4 : 0 ≤ szI n * 1000000 / allI c := Int.ediv_nonneg (by omega) h2.1
    rw [if_neg h, if_pos h, if_neg h, e, wrap_id (by omega)]

def F_r24_share : FnC Un := fun args => match args with
  | [x0, x1] => (dS .colStat x0).bind fun c => (dI .i64 x1).bind fun n => some ([], A_r24_share (r24_share c n), O_r24_share (r24_share c n))
  | _ => none

theorem ok_r24_share : FnOK 28 F_r24_share := by
  intro args ob rs os h hob
  unfold F_r24_share at h
  split at h
  · simp only [Option.bind_eq_some_iff, Option.some.injEq, Prod.mk.injEq] at h
    obtain ⟨c, e0, n, e1, rfl, rfl, rfl⟩ := h
    obtain rfl := dS_eq e0
    obtain rfl := dI_eq e1
    exact ⟨fn_contract (M := M_r24_share) rfl (tbl_ok (l1 := [(42, F_r24_all), (31, F_r24_size)]) (l2 := []) (l3 := []) (l4 := []) ⟨ok_r24_all, ok_r24_size, trivial⟩ trivial trivial trivial) Try.func28 (by kernel_rfl) N_r24_share 0 [.d] (fun hwf => r24_share_run (r24_share_spec c n (wfArg hwf (a := .d (.agg (enc Ty.colStat c))) (List.mem_of_getElem? (i := 0) rfl)) (wfArg hwf (a := .d (.v (.s (.int .i64 n)))) (List.mem_of_getElem? (i := 1) rfl)))), hasBody_of Try.func28 (by kernel_rfl) (by kernel_rfl)⟩
  · simp at h


/-! ### tabellionref24.equal -/
def M_r24_equal : Mc Un := mach (tbl [(54, F_r03_Order), (28, F_r24_share), (49, F_r24_others)]) (tbl []) (tbl []) (tbl [])
def N_r24_equal : Nat → NS := fun l => (look l [(2, { ts := [false, false, true, true, true, true, false, false, false, false, false, false, false, false, false, false, false, false, false, false, false, false, false, false, false, false, false, false, false, false, false, false, false, false, false], bs := [false, false, true, true, false, false, false, false, false, false, false, false, false, false, false, false, false, false, false, false, false, false, false, false, false, false, false, false, false, false, false, false, false, false, false], nm := [], gb := [], gs := [] })]).getD ⟨[], [], [], [], []⟩
def A_r24_equal (r : Int) : List (A Un) := [.c (.s (.int .i64 r))]
def O_r24_equal (_r : Int) : List (Ob Un) := []
def r24_equal_s2 (c : ColStat) (w : Val) (v0 : Int) : S Un := (st 35 35 140 0 [(2, AV.one (A.c (C.bx (2 : Nat) (0 : Nat)))), (3, AV.one (A.c (C.bx (3 : Nat) (0 : Nat)))), (4, AV.one (A.c (C.s (Value.int IntKind.i64 (0 : Int))))), (5, AV.one (A.c (C.s (Value.int IntKind.i64 v0))))] [(2, some (false, encC Ty.colStat (c))), (3, some (false, encC Ty.val (w)))] [])
def r24_equal_e2_ret (c : ColStat) (w : Val) (v0 : Int) (v1 : Int) : S Un := (st 35 35 140 0 [(2, AV.one (A.c (C.bx (2 : Nat) (0 : Nat)))), (3, AV.one (A.c (C.bx (3 : Nat) (0 : Nat)))), (4, AV.one (A.c (C.s (Value.int IntKind.i64 v1)))), (5, AV.one (A.c (C.s (Value.int IntKind.i64 v0))))] [(2, some (false, encC Ty.colStat (c))), (3, some (false, encC Ty.val (w)))] [])
theorem r24_equal_in (c : ColStat) (w : Val) (K : List (A Un) → List (Ob Un) → Prop) :
    awp M_r24_equal N_r24_equal (bodyOf Try.f47) (entry Try.f47.ntmps 0 [.d (.agg (enc Ty.colStat c)), .d (.agg (enc Ty.val w))]) (retQ M_r24_equal Try.f47.results.toList [.d] K) =
(itersK (N_r24_equal 2) (awp M_r24_equal N_r24_equal (sub (bodyOf Try.f47) [1, 0, 1, 2, 2])) (ctxK M_r24_equal N_r24_equal (bodyOf Try.f47) [1, 0, 1, 2] (retQ M_r24_equal Try.f47.results.toList [.d] K)) (r24_equal_s2 c w (0 : Int))) := by kernel_rfl
theorem r24_equal_l2 (c : ColStat) (w : Val) (v0 : Int) (k : Nat) (Q : Exit → S Un → Prop) :
    iterK (N_r24_equal 2) (awp M_r24_equal N_r24_equal (sub (bodyOf Try.f47) [1, 0, 1, 2, 2])) Q (k + 1) (r24_equal_s2 c w v0) =
(cnd (decide (v0 < (↑c.common.length : Int)))
 (((0 : Int) ≤ v0 ∧ v0 < (↑c.common.length : Int)) ∧
 (cnd (r03_Order (c.common.getD v0.toNat zeroOften).v w == (0 : Int))
  (((0 : Int) ≤ v0 ∧ v0 < (↑c.common.length : Int)) ∧
  (Q .ret (r24_equal_e2_ret c w v0 (r24_share c (c.common.getD v0.toNat zeroOften).n))))
  (iterK (N_r24_equal 2) (awp M_r24_equal N_r24_equal (sub (bodyOf Try.f47) [1, 0, 1, 2, 2])) Q k (r24_equal_s2 c w (IntKind.i64.wrap (v0 + (1 : Int)))))))
 (Q (.exit 0) (r24_equal_s2 c w v0))) := by kernel_rfl
theorem r24_equal_a2_ret (c : ColStat) (w : Val) (v0 : Int) (v1 : Int) (K : List (A Un) → List (Ob Un) → Prop) :
    ctxK M_r24_equal N_r24_equal (bodyOf Try.f47) [1, 0, 1, 2] (retQ M_r24_equal Try.f47.results.toList [.d] K) .ret (r24_equal_e2_ret c w v0 v1) =
(K (A_r24_equal (v1)) (O_r24_equal (v1))) := by kernel_rfl
theorem r24_equal_a2_x0 (c : ColStat) (w : Val) (v0 : Int) (K : List (A Un) → List (Ob Un) → Prop) :
    ctxK M_r24_equal N_r24_equal (bodyOf Try.f47) [1, 0, 1, 2] (retQ M_r24_equal Try.f47.results.toList [.d] K) (.exit 0) (r24_equal_s2 c w v0) =
(cnd (decide (r24_others c > (0 : Int)))
 (K (A_r24_equal (r24_share c (1 : Int))) (O_r24_equal (r24_share c (1 : Int))))
 (K (A_r24_equal ((0 : Int))) (O_r24_equal ((0 : Int))))) := by kernel_rfl
def r24_equal_S2 (c : ColStat) (w : Val) (v : Int) : Option ((Int) ⊕ ((Int × Int) ⊕ (Int))) :=
  if (decide (v < (↑c.common.length : Int))) = true then
   if (0 : Int) ≤ v ∧ v < (↑c.common.length : Int) then
    if (r03_Order (c.common.getD v.toNat zeroOften).v w == (0 : Int)) = true then
     if (0 : Int) ≤ v ∧ v < (↑c.common.length : Int) then
      some (.inr (.inl (v, (r24_share c (c.common.getD v.toNat zeroOften).n))))
     else none
    else
     some (.inl (IntKind.i64.wrap (v + (1 : Int))))
   else none
  else
   some (.inr (.inr v))
def r24_equal_L2 (c : ColStat) (w : Val) (v : Int) : Option ((Int × Int) ⊕ (Int)) := loopO (r24_equal_S2 c w) v
theorem r24_equal_L2_eq (c : ColStat) (w : Val) (v : Int) : r24_equal_L2 c w v = stepB (r24_equal_L2 c w) (r24_equal_S2 c w v) := loopO_eq _ _
def r24_equal_Q2 (c : ColStat) (w : Val) (r : (Int × Int) ⊕ (Int)) (Q : Exit → S Un → Prop) : Prop := match r with | .inl x => Q .ret (r24_equal_e2_ret c w x.1 x.2) | .inr x => Q (.exit 0) (r24_equal_s2 c w x)
theorem r24_equal_Q2_ret {c : ColStat} {w : Val} {x : Int × Int} {Q : Exit → S Un → Prop} (h : Q .ret (r24_equal_e2_ret c w x.1 x.2)) : r24_equal_Q2 c w (.inl x) Q := h
theorem r24_equal_Q2_x0 {c : ColStat} {w : Val} {x : Int} {Q : Exit → S Un → Prop} (h : Q (.exit 0) (r24_equal_s2 c w x)) : r24_equal_Q2 c w (.inr x) Q := h
theorem r24_equal_L2_run {c : ColStat} {w : Val} {v : Int} {r : (Int × Int) ⊕ (Int)} (h : r24_equal_L2 c w v = some r) (Q : Exit → S Un → Prop) (hQ : r24_equal_Q2 c w r Q) : itersK (N_r24_equal 2) (awp M_r24_equal N_r24_equal (sub (bodyOf Try.f47) [1, 0, 1, 2, 2])) Q (r24_equal_s2 c w v) := by
  refine @loop_run _ _ (r24_equal_S2 c w) (fun v => itersK (N_r24_equal 2) (awp M_r24_equal N_r24_equal (sub (bodyOf Try.f47) [1, 0, 1, 2, 2])) Q (r24_equal_s2 c w v)) (fun r => r24_equal_Q2 c w r Q) ?_ v r h hQ
  intro v o h hI
  unfold r24_equal_S2 at h
  rcases ite_some h with ⟨c1, h2⟩ | ⟨c1, h2⟩
  · obtain ⟨c3, h4⟩ := ob_some h2
    rcases ite_some h4 with ⟨c5, h6⟩ | ⟨c5, h6⟩
    · obtain ⟨c7, h8⟩ := ob_some h6
      cases h8
      exact itersK_mk 1 (mpr (r24_equal_l2 c w v 0 Q) (cnd_t c1 (And.intro c3 (cnd_t c5 (And.intro c7 hI)))))
    · cases h6
      obtain ⟨k9, hk10⟩ := itersK_get hI
      exact itersK_mk (k9 + 1) (mpr (r24_equal_l2 c w v k9 Q) (cnd_t c1 (And.intro c3 (cnd_f (bfalse c5) hk10))))
  · cases h2
    exact itersK_mk 1 (mpr (r24_equal_l2 c w v 0 Q) (cnd_f (bfalse c1) hI))
def r24_equal_fn (c : ColStat) (w : Val) : Option (Int) :=
  (r24_equal_L2 c w (0 : Int)) >>= fun o11 => match o11 with
   | .inl o12 =>
     some (o12.2)
   | .inr o13 =>
     if (decide (r24_others c > (0 : Int))) = true then
      some (r24_share c (1 : Int))
     else
      some ((0 : Int))
theorem r24_equal_run {c : ColStat} {w : Val} {r : Int} (h : r24_equal_fn c w = some r) : Runs (awp M_r24_equal N_r24_equal (bodyOf Try.f47) (entry Try.f47.ntmps 0 [.d (.agg (enc Ty.colStat c)), .d (.agg (enc Ty.val w))]) (retQ M_r24_equal Try.f47.results.toList [.d] fun rs os => rs = A_r24_equal r ∧ os = O_r24_equal r)) := by
  constructor
  rw [r24_equal_in c w (fun rs os => rs = A_r24_equal r ∧ os = O_r24_equal r)]
  unfold r24_equal_fn at h
  obtain ⟨o14, ho15, h16⟩ := bind_some h
  rcases o14 with o17 | o18
  · cases h16
    exact (r24_equal_L2_run ho15 _ (r24_equal_Q2_ret (mpr (r24_equal_a2_ret c w o17.1 o17.2 _) ⟨rfl, rfl⟩)))
  · rcases ite_some h16 with ⟨c19, h20⟩ | ⟨c19, h20⟩
    · cases h20
      exact (r24_equal_L2_run ho15 _ (r24_equal_Q2_x0 (mpr (r24_equal_a2_x0 c w o18 _) (cnd_t c19 ⟨rfl, rfl⟩))))
    · cases h20
      exact (r24_equal_L2_run ho15 _ (r24_equal_Q2_x0 (mpr (r24_equal_a2_x0 c w o18 _) (cnd_f (bfalse c19) ⟨rfl, rfl⟩))))

def r24_equal (c : ColStat) (w : Val) : Int := eqF (allI c) (othersI c) w c.common

@[simp] theorem r24_equal_eq (c : ColStat) (w : Val) : r24_equal c w = eqF (allI c) (othersI c) w c.common := by unfold r24_equal; rfl
theorem r24_equal_loop (c : ColStat) (w : Val) (hc : c.common.length ≤ 9223372036854775807) : ∀ (r : List Often) (i : Nat), c.common.drop i = r →
    ∃ o, r24_equal_L2 c w i = some o ∧ (match o with | .inl o => o.2 | .inr _ => shareA (allI c) (min (othersI c) 1)) = eqF (allI c) (othersI c) w r := by
  intro r
  induction r with
  | nil =>
    intro i h1
    have e1 := drop_nil h1
    have hn : ¬ ((i : Int) < c.common.length) := by omega
    exact ⟨.inr i, by rw [r24_equal_L2_eq, r24_equal_S2]; simp [hn], rfl⟩
  | cons x r ih =>
    intro i h1
    obtain ⟨a1, a2, a3, _⟩ := drop_cons h1
    have hp : (i : Int) < c.common.length := by omega
    have hi : (0 : Int) ≤ i := by omega
    rw [r24_equal_L2_eq, r24_equal_S2]
    simp only [hp, hi, decide_true, if_true, and_self, Int.toNat_natCast, a2, r03_Order_eq, beq_iff_eq, eqF, r24_share_eq]
    by_cases h : ordV x.v w = 0
    · exact ⟨_, by rw [if_pos h, stepB_inr], by rw [if_pos h]⟩
    · rw [if_neg h, if_neg h, wrap_succ a1 hc, stepB_inl]; exact ih (i + 1) a3
theorem r24_equal_spec (c : ColStat) (w : Val) (hc : WS .colStat c) (_hw : WS .val w) : r24_equal_fn c w = some (r24_equal c w) := by
  obtain ⟨o, ho, e⟩ := r24_equal_loop c w (hc.colStat_common).len _ 0 rfl
  have h2 := othersI_range c
  unfold r24_equal_fn r24_equal
  simp only [List.drop_zero] at e
  rw [← e]
  have ho' : r24_equal_L2 c w 0 = some o := ho
  rw [ho']
  cases o with
  | inl o => rfl
  | inr o =>
    simp only [Option.bind_eq_bind, Option.bind_some, decide_eq_true_eq]
    simp only [r24_others_eq, r24_share_eq]
    by_cases h : othersI c > 0
    · have e1 : min (othersI c) 1 = 1 := by omega
      have e2 : szI 1 = 1 := by decide
      rw [if_pos h, e1, e2]
    · have e1 : min (othersI c) 1 = 0 := by omega
      have e2 : shareA (allI c) 0 = 0 := by
        unfold shareA; split
        · rfl
        · rw [Int.zero_mul, Int.zero_ediv]; rfl
      rw [if_neg h, e1, e2]

def F_r24_equal : FnC Un := fun args => match args with
  | [x0, x1] => (dS .colStat x0).bind fun c => (dS .val x1).bind fun w => some ([], A_r24_equal (r24_equal c w), O_r24_equal (r24_equal c w))
  | _ => none

theorem ok_r24_equal : FnOK 47 F_r24_equal := by
  intro args ob rs os h hob
  unfold F_r24_equal at h
  split at h
  · simp only [Option.bind_eq_some_iff, Option.some.injEq, Prod.mk.injEq] at h
    obtain ⟨c, e0, w, e1, rfl, rfl, rfl⟩ := h
    obtain rfl := dS_eq e0
    obtain rfl := dS_eq e1
    exact ⟨fn_contract (M := M_r24_equal) rfl (tbl_ok (l1 := [(54, F_r03_Order), (28, F_r24_share), (49, F_r24_others)]) (l2 := []) (l3 := []) (l4 := []) ⟨ok_r03_Order, ok_r24_share, ok_r24_others, trivial⟩ trivial trivial trivial) Try.func47 (by kernel_rfl) N_r24_equal 0 [.d] (fun hwf => r24_equal_run (r24_equal_spec c w (wfArg hwf (a := .d (.agg (enc Ty.colStat c))) (List.mem_of_getElem? (i := 0) rfl)) (wfArg hwf (a := .d (.agg (enc Ty.val w))) (List.mem_of_getElem? (i := 1) rfl)))), hasBody_of Try.func47 (by kernel_rfl) (by kernel_rfl)⟩
  · simp at h


/-! ### tabellionref24.stands -/
def M_r24_stands : Mc Un := mach (tbl [(55, F_r03_Compare)]) (tbl []) (tbl []) (tbl [])
def N_r24_stands : Nat → NS := fun l => (look l []).getD ⟨[], [], [], [], []⟩
def A_r24_stands (r : Bool) : List (A Un) := [.c (.s (.bool r))]
def O_r24_stands (_r : Bool) : List (Ob Un) := []
theorem r24_stands_in (op : Int) (e : Val) (w : Val) (K : List (A Un) → List (Ob Un) → Prop) :
    awp M_r24_stands N_r24_stands (bodyOf Try.f48) (entry Try.f48.ntmps 0 [.d (.v (.s (.int .i64 op))), .d (.agg (enc Ty.val e)), .d (.agg (enc Ty.val w))]) (retQ M_r24_stands Try.f48.results.toList [.d] K) =
(cnd (op == (13 : Int))
 (cnd ((r03_Compare e w).snd)
  (K (A_r24_stands (decide ((r03_Compare e w).fst < (0 : Int)))) (O_r24_stands (decide ((r03_Compare e w).fst < (0 : Int)))))
  (K (A_r24_stands (false)) (O_r24_stands (false))))
 (cnd (op == (14 : Int))
  (cnd ((r03_Compare e w).snd)
   (K (A_r24_stands (decide ((r03_Compare e w).fst ≤ (0 : Int)))) (O_r24_stands (decide ((r03_Compare e w).fst ≤ (0 : Int)))))
   (K (A_r24_stands (false)) (O_r24_stands (false))))
  (cnd (op == (15 : Int))
   (cnd ((r03_Compare e w).snd)
    (K (A_r24_stands (decide ((r03_Compare e w).fst > (0 : Int)))) (O_r24_stands (decide ((r03_Compare e w).fst > (0 : Int)))))
    (K (A_r24_stands (false)) (O_r24_stands (false))))
   (cnd ((r03_Compare e w).snd)
    (K (A_r24_stands (decide ((r03_Compare e w).fst ≥ (0 : Int)))) (O_r24_stands (decide ((r03_Compare e w).fst ≥ (0 : Int)))))
    (K (A_r24_stands (false)) (O_r24_stands (false))))))) := by kernel_rfl
def r24_stands_fn (op : Int) (e : Val) (w : Val) : Option (Bool) :=
  if (op == (13 : Int)) = true then
   if ((r03_Compare e w).snd) = true then
    some (decide ((r03_Compare e w).fst < (0 : Int)))
   else
    some (false)
  else
   if (op == (14 : Int)) = true then
    if ((r03_Compare e w).snd) = true then
     some (decide ((r03_Compare e w).fst ≤ (0 : Int)))
    else
     some (false)
   else
    if (op == (15 : Int)) = true then
     if ((r03_Compare e w).snd) = true then
      some (decide ((r03_Compare e w).fst > (0 : Int)))
     else
      some (false)
    else
     if ((r03_Compare e w).snd) = true then
      some (decide ((r03_Compare e w).fst ≥ (0 : Int)))
     else
      some (false)
theorem r24_stands_run {op : Int} {e : Val} {w : Val} {r : Bool} (h : r24_stands_fn op e w = some r) : Runs (awp M_r24_stands N_r24_stands (bodyOf Try.f48) (entry Try.f48.ntmps 0 [.d (.v (.s (.int .i64 op))), .d (.agg (enc Ty.val e)), .d (.agg (enc Ty.val w))]) (retQ M_r24_stands Try.f48.results.toList [.d] fun rs os => rs = A_r24_stands r ∧ os = O_r24_stands r)) := by
  constructor
  rw [r24_stands_in op e w (fun rs os => rs = A_r24_stands r ∧ os = O_r24_stands r)]
  unfold r24_stands_fn at h
  rcases ite_some h with ⟨c1, h2⟩ | ⟨c1, h2⟩
  · rcases ite_some h2 with ⟨c3, h4⟩ | ⟨c3, h4⟩
    · cases h4
      exact (cnd_t c1 (cnd_t c3 ⟨rfl, rfl⟩))
    · cases h4
      exact (cnd_t c1 (cnd_f (bfalse c3) ⟨rfl, rfl⟩))
  · rcases ite_some h2 with ⟨c5, h6⟩ | ⟨c5, h6⟩
    · rcases ite_some h6 with ⟨c7, h8⟩ | ⟨c7, h8⟩
      · cases h8
        exact (cnd_f (bfalse c1) (cnd_t c5 (cnd_t c7 ⟨rfl, rfl⟩)))
      · cases h8
        exact (cnd_f (bfalse c1) (cnd_t c5 (cnd_f (bfalse c7) ⟨rfl, rfl⟩)))
    · rcases ite_some h6 with ⟨c9, h10⟩ | ⟨c9, h10⟩
      · rcases ite_some h10 with ⟨c11, h12⟩ | ⟨c11, h12⟩
        · cases h12
          exact (cnd_f (bfalse c1) (cnd_f (bfalse c5) (cnd_t c9 (cnd_t c11 ⟨rfl, rfl⟩))))
        · cases h12
          exact (cnd_f (bfalse c1) (cnd_f (bfalse c5) (cnd_t c9 (cnd_f (bfalse c11) ⟨rfl, rfl⟩))))
      · rcases ite_some h10 with ⟨c13, h14⟩ | ⟨c13, h14⟩
        · cases h14
          exact (cnd_f (bfalse c1) (cnd_f (bfalse c5) (cnd_f (bfalse c9) (cnd_t c13 ⟨rfl, rfl⟩))))
        · cases h14
          exact (cnd_f (bfalse c1) (cnd_f (bfalse c5) (cnd_f (bfalse c9) (cnd_f (bfalse c13) ⟨rfl, rfl⟩))))

def r24_stands (op : Int) (e w : Val) : Bool := (cmpV e w).2 && stands op (cmpV e w).1

@[simp] theorem r24_stands_eq (op : Int) (e w : Val) : r24_stands op e w = ((cmpV e w).2 && stands op (cmpV e w).1) := by unfold r24_stands; rfl
theorem r24_stands_spec (op : Int) (e w : Val) (_h1 : WI op) (_he : WS .val e) (_hw : WS .val w) : r24_stands_fn op e w = some (r24_stands op e w) := by
  unfold r24_stands_fn r24_stands stands
  simp only [beq_iff_eq, r03_Compare_eq]
  by_cases hc : (cmpV e w).2 = true
  · simp only [hc, if_true, Bool.true_and]
    by_cases h1 : op = 13
    · simp [h1]
    · by_cases h2 : op = 14
      · simp [h2]
      · by_cases h3 : op = 15 <;> simp [h1, h2, h3]
  · simp only [hc, Bool.false_eq_true, if_false]
    simp only [Bool.not_eq_true] at hc
    simp [hc]

def F_r24_stands : FnC Un := fun args => match args with
  | [x0, x1, x2] => (dI .i64 x0).bind fun op => (dS .val x1).bind fun e => (dS .val x2).bind fun w => some ([], A_r24_stands (r24_stands op e w), O_r24_stands (r24_stands op e w))
  | _ => none

theorem ok_r24_stands : FnOK 48 F_r24_stands := by
  intro args ob rs os h hob
  unfold F_r24_stands at h
  split at h
  · simp only [Option.bind_eq_some_iff, Option.some.injEq, Prod.mk.injEq] at h
    obtain ⟨op, e0, e, e1, w, e2, rfl, rfl, rfl⟩ := h
    obtain rfl := dI_eq e0
    obtain rfl := dS_eq e1
    obtain rfl := dS_eq e2
    exact ⟨fn_contract (M := M_r24_stands) rfl (tbl_ok (l1 := [(55, F_r03_Compare)]) (l2 := []) (l3 := []) (l4 := []) ⟨ok_r03_Compare, trivial⟩ trivial trivial trivial) Try.func48 (by kernel_rfl) N_r24_stands 0 [.d] (fun hwf => r24_stands_run (r24_stands_spec op e w (wfArg hwf (a := .d (.v (.s (.int .i64 op)))) (List.mem_of_getElem? (i := 0) rfl)) (wfArg hwf (a := .d (.agg (enc Ty.val e))) (List.mem_of_getElem? (i := 1) rfl)) (wfArg hwf (a := .d (.agg (enc Ty.val w))) (List.mem_of_getElem? (i := 2) rfl)))), hasBody_of Try.func48 (by kernel_rfl) (by kernel_rfl)⟩
  · simp at h


/-! ### tabellionref24.compared -/
def M_r24_compared : Mc Un := mach (tbl [(47, F_r24_equal), (28, F_r24_share), (48, F_r24_stands), (42, F_r24_all), (31, F_r24_size)]) (tbl []) (tbl []) (tbl [])
def N_r24_compared : Nat → NS := fun l => (look l [(11, { ts := [true, false, false, false, true, true, false, true, true, false, false, false, false, false, false, false, false, false, false, false, false, false, false, false, false, false, false, false, false, false, false, false, false, false, false, false, false, false, false, false, false, false, false, false, false, false, false, false, false, false, false, false, false, false, false, false, false, false, false, false, false, false, false, false], bs := [false, false, false, false, true, true, false, false, false, false, false, false, false, false, false, false, false, false, false, false, false, false, false, false, false, false, false, false, false, false, false, false, false, false, false, false, false, false, false, false, false, false, false, false, false, false, false, false, false, false, false, false, false, false, false, false, false, false, false, false, false, false, false, false], nm := [], gb := [], gs := [] })]).getD ⟨[], [], [], [], []⟩
def A_r24_compared (r : Int) : List (A Un) := [.c (.s (.int .i64 r))]
def O_r24_compared (_r : Int) : List (Ob Un) := []
def r24_compared_s11 (op : Int) (c : ColStat) (w : Val) (v0 : Int) (v1 : Int) : S Un := (st 64 64 256 0 [(0, AV.one (A.c (C.s (Value.int IntKind.i64 op)))), (4, AV.one (A.c (C.bx (4 : Nat) (0 : Nat)))), (5, AV.one (A.c (C.bx (5 : Nat) (0 : Nat)))), (7, AV.one (A.c (C.s (Value.int IntKind.i64 v0)))), (8, AV.one (A.c (C.s (Value.int IntKind.i64 v1))))] [(4, some (false, encC Ty.colStat (c))), (5, some (false, encC Ty.val (w)))] [])
theorem r24_compared_in (op : Int) (c : ColStat) (w : Val) (K : List (A Un) → List (Ob Un) → Prop) :
    awp M_r24_compared N_r24_compared (bodyOf Try.f40) (entry Try.f40.ntmps 0 [.d (.v (.s (.int .i64 op))), .d (.agg (enc Ty.colStat c)), .d (.agg (enc Ty.val w))]) (retQ M_r24_compared Try.f40.results.toList [.d] K) =
(cnd (w.kind == (0 : Int))
 (K (A_r24_compared ((0 : Int))) (O_r24_compared ((0 : Int))))
 (cnd (op == (11 : Int))
  (K (A_r24_compared (r24_equal c w)) (O_r24_compared (r24_equal c w)))
  (cnd (op == (12 : Int))
   (K (A_r24_compared (List.foldl (fun a b => if a < b then b else a) (0 : Int) [IntKind.i64.wrap (IntKind.i64.wrap ((1000000 : Int) - r24_share c c.nulls) - r24_equal c w)])) (O_r24_compared (List.foldl (fun a b => if a < b then b else a) (0 : Int) [IntKind.i64.wrap (IntKind.i64.wrap ((1000000 : Int) - r24_share c c.nulls) - r24_equal c w)])))
   (cnd ((↑c.ends.length : Int) == (0 : Int))
    (K (A_r24_compared ((333333 : Int))) (O_r24_compared ((333333 : Int))))
    (itersK (N_r24_compared 11) (awp M_r24_compared N_r24_compared (sub (bodyOf Try.f40) [1, 1, 1, 1, 1, 1, 0, 1, 2, 2])) (ctxK M_r24_compared N_r24_compared (bodyOf Try.f40) [1, 1, 1, 1, 1, 1, 0, 1, 2] (retQ M_r24_compared Try.f40.results.toList [.d] K)) (r24_compared_s11 op c w (0 : Int) (0 : Int))))))) := by kernel_rfl
theorem r24_compared_l11 (op : Int) (c : ColStat) (w : Val) (v0 : Int) (v1 : Int) (k : Nat) (Q : Exit → S Un → Prop) :
    iterK (N_r24_compared 11) (awp M_r24_compared N_r24_compared (sub (bodyOf Try.f40) [1, 1, 1, 1, 1, 1, 0, 1, 2, 2])) Q (k + 1) (r24_compared_s11 op c w v0 v1) =
(cnd (decide (v1 < (↑c.ends.length : Int)))
 (((0 : Int) ≤ v1 ∧ v1 < (↑c.ends.length : Int)) ∧
 (cnd (r24_stands op (c.ends.getD v1.toNat zeroVal) w)
  (iterK (N_r24_compared 11) (awp M_r24_compared N_r24_compared (sub (bodyOf Try.f40) [1, 1, 1, 1, 1, 1, 0, 1, 2, 2])) Q k (r24_compared_s11 op c w (IntKind.i64.wrap (v0 + (1 : Int))) (IntKind.i64.wrap (v1 + (1 : Int)))))
  (iterK (N_r24_compared 11) (awp M_r24_compared N_r24_compared (sub (bodyOf Try.f40) [1, 1, 1, 1, 1, 1, 0, 1, 2, 2])) Q k (r24_compared_s11 op c w v0 (IntKind.i64.wrap (v1 + (1 : Int)))))))
 (Q (.exit 0) (r24_compared_s11 op c w v0 v1))) := by kernel_rfl
theorem r24_compared_a11_x0 (op : Int) (c : ColStat) (w : Val) (v0 : Int) (v1 : Int) (K : List (A Un) → List (Ob Un) → Prop) :
    ctxK M_r24_compared N_r24_compared (bodyOf Try.f40) [1, 1, 1, 1, 1, 1, 0, 1, 2] (retQ M_r24_compared Try.f40.results.toList [.d] K) (.exit 0) (r24_compared_s11 op c w v0 v1) =
((¬(↑c.ends.length : Int) = (0 : Int)) ∧
(K (A_r24_compared (IntKind.i64.wrap ((IntKind.i64.wrap (r24_share c (IntKind.i64.wrap (r24_all c - r24_size c.nulls)) * v0)).tdiv (↑c.ends.length : Int)))) (O_r24_compared (IntKind.i64.wrap ((IntKind.i64.wrap (r24_share c (IntKind.i64.wrap (r24_all c - r24_size c.nulls)) * v0)).tdiv (↑c.ends.length : Int)))))) := by kernel_rfl
def r24_compared_S11 (op : Int) (c : ColStat) (w : Val) (v : Int × Int) : Option ((Int × Int) ⊕ (Int × Int)) :=
  if (decide (v.2 < (↑c.ends.length : Int))) = true then
   if (0 : Int) ≤ v.2 ∧ v.2 < (↑c.ends.length : Int) then
    if (r24_stands op (c.ends.getD v.2.toNat zeroVal) w) = true then
     some (.inl ((IntKind.i64.wrap (v.1 + (1 : Int))), (IntKind.i64.wrap (v.2 + (1 : Int)))))
    else
     some (.inl (v.1, (IntKind.i64.wrap (v.2 + (1 : Int)))))
   else none
  else
   some (.inr (v.1, v.2))
def r24_compared_L11 (op : Int) (c : ColStat) (w : Val) (v : Int × Int) : Option (Int × Int) := loopO (r24_compared_S11 op c w) v
theorem r24_compared_L11_eq (op : Int) (c : ColStat) (w : Val) (v : Int × Int) : r24_compared_L11 op c w v = stepB (r24_compared_L11 op c w) (r24_compared_S11 op c w v) := loopO_eq _ _
def r24_compared_Q11 (op : Int) (c : ColStat) (w : Val) (r : Int × Int) (Q : Exit → S Un → Prop) : Prop := Q (.exit 0) (r24_compared_s11 op c w r.1 r.2)
theorem r24_compared_Q11_x0 {op : Int} {c : ColStat} {w : Val} {r : Int × Int} {Q : Exit → S Un → Prop} (h : Q (.exit 0) (r24_compared_s11 op c w r.1 r.2)) : r24_compared_Q11 op c w r Q := h
theorem r24_compared_L11_run {op : Int} {c : ColStat} {w : Val} {v : Int × Int} {r : Int × Int} (h : r24_compared_L11 op c w v = some r) (Q : Exit → S Un → Prop) (hQ : r24_compared_Q11 op c w r Q) : itersK (N_r24_compared 11) (awp M_r24_compared N_r24_compared (sub (bodyOf Try.f40) [1, 1, 1, 1, 1, 1, 0, 1, 2, 2])) Q (r24_compared_s11 op c w v.1 v.2) := by
  refine @loop_run _ _ (r24_compared_S11 op c w) (fun v => itersK (N_r24_compared 11) (awp M_r24_compared N_r24_compared (sub (bodyOf Try.f40) [1, 1, 1, 1, 1, 1, 0, 1, 2, 2])) Q (r24_compared_s11 op c w v.1 v.2)) (fun r => r24_compared_Q11 op c w r Q) ?_ v r h hQ
  intro v o h hI
  unfold r24_compared_S11 at h
  rcases ite_some h with ⟨c1, h2⟩ | ⟨c1, h2⟩
  · obtain ⟨c3, h4⟩ := ob_some h2
    rcases ite_some h4 with ⟨c5, h6⟩ | ⟨c5, h6⟩
    · cases h6
      obtain ⟨k7, hk8⟩ := itersK_get hI
      exact itersK_mk (k7 + 1) (mpr (r24_compared_l11 op c w v.1 v.2 k7 Q) (cnd_t c1 (And.intro c3 (cnd_t c5 hk8))))
    · cases h6
      obtain ⟨k9, hk10⟩ := itersK_get hI
      exact itersK_mk (k9 + 1) (mpr (r24_compared_l11 op c w v.1 v.2 k9 Q) (cnd_t c1 (And.intro c3 (cnd_f (bfalse c5) hk10))))
  · cases h2
    exact itersK_mk 1 (mpr (r24_compared_l11 op c w v.1 v.2 0 Q) (cnd_f (bfalse c1) hI))
def r24_compared_fn (op : Int) (c : ColStat) (w : Val) : Option (Int) :=
  if (w.kind == (0 : Int)) = true then
   some ((0 : Int))
  else
   if (op == (11 : Int)) = true then
    some (r24_equal c w)
   else
    if (op == (12 : Int)) = true then
     some (List.foldl (fun a b => if a < b then b else a) (0 : Int) [IntKind.i64.wrap (IntKind.i64.wrap ((1000000 : Int) - r24_share c c.nulls) - r24_equal c w)])
    else
     if ((↑c.ends.length : Int) == (0 : Int)) = true then
      some ((333333 : Int))
     else
      (r24_compared_L11 op c w ((0 : Int), (0 : Int))) >>= fun o11 =>
       if ¬(↑c.ends.length : Int) = (0 : Int) then
        some (IntKind.i64.wrap ((IntKind.i64.wrap (r24_share c (IntKind.i64.wrap (r24_all c - r24_size c.nulls)) * o11.1)).tdiv (↑c.ends.length : Int)))
       else none
theorem r24_compared_run {op : Int} {c : ColStat} {w : Val} {r : Int} (h : r24_compared_fn op c w = some r) : Runs (awp M_r24_compared N_r24_compared (bodyOf Try.f40) (entry Try.f40.ntmps 0 [.d (.v (.s (.int .i64 op))), .d (.agg (enc Ty.colStat c)), .d (.agg (enc Ty.val w))]) (retQ M_r24_compared Try.f40.results.toList [.d] fun rs os => rs = A_r24_compared r ∧ os = O_r24_compared r)) := by
  constructor
  rw [r24_compared_in op c w (fun rs os => rs = A_r24_compared r ∧ os = O_r24_compared r)]
  unfold r24_compared_fn at h
  rcases ite_some h with ⟨c12, h13⟩ | ⟨c12, h13⟩
  · cases h13
    exact (cnd_t c12 ⟨rfl, rfl⟩)
  · rcases ite_some h13 with ⟨c14, h15⟩ | ⟨c14, h15⟩
    · cases h15
      exact (cnd_f (bfalse c12) (cnd_t c14 ⟨rfl, rfl⟩))
    · rcases ite_some h15 with ⟨c16, h17⟩ | ⟨c16, h17⟩
      · cases h17
        exact (cnd_f (bfalse c12) (cnd_f (bfalse c14) (cnd_t c16 ⟨rfl, rfl⟩)))
      · rcases ite_some h17 with ⟨c18, h19⟩ | ⟨c18, h19⟩
        · cases h19
          exact (cnd_f (bfalse c12) (cnd_f (bfalse c14) (cnd_f (bfalse c16) (cnd_t c18 ⟨rfl, rfl⟩))))
        · obtain ⟨o20, ho21, h22⟩ := bind_some h19
          obtain ⟨c23, h24⟩ := ob_some h22
          cases h24
          exact (cnd_f (bfalse c12) (cnd_f (bfalse c14) (cnd_f (bfalse c16) (cnd_f (bfalse c18) (r24_compared_L11_run ho21 _ (r24_compared_Q11_x0 (mpr (r24_compared_a11_x0 op c w o20.1 o20.2 _) (And.intro c23 ⟨rfl, rfl⟩))))))))

def r24_compared (op : Int) (c : ColStat) (w : Val) : Int := againstI op (knownC c) w

@[simp] theorem r24_compared_eq (op : Int) (c : ColStat) (w : Val) : r24_compared op c w = againstI op (knownC c) w := by unfold r24_compared; rfl
theorem r24_compared_loop (op : Int) (c : ColStat) (w : Val) (hc : c.ends.length ≤ 9223372036854775807) : ∀ (r : List Val) (i n : Nat), c.ends.drop i = r → i ≤ c.ends.length → n ≤ i →
    r24_compared_L11 op c w ((n : Int), (i : Int)) = some (((n + standN (stands op) w r : Nat) : Int), (c.ends.length : Int)) := by
  intro r
  induction r with
  | nil =>
    intro i n h1 h2 h3
    have e1 := drop_nil h1
    have hn : ¬ ((i : Int) < c.ends.length) := by omega
    have : i = c.ends.length := by omega
    subst this
    rw [r24_compared_L11_eq, r24_compared_S11]; simp [standN]
  | cons x r ih =>
    intro i n h1 h2 h3
    obtain ⟨a1, a2, a3, _⟩ := drop_cons h1
    have hp : (i : Int) < c.ends.length := by omega
    have hi : (0 : Int) ≤ i := by omega
    rw [r24_compared_L11_eq, r24_compared_S11]
    simp only [hp, hi, decide_true, if_true, and_self, Int.toNat_natCast, a2, r24_stands_eq]
    by_cases h : ((cmpV x w).2 && stands op (cmpV x w).1) = true
    · have hs : standN (stands op) w (x :: r) = 1 + standN (stands op) w r := by unfold standN; rw [List.filter_cons_of_pos (by exact h), List.length_cons]; omega
      rw [if_pos h, wrap_succ a1 hc, wrap_succ (n := c.ends.length) (by omega) hc, stepB_inl, ih (i + 1) (n + 1) a3 (by omega) (by omega), hs]
      congr 2; congr 1; omega
    · have hs : standN (stands op) w (x :: r) = standN (stands op) w r := by unfold standN; rw [List.filter_cons_of_neg (by exact h)]
      rw [if_neg h, wrap_succ a1 hc, stepB_inl, ih (i + 1) n a3 (by omega) (by omega), hs]
theorem part_of {s n k : Int} (hs : 0 ≤ s ∧ s ≤ 1000000) (hn : 0 ≤ n ∧ n ≤ k) (hk : 0 < k) : 0 ≤ s * n ∧ s * n ≤ 1000000 * k ∧ 0 ≤ s * n / k ∧ s * n / k ≤ s := by
  have h1 : 0 ≤ s * n := Int.mul_nonneg hs.1 hn.1
  have h2 : s * n ≤ s * k := Int.mul_le_mul_of_nonneg_left hn.2 hs.1
  have h3 : s * k ≤ 1000000 * k := Int.mul_le_mul_of_nonneg_right hs.2 (by omega)
  refine ⟨h1, by omega, Int.ediv_nonneg h1 (by omega), ?_⟩
  exact Int.le_trans (Int.ediv_le_ediv hk h2) (by rw [Int.mul_ediv_cancel _ (by omega)]; exact Int.le_refl _)
theorem r24_compared_spec (op : Int) (c : ColStat) (w : Val) (_h1 : WI op) (hc : WS .colStat c) (_hw : WS .val w) (hb : c.ends.length ≤ 4398046511104) : r24_compared_fn op c w = some (r24_compared op c w) := by
  have a1 := allI_range c; have a2 := othersI_range c; have a3 := szI_range c.nulls
  have e1 := shareA_range (all := allI c) (n := szI c.nulls) a3.1 a1.1
  have e2 := eqF_range (all := allI c) (others := othersI c) w a1.1 a2.1 c.common
  unfold r24_compared_fn r24_compared againstI knownC
  simp only [beq_iff_eq, foldMax, r24_equal_eq, r24_share_eq, r24_all_eq, r24_size_eq]
  rw [wrap_id (n := 1000000 - shareA (allI c) (szI c.nulls)) (by omega), wrap_id (n := 1000000 - shareA (allI c) (szI c.nulls) - _) (by omega), wrap_id (n := allI c - szI c.nulls) (by omega)]
  by_cases h0 : w.kind = 0
  · rw [if_pos h0, if_pos h0]
  rw [if_neg h0, if_neg h0]
  by_cases h11 : op = 11
  · rw [if_pos h11, if_pos h11]
  rw [if_neg h11, if_neg h11]
  by_cases h12 : op = 12
  · rw [if_pos h12, if_pos h12]; congr 1; omega
  rw [if_neg h12, if_neg h12]
  unfold besideA by4
  by_cases he : c.ends = []
  · rw [if_pos (by simp [he]), if_pos he]
  · have hpos : 0 < c.ends.length := List.length_pos_iff.2 he
    have hl := r24_compared_loop op c w (by omega) c.ends 0 0 rfl (by omega) (by omega)
    simp only [Nat.zero_add] at hl
    have hne : ¬ ((c.ends.length : Int) = 0) := by omega
    rw [if_neg hne, if_neg he, if_neg hne]
    erw [hl]
    have hm : szI (allI c - szI c.nulls) = max (allI c - szI c.nulls) 0 := by unfold szI at *; omega
    have hs := shareA_range (all := allI c) (n := max (allI c - szI c.nulls) 0) (by omega) a1.1
    have hn := standN_le (stands op) w c.ends
    have hp := part_of (n := (standN (stands op) w c.ends : Nat)) (k := (c.ends.length : Nat)) hs (by omega) (by omega)
    simp only [Option.bind_eq_bind, Option.bind_some, hm]
    rw [if_pos hne, wrap_id (n := shareA _ _ * _) (by omega), Int.tdiv_eq_ediv_of_nonneg hp.1, wrap_id (by omega)]
    congr 1; omega

def F_r24_compared : FnC Un := fun args => match args with
  | [x0, x1, x2] => (dI .i64 x0).bind fun op => (dS .colStat x1).bind fun c => (dS .val x2).bind fun w => some ([c.ends.length ≤ 4398046511104], A_r24_compared (r24_compared op c w), O_r24_compared (r24_compared op c w))
  | _ => none

theorem ok_r24_compared : FnOK 40 F_r24_compared := by
  intro args ob rs os h hob
  unfold F_r24_compared at h
  split at h
  · simp only [Option.bind_eq_some_iff, Option.some.injEq, Prod.mk.injEq] at h
    obtain ⟨op, e0, c, e1, w, e2, rfl, rfl, rfl⟩ := h
    obtain rfl := dI_eq e0
    obtain rfl := dS_eq e1
    obtain rfl := dS_eq e2
    exact ⟨fn_contract (M := M_r24_compared) rfl (tbl_ok (l1 := [(47, F_r24_equal), (28, F_r24_share), (48, F_r24_stands), (42, F_r24_all), (31, F_r24_size)]) (l2 := []) (l3 := []) (l4 := []) ⟨ok_r24_equal, ok_r24_share, ok_r24_stands, ok_r24_all, ok_r24_size, trivial⟩ trivial trivial trivial) Try.func40 (by kernel_rfl) N_r24_compared 0 [.d] (fun hwf => r24_compared_run (r24_compared_spec op c w (wfArg hwf (a := .d (.v (.s (.int .i64 op)))) (List.mem_of_getElem? (i := 0) rfl)) (wfArg hwf (a := .d (.agg (enc Ty.colStat c))) (List.mem_of_getElem? (i := 1) rfl)) (wfArg hwf (a := .d (.agg (enc Ty.val w))) (List.mem_of_getElem? (i := 2) rfl)) (hob _ (List.mem_of_getElem? (i := 0) rfl)))), hasBody_of Try.func40 (by kernel_rfl) (by kernel_rfl)⟩
  · simp at h


end
end Go.Proofs.Ytjndihloefdplaa.B
