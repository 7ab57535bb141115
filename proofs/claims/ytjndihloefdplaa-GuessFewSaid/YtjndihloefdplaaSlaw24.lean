/- Functions: law24. (Printed by wip/tools/mkfn.py out of wip/src/law24.src.) -/
import Derived.Test.YtjndihloefdplaaBLib
import Derived.Test.YtjndihloefdplaaSspec
import Derived.Test.YtjndihloefdplaaSspec26
import Derived.Test.YtjndihloefdplaaSterms
import Derived.Test.YtjndihloefdplaaSlcmp
import Derived.Test.YtjndihloefdplaaSvcmp
import Derived.Test.YtjndihloefdplaaSref03
import Derived.Test.YtjndihloefdplaaSref03c
import Derived.Test.YtjndihloefdplaaSbits
import Derived.Test.YtjndihloefdplaaSguess1
import Derived.Test.YtjndihloefdplaaSguess2
import Derived.Test.YtjndihloefdplaaSguess3
import Derived.Test.YtjndihloefdplaaSguess4
import Derived.Test.YtjndihloefdplaaSguess5
import Derived.Test.YtjndihloefdplaaSref24a
import Derived.Test.YtjndihloefdplaaSref24b
import Derived.Test.YtjndihloefdplaaSref24c
import Derived.Test.YtjndihloefdplaaSlarge
namespace Go.Proofs.Ytjndihloefdplaa.B
open Go Go.RowKit
set_option maxRecDepth 100000
noncomputable section
attribute [local irreducible] awp ctxK itersK iterK retQ retGQ

/-! ### value.Num -/
def M_value_Num : Mc Un := mach (tbl []) (tbl []) (tbl []) (tbl [])
def N_value_Num : Nat → NS := fun l => (look l []).getD ⟨[], [], [], [], []⟩
def A_value_Num (r : Val) : List (A Un) := [.agg (encC Ty.val r)]
def O_value_Num (_r : Val) : List (Ob Un) := []
theorem value_Num_in (n : Int) (K : List (A Un) → List (Ob Un) → Prop) :
    awp M_value_Num N_value_Num (bodyOf Try.f19) (entry Try.f19.ntmps 0 [.d (.v (.s (.int .i64 n)))]) (retQ M_value_Num Try.f19.results.toList [.d] K) =
(K (A_value_Num ({ kind := (2 : Int), n := n, s := (ByteArray.mk #[]) })) (O_value_Num ({ kind := (2 : Int), n := n, s := (ByteArray.mk #[]) }))) := by kernel_rfl
def value_Num_fn (n : Int) : Option (Val) :=
  some ({ kind := (2 : Int), n := n, s := (ByteArray.mk #[]) })
theorem value_Num_run {n : Int} {r : Val} (h : value_Num_fn n = some r) : Runs (awp M_value_Num N_value_Num (bodyOf Try.f19) (entry Try.f19.ntmps 0 [.d (.v (.s (.int .i64 n)))]) (retQ M_value_Num Try.f19.results.toList [.d] fun rs os => rs = A_value_Num r ∧ os = O_value_Num r)) := by
  constructor
  rw [value_Num_in n (fun rs os => rs = A_value_Num r ∧ os = O_value_Num r)]
  unfold value_Num_fn at h
  cases h
  exact ⟨rfl, rfl⟩
def value_Num (n : Int) : Val :=
  ({ kind := (2 : Int), n := n, s := (ByteArray.mk #[]) })
theorem value_Num_eq (n : Int) : value_Num_fn n = some (value_Num n) := by unfold value_Num_fn value_Num; repeat (first | rfl | split)

def F_value_Num : FnC Un := fun args => match args with
  | [x0] => (dI .i64 x0).bind fun n => some ([], A_value_Num (value_Num n), O_value_Num (value_Num n))
  | _ => none

theorem ok_value_Num : FnOK 19 F_value_Num := by
  intro args ob rs os h hob
  unfold F_value_Num at h
  split at h
  · simp only [Option.bind_eq_some_iff, Option.some.injEq, Prod.mk.injEq] at h
    obtain ⟨n, e0, rfl, rfl, rfl⟩ := h
    obtain rfl := dI_eq e0
    exact ⟨fn_contract (M := M_value_Num) rfl (tbl_ok (l1 := []) (l2 := []) (l3 := []) (l4 := []) trivial trivial trivial trivial) Try.func19 (by kernel_rfl) N_value_Num 0 [.d] (fun hwf => value_Num_run (value_Num_eq n)), hasBody_of Try.func19 (by kernel_rfl) (by kernel_rfl)⟩
  · simp at h


/-! ### tabellionlaw24.col -/
def M_l24_col : Mc Un := mach (tbl [(19, F_value_Num)]) (tbl []) (tbl []) (tbl [])
def N_l24_col : Nat → NS := fun l => (look l []).getD ⟨[], [], [], [], []⟩
def A_l24_col (r : Term) : List (A Un) := [.agg (encC Ty.term r)]
def O_l24_col (_r : Term) : List (Ob Un) := []
theorem l24_col_in_raw (op : Int) (n : Int) (K : List (A Un) → List (Ob Un) → Prop) :
    awp M_l24_col N_l24_col (bodyOf Try.f20) (entry Try.f20.ntmps 0 [.d (.v (.s (.int .i64 op))), .d (.v (.s (.int .i64 n)))]) (retQ M_l24_col Try.f20.results.toList [.d] K) =
(K (A_l24_col (Term.mk op zeroVal (0 : Int) (0 : Int) (ByteArray.mk #[]) [Term.mk (2 : Int) zeroVal (0 : Int) (0 : Int) (ByteArray.mk #[]) [] [] (2 : Int), Term.mk (1 : Int) (value_Num n) (0 : Int) (0 : Int) (ByteArray.mk #[]) [] [] (2 : Int)] [] (1 : Int))) (O_l24_col (Term.mk op zeroVal (0 : Int) (0 : Int) (ByteArray.mk #[]) [Term.mk (2 : Int) zeroVal (0 : Int) (0 : Int) (ByteArray.mk #[]) [] [] (2 : Int), Term.mk (1 : Int) (value_Num n) (0 : Int) (0 : Int) (ByteArray.mk #[]) [] [] (2 : Int)] [] (1 : Int)))) := by kernel_rfl
theorem l24_col_in (op : Int) (n : Int) (K : List (A Un) → List (Ob Un) → Prop) :
    awp M_l24_col N_l24_col (bodyOf Try.f20) (entry Try.f20.ntmps 0 [.d (.v (.s (.int .i64 op))), .d (.v (.s (.int .i64 n)))]) (retQ M_l24_col Try.f20.results.toList [.d] K) =
(K (A_l24_col (Term.mk op zeroVal (0 : Int) (0 : Int) (ByteArray.mk #[]) [(Term.mk (2 : Int) zeroVal (0 : Int) (0 : Int) (ByteArray.mk #[]) [] [] (2 : Int)), (Term.mk (1 : Int) (value_Num n) (0 : Int) (0 : Int) (ByteArray.mk #[]) [] [] (2 : Int))] [] (1 : Int))) (O_l24_col (Term.mk op zeroVal (0 : Int) (0 : Int) (ByteArray.mk #[]) [(Term.mk (2 : Int) zeroVal (0 : Int) (0 : Int) (ByteArray.mk #[]) [] [] (2 : Int)), (Term.mk (1 : Int) (value_Num n) (0 : Int) (0 : Int) (ByteArray.mk #[]) [] [] (2 : Int))] [] (1 : Int)))) :=
  (l24_col_in_raw op n K).trans (by simp only [Term.eta])
def l24_col_fn (op : Int) (n : Int) : Option (Term) :=
  some (Term.mk op zeroVal (0 : Int) (0 : Int) (ByteArray.mk #[]) [(Term.mk (2 : Int) zeroVal (0 : Int) (0 : Int) (ByteArray.mk #[]) [] [] (2 : Int)), (Term.mk (1 : Int) (value_Num n) (0 : Int) (0 : Int) (ByteArray.mk #[]) [] [] (2 : Int))] [] (1 : Int))
theorem l24_col_run {op : Int} {n : Int} {r : Term} (h : l24_col_fn op n = some r) : Runs (awp M_l24_col N_l24_col (bodyOf Try.f20) (entry Try.f20.ntmps 0 [.d (.v (.s (.int .i64 op))), .d (.v (.s (.int .i64 n)))]) (retQ M_l24_col Try.f20.results.toList [.d] fun rs os => rs = A_l24_col r ∧ os = O_l24_col r)) := by
  constructor
  rw [l24_col_in op n (fun rs os => rs = A_l24_col r ∧ os = O_l24_col r)]
  unfold l24_col_fn at h
  cases h
  exact ⟨rfl, rfl⟩
def l24_col (op : Int) (n : Int) : Term :=
  (Term.mk op zeroVal (0 : Int) (0 : Int) (ByteArray.mk #[]) [(Term.mk (2 : Int) zeroVal (0 : Int) (0 : Int) (ByteArray.mk #[]) [] [] (2 : Int)), (Term.mk (1 : Int) (value_Num n) (0 : Int) (0 : Int) (ByteArray.mk #[]) [] [] (2 : Int))] [] (1 : Int))
theorem l24_col_eq (op : Int) (n : Int) : l24_col_fn op n = some (l24_col op n) := by unfold l24_col_fn l24_col; repeat (first | rfl | split)

def F_l24_col : FnC Un := fun args => match args with
  | [x0, x1] => (dI .i64 x0).bind fun op => (dI .i64 x1).bind fun n => some ([], A_l24_col (l24_col op n), O_l24_col (l24_col op n))
  | _ => none

theorem ok_l24_col : FnOK 20 F_l24_col := by
  intro args ob rs os h hob
  unfold F_l24_col at h
  split at h
  · simp only [Option.bind_eq_some_iff, Option.some.injEq, Prod.mk.injEq] at h
    obtain ⟨op, e0, n, e1, rfl, rfl, rfl⟩ := h
    obtain rfl := dI_eq e0
    obtain rfl := dI_eq e1
    exact ⟨fn_contract (M := M_l24_col) rfl (tbl_ok (l1 := [(19, F_value_Num)]) (l2 := []) (l3 := []) (l4 := []) ⟨ok_value_Num, trivial⟩ trivial trivial trivial) Try.func20 (by kernel_rfl) N_l24_col 0 [.d] (fun hwf => l24_col_run (l24_col_eq op n)), hasBody_of Try.func20 (by kernel_rfl) (by kernel_rfl)⟩
  · simp at h


/-! ### tabellionlaw24.Bare -/
def M_l24_Bare : Mc Un := mach (tbl []) (tbl []) (tbl []) (tbl [])
def N_l24_Bare : Nat → NS := fun l => (look l [(3, { ts := [true, false, false, true, true, false, false, false, false, false, false, false, false, false, false, false, false, false, false, false, false, false, false, false, false, false, false, false, false, false, false, false, false, false, false, false], bs := [false, false, false, false, false, false, false, false, false, false, false, false, false, false, false, false, false, false, false, false, false, false, false, false, false, false, false, false, false, false, false, false, false, false, false, false], nm := [], gb := [], gs := [] })]).getD ⟨[], [], [], [], []⟩
def A_l24_Bare (r : Bool) : List (A Un) := [.c (.s (.bool r))]
def O_l24_Bare (_r : Bool) : List (Ob Un) := []
def l24_Bare_s3 (l : List ColStat) (v0 : Int) (v1 : Int) : S Un := (st 36 36 144 0 [(0, AV.one (A.c (C.sl Ty.colStat l false))), (3, AV.one (A.c (C.s (Value.int IntKind.i64 v0)))), (4, AV.one (A.c (C.s (Value.int IntKind.i64 v1))))] [] [])
theorem l24_Bare_in (l : List ColStat) (K : List (A Un) → List (Ob Un) → Prop) :
    awp M_l24_Bare N_l24_Bare (bodyOf Try.f8) (entry Try.f8.ntmps 0 [.d (.v (.dat (U := Un) Ty.colStat l))]) (retQ M_l24_Bare Try.f8.results.toList [.d] K) =
(itersK (N_l24_Bare 3) (awp M_l24_Bare N_l24_Bare (sub (bodyOf Try.f8) [1, 1, 0, 1, 2, 2])) (ctxK M_l24_Bare N_l24_Bare (bodyOf Try.f8) [1, 1, 0, 1, 2] (retQ M_l24_Bare Try.f8.results.toList [.d] K)) (l24_Bare_s3 l (↑l.length : Int) (0 : Int))) := by kernel_rfl
theorem l24_Bare_l3 (l : List ColStat) (v0 : Int) (v1 : Int) (k : Nat) (Q : Exit → S Un → Prop) :
    iterK (N_l24_Bare 3) (awp M_l24_Bare N_l24_Bare (sub (bodyOf Try.f8) [1, 1, 0, 1, 2, 2])) Q (k + 1) (l24_Bare_s3 l v0 v1) =
(cnd (decide (v1 < (↑l.length : Int)))
 (cnd (decide (v1 < (100 : Int)))
  (((0 : Int) ≤ v1 ∧ v1 < (↑l.length : Int)) ∧
  (((0 : Int) ≤ v1 ∧ v1 < (↑l.length : Int)) ∧
  (iterK (N_l24_Bare 3) (awp M_l24_Bare N_l24_Bare (sub (bodyOf Try.f8) [1, 1, 0, 1, 2, 2])) Q k (l24_Bare_s3 l (IntKind.i64.wrap (IntKind.i64.wrap (v0 + List.foldl (fun a b => if b < a then b else a) (↑(l.getD v1.toNat zeroColStat).ends.length : Int) [(1000 : Int)]) + List.foldl (fun a b => if b < a then b else a) (↑(l.getD v1.toNat zeroColStat).common.length : Int) [(1000 : Int)])) (IntKind.i64.wrap (v1 + (1 : Int)))))))
  (Q (.exit 0) (l24_Bare_s3 l v0 v1)))
 (Q (.exit 0) (l24_Bare_s3 l v0 v1))) := by kernel_rfl
theorem l24_Bare_a3_x0 (l : List ColStat) (v0 : Int) (v1 : Int) (K : List (A Un) → List (Ob Un) → Prop) :
    ctxK M_l24_Bare N_l24_Bare (bodyOf Try.f8) [1, 1, 0, 1, 2] (retQ M_l24_Bare Try.f8.results.toList [.d] K) (.exit 0) (l24_Bare_s3 l v0 v1) =
(K (A_l24_Bare (decide (v0 ≤ (900 : Int)))) (O_l24_Bare (decide (v0 ≤ (900 : Int))))) := by kernel_rfl
def l24_Bare_S3 (l : List ColStat) (v : Int × Int) : Option ((Int × Int) ⊕ (Int × Int)) :=
  if (decide (v.2 < (↑l.length : Int))) = true then
   if (decide (v.2 < (100 : Int))) = true then
    if (0 : Int) ≤ v.2 ∧ v.2 < (↑l.length : Int) then
     if (0 : Int) ≤ v.2 ∧ v.2 < (↑l.length : Int) then
      some (.inl ((IntKind.i64.wrap (IntKind.i64.wrap (v.1 + List.foldl (fun a b => if b < a then b else a) (↑(l.getD v.2.toNat zeroColStat).ends.length : Int) [(1000 : Int)]) + List.foldl (fun a b => if b < a then b else a) (↑(l.getD v.2.toNat zeroColStat).common.length : Int) [(1000 : Int)])), (IntKind.i64.wrap (v.2 + (1 : Int)))))
     else none
    else none
   else
    some (.inr (v.1, v.2))
  else
   some (.inr (v.1, v.2))
def l24_Bare_L3 (l : List ColStat) (v : Int × Int) : Option (Int × Int) := loopO (l24_Bare_S3 l) v
theorem l24_Bare_L3_eq (l : List ColStat) (v : Int × Int) : l24_Bare_L3 l v = stepB (l24_Bare_L3 l) (l24_Bare_S3 l v) := loopO_eq _ _
def l24_Bare_Q3 (l : List ColStat) (r : Int × Int) (Q : Exit → S Un → Prop) : Prop := Q (.exit 0) (l24_Bare_s3 l r.1 r.2)
theorem l24_Bare_Q3_x0 {l : List ColStat} {r : Int × Int} {Q : Exit → S Un → Prop} (h : Q (.exit 0) (l24_Bare_s3 l r.1 r.2)) : l24_Bare_Q3 l r Q := h
theorem l24_Bare_L3_run {l : List ColStat} {v : Int × Int} {r : Int × Int} (h : l24_Bare_L3 l v = some r) (Q : Exit → S Un → Prop) (hQ : l24_Bare_Q3 l r Q) : itersK (N_l24_Bare 3) (awp M_l24_Bare N_l24_Bare (sub (bodyOf Try.f8) [1, 1, 0, 1, 2, 2])) Q (l24_Bare_s3 l v.1 v.2) := by
  refine @loop_run _ _ (l24_Bare_S3 l) (fun v => itersK (N_l24_Bare 3) (awp M_l24_Bare N_l24_Bare (sub (bodyOf Try.f8) [1, 1, 0, 1, 2, 2])) Q (l24_Bare_s3 l v.1 v.2)) (fun r => l24_Bare_Q3 l r Q) ?_ v r h hQ
  intro v o h hI
  unfold l24_Bare_S3 at h
  rcases ite_some h with ⟨c1, h2⟩ | ⟨c1, h2⟩
  · rcases ite_some h2 with ⟨c3, h4⟩ | ⟨c3, h4⟩
    · obtain ⟨c5, h6⟩ := ob_some h4
      obtain ⟨c7, h8⟩ := ob_some h6
      cases h8
      obtain ⟨k9, hk10⟩ := itersK_get hI
      exact itersK_mk (k9 + 1) (mpr (l24_Bare_l3 l v.1 v.2 k9 Q) (cnd_t c1 (cnd_t c3 (And.intro c5 (And.intro c7 hk10)))))
    · cases h4
      exact itersK_mk 1 (mpr (l24_Bare_l3 l v.1 v.2 0 Q) (cnd_t c1 (cnd_f (bfalse c3) hI)))
  · cases h2
    exact itersK_mk 1 (mpr (l24_Bare_l3 l v.1 v.2 0 Q) (cnd_f (bfalse c1) hI))
def l24_Bare_fn (l : List ColStat) : Option (Bool) :=
  (l24_Bare_L3 l ((↑l.length : Int), (0 : Int))) >>= fun o11 =>
   some (decide (o11.1 ≤ (900 : Int)))
theorem l24_Bare_run {l : List ColStat} {r : Bool} (h : l24_Bare_fn l = some r) : Runs (awp M_l24_Bare N_l24_Bare (bodyOf Try.f8) (entry Try.f8.ntmps 0 [.d (.v (.dat (U := Un) Ty.colStat l))]) (retQ M_l24_Bare Try.f8.results.toList [.d] fun rs os => rs = A_l24_Bare r ∧ os = O_l24_Bare r)) := by
  constructor
  rw [l24_Bare_in l (fun rs os => rs = A_l24_Bare r ∧ os = O_l24_Bare r)]
  unfold l24_Bare_fn at h
  obtain ⟨o12, ho13, h14⟩ := bind_some h
  cases h14
  exact (l24_Bare_L3_run ho13 _ (l24_Bare_Q3_x0 (mpr (l24_Bare_a3_x0 l o12.1 o12.2 _) ⟨rfl, rfl⟩)))

/-- How much is known of some columns, of the first hundred. -/
def bareF : Nat → List ColStat → Int
  | 0, _ => 0
  | _ + 1, [] => 0
  | k + 1, c :: r => min (c.ends.length : Int) 1000 + min (c.common.length : Int) 1000 + bareF k r
def bareI (l : List ColStat) : Int := l.length + bareF 100 l
def l24_Bare (l : List ColStat) : Bool := decide (bareI l ≤ 900)

theorem bareF_range : ∀ (k : Nat) (l : List ColStat), 0 ≤ bareF k l ∧ bareF k l ≤ 2000 * k
  | 0, _ => by simp [bareF]
  | k + 1, [] => by simp only [bareF]; omega
  | k + 1, c :: r => by have := bareF_range k r; simp only [bareF]; omega
theorem l24_Bare_loop (l : List ColStat) (hl : l.length ≤ 9223372036854775807) (hw : ∀ c ∈ l, c.ends.length ≤ 9223372036854775807 ∧ c.common.length ≤ 9223372036854775807) (hb : l.length ≤ 1000000000000000000) : ∀ (k i : Nat) (r : List ColStat) (a : Int), l.drop i = r → i + k = 100 → (0 ≤ a ∧ a ≤ 1000000000000000000 + 2000 * i) →
    ∃ j, l24_Bare_L3 l (a, (i : Int)) = some (a + bareF k r, j) := by
  intro k
  induction k with
  | zero =>
    intro i r a h1 h2 h3
    have hi : ¬ ((i : Int) < 100) := by omega
    refine ⟨i, ?_⟩
    rw [l24_Bare_L3_eq, l24_Bare_S3]
    simp only [hi, decide_false, Bool.false_eq_true, if_false, bareF, Int.add_zero]
    split <;> rfl
  | succ k ih =>
    intro i r a h1 h2 h3
    cases r with
    | nil =>
      have e1 := drop_nil h1
      have hn : ¬ ((i : Int) < l.length) := by omega
      exact ⟨i, by rw [l24_Bare_L3_eq, l24_Bare_S3]; simp [hn, bareF]⟩
    | cons c r =>
      obtain ⟨a1, a2, a3, hm⟩ := drop_cons h1
      have hp : (i : Int) < l.length := by omega
      have hi : (0 : Int) ≤ i := by omega
      have hi2 : (i : Int) < 100 := by omega
      have hc := hw c hm
      rw [l24_Bare_L3_eq, l24_Bare_S3]
      simp only [hp, hi, hi2, decide_true, if_true, and_self, Int.toNat_natCast, a2, foldMin]
      rw [wrap_id (n := a + _) (by omega), wrap_id (n := a + _ + _) (by omega), wrap_succ a1 hl, stepB_inl]
      obtain ⟨j, hj⟩ := ih (i + 1) r (a + min (c.ends.length : Int) 1000 + min (c.common.length : Int) 1000) a3 (by omega) (by omega)
      refine ⟨j, ?_⟩
      rw [hj]; simp only [bareF]; congr 2; omega
theorem l24_Bare_spec (l : List ColStat) (h : WL .colStat l) (hb : l.length ≤ 1000000000000000000) : l24_Bare_fn l = some (l24_Bare l) := by
  obtain ⟨j, hj⟩ := l24_Bare_loop l h.len (fun c hc => ⟨((h.get hc).colStat_ends).len, ((h.get hc).colStat_common).len⟩) hb 100 0 l (l.length : Int) rfl rfl (by omega)
  unfold l24_Bare_fn l24_Bare bareI
  erw [hj]
  rfl

def F_l24_Bare : FnC Un := fun args => match args with
  | [x0] => (dL .colStat x0).bind fun l => some ([l.length ≤ 1000000000000000000], A_l24_Bare (l24_Bare l), O_l24_Bare (l24_Bare l))
  | _ => none

theorem ok_l24_Bare : FnOK 8 F_l24_Bare := by
  intro args ob rs os h hob
  unfold F_l24_Bare at h
  split at h
  · simp only [Option.bind_eq_some_iff, Option.some.injEq, Prod.mk.injEq] at h
    obtain ⟨l, e0, rfl, rfl, rfl⟩ := h
    obtain rfl := dL_eq e0
    exact ⟨fn_contract (M := M_l24_Bare) rfl (tbl_ok (l1 := []) (l2 := []) (l3 := []) (l4 := []) trivial trivial trivial trivial) Try.func8 (by kernel_rfl) N_l24_Bare 0 [.d] (fun hwf => l24_Bare_run (l24_Bare_spec l (wfArg hwf (a := .d (.v (.dat (U := Un) Ty.colStat l))) (List.mem_of_getElem? (i := 0) rfl)) (hob _ (List.mem_of_getElem? (i := 0) rfl)))), hasBody_of Try.func8 (by kernel_rfl) (by kernel_rfl)⟩
  · simp at h


/-! ### tabellionlaw24.awake -/
def M_l24_awake : Mc Un := mach (tbl [(19, F_value_Num), (20, F_l24_col), (10, F_guess_Part), (12, F_guess_Rows), (14, F_guess_Pairs), (16, F_guess_Groups)]) (tbl []) (tbl []) (tbl [])
def N_l24_awake : Nat → NS := fun l => (look l []).getD ⟨[], [], [], [], []⟩
def A_l24_awake (r : Bool) : List (A Un) := [.c (.s (.bool r))]
def O_l24_awake (_r : Bool) : List (Ob Un) := []
theorem l24_awake_in_raw (K : List (A Un) → List (Ob Un) → Prop) :
    awp M_l24_awake N_l24_awake (bodyOf Try.f9) (entry Try.f9.ntmps 0 []) (retQ M_l24_awake Try.f9.results.toList [.d] K) =
(cnd (guess_Part (Term.mk (l24_col (11 : Int) (7 : Int)).op (l24_col (11 : Int) (7 : Int)).v (l24_col (11 : Int) (7 : Int)).depth (l24_col (11 : Int) (7 : Int)).at_ (l24_col (11 : Int) (7 : Int)).name (l24_col (11 : Int) (7 : Int)).kids (l24_col (11 : Int) (7 : Int)).sub (l24_col (11 : Int) (7 : Int)).type) [{ nulls := (2 : Int), distinct := (6 : Int), ends := [(value_Num (1 : Int)), (value_Num (9 : Int))], common := [{ v := (value_Num (7 : Int)), n := (3 : Int) }] }] == (300000 : Int))
 (cnd (guess_Part (Term.mk (l24_col (11 : Int) (1 : Int)).op (l24_col (11 : Int) (1 : Int)).v (l24_col (11 : Int) (1 : Int)).depth (l24_col (11 : Int) (1 : Int)).at_ (l24_col (11 : Int) (1 : Int)).name (l24_col (11 : Int) (1 : Int)).kids (l24_col (11 : Int) (1 : Int)).sub (l24_col (11 : Int) (1 : Int)).type) [{ nulls := (2 : Int), distinct := (6 : Int), ends := [(value_Num (1 : Int)), (value_Num (9 : Int))], common := [{ v := (value_Num (7 : Int)), n := (3 : Int) }] }] == (100000 : Int))
  (cnd (guess_Part (Term.mk (19 : Int) zeroVal (0 : Int) (0 : Int) (ByteArray.mk #[]) [Term.mk (2 : Int) zeroVal (0 : Int) (0 : Int) (ByteArray.mk #[]) [] [] (2 : Int)] [] (1 : Int)) [{ nulls := (2 : Int), distinct := (6 : Int), ends := [(value_Num (1 : Int)), (value_Num (9 : Int))], common := [{ v := (value_Num (7 : Int)), n := (3 : Int) }] }] == (200000 : Int))
   (cnd (guess_Part (Term.mk (l24_col (13 : Int) (5 : Int)).op (l24_col (13 : Int) (5 : Int)).v (l24_col (13 : Int) (5 : Int)).depth (l24_col (13 : Int) (5 : Int)).at_ (l24_col (13 : Int) (5 : Int)).name (l24_col (13 : Int) (5 : Int)).kids (l24_col (13 : Int) (5 : Int)).sub (l24_col (13 : Int) (5 : Int)).type) [{ nulls := (2 : Int), distinct := (6 : Int), ends := [(value_Num (1 : Int)), (value_Num (9 : Int))], common := [{ v := (value_Num (7 : Int)), n := (3 : Int) }] }] == (400000 : Int))
    (((0 : Int) ≤ (0 : Int) ∧ (0 : Int) < (↑([{ nulls := (2 : Int), distinct := (6 : Int), ends := [(value_Num (1 : Int)), (value_Num (9 : Int))], common := [{ v := (value_Num (7 : Int)), n := (3 : Int) }] }] : List ColStat).length : Int)) ∧
    (K (A_l24_awake (true)) (O_l24_awake (true))))
    (K (A_l24_awake (false)) (O_l24_awake (false))))
   (K (A_l24_awake (false)) (O_l24_awake (false))))
  (K (A_l24_awake (false)) (O_l24_awake (false))))
 (K (A_l24_awake (false)) (O_l24_awake (false)))) := by kernel_rfl
theorem l24_awake_in (K : List (A Un) → List (Ob Un) → Prop) :
    awp M_l24_awake N_l24_awake (bodyOf Try.f9) (entry Try.f9.ntmps 0 []) (retQ M_l24_awake Try.f9.results.toList [.d] K) =
(cnd (guess_Part (Term.mk (l24_col (11 : Int) (7 : Int)).op (l24_col (11 : Int) (7 : Int)).v (l24_col (11 : Int) (7 : Int)).depth (l24_col (11 : Int) (7 : Int)).at_ (l24_col (11 : Int) (7 : Int)).name (l24_col (11 : Int) (7 : Int)).kids (l24_col (11 : Int) (7 : Int)).sub (l24_col (11 : Int) (7 : Int)).type) [{ nulls := (2 : Int), distinct := (6 : Int), ends := [(value_Num (1 : Int)), (value_Num (9 : Int))], common := [{ v := (value_Num (7 : Int)), n := (3 : Int) }] }] == (300000 : Int))
 (cnd (guess_Part (Term.mk (l24_col (11 : Int) (1 : Int)).op (l24_col (11 : Int) (1 : Int)).v (l24_col (11 : Int) (1 : Int)).depth (l24_col (11 : Int) (1 : Int)).at_ (l24_col (11 : Int) (1 : Int)).name (l24_col (11 : Int) (1 : Int)).kids (l24_col (11 : Int) (1 : Int)).sub (l24_col (11 : Int) (1 : Int)).type) [{ nulls := (2 : Int), distinct := (6 : Int), ends := [(value_Num (1 : Int)), (value_Num (9 : Int))], common := [{ v := (value_Num (7 : Int)), n := (3 : Int) }] }] == (100000 : Int))
  (cnd (guess_Part (Term.mk (19 : Int) zeroVal (0 : Int) (0 : Int) (ByteArray.mk #[]) [(Term.mk (2 : Int) zeroVal (0 : Int) (0 : Int) (ByteArray.mk #[]) [] [] (2 : Int))] [] (1 : Int)) [{ nulls := (2 : Int), distinct := (6 : Int), ends := [(value_Num (1 : Int)), (value_Num (9 : Int))], common := [{ v := (value_Num (7 : Int)), n := (3 : Int) }] }] == (200000 : Int))
   (cnd (guess_Part (Term.mk (l24_col (13 : Int) (5 : Int)).op (l24_col (13 : Int) (5 : Int)).v (l24_col (13 : Int) (5 : Int)).depth (l24_col (13 : Int) (5 : Int)).at_ (l24_col (13 : Int) (5 : Int)).name (l24_col (13 : Int) (5 : Int)).kids (l24_col (13 : Int) (5 : Int)).sub (l24_col (13 : Int) (5 : Int)).type) [{ nulls := (2 : Int), distinct := (6 : Int), ends := [(value_Num (1 : Int)), (value_Num (9 : Int))], common := [{ v := (value_Num (7 : Int)), n := (3 : Int) }] }] == (400000 : Int))
    (((0 : Int) ≤ (0 : Int) ∧ (0 : Int) < (↑([{ nulls := (2 : Int), distinct := (6 : Int), ends := [(value_Num (1 : Int)), (value_Num (9 : Int))], common := [{ v := (value_Num (7 : Int)), n := (3 : Int) }] }] : List ColStat).length : Int)) ∧
    (K (A_l24_awake (true)) (O_l24_awake (true))))
    (K (A_l24_awake (false)) (O_l24_awake (false))))
   (K (A_l24_awake (false)) (O_l24_awake (false))))
  (K (A_l24_awake (false)) (O_l24_awake (false))))
 (K (A_l24_awake (false)) (O_l24_awake (false)))) :=
  (l24_awake_in_raw K).trans (by simp only [Term.eta])
def l24_awake_fn : Option (Bool) :=
  if (guess_Part (Term.mk (l24_col (11 : Int) (7 : Int)).op (l24_col (11 : Int) (7 : Int)).v (l24_col (11 : Int) (7 : Int)).depth (l24_col (11 : Int) (7 : Int)).at_ (l24_col (11 : Int) (7 : Int)).name (l24_col (11 : Int) (7 : Int)).kids (l24_col (11 : Int) (7 : Int)).sub (l24_col (11 : Int) (7 : Int)).type) [{ nulls := (2 : Int), distinct := (6 : Int), ends := [(value_Num (1 : Int)), (value_Num (9 : Int))], common := [{ v := (value_Num (7 : Int)), n := (3 : Int) }] }] == (300000 : Int)) = true then
   if (guess_Part (Term.mk (l24_col (11 : Int) (1 : Int)).op (l24_col (11 : Int) (1 : Int)).v (l24_col (11 : Int) (1 : Int)).depth (l24_col (11 : Int) (1 : Int)).at_ (l24_col (11 : Int) (1 : Int)).name (l24_col (11 : Int) (1 : Int)).kids (l24_col (11 : Int) (1 : Int)).sub (l24_col (11 : Int) (1 : Int)).type) [{ nulls := (2 : Int), distinct := (6 : Int), ends := [(value_Num (1 : Int)), (value_Num (9 : Int))], common := [{ v := (value_Num (7 : Int)), n := (3 : Int) }] }] == (100000 : Int)) = true then
    if (guess_Part (Term.mk (19 : Int) zeroVal (0 : Int) (0 : Int) (ByteArray.mk #[]) [(Term.mk (2 : Int) zeroVal (0 : Int) (0 : Int) (ByteArray.mk #[]) [] [] (2 : Int))] [] (1 : Int)) [{ nulls := (2 : Int), distinct := (6 : Int), ends := [(value_Num (1 : Int)), (value_Num (9 : Int))], common := [{ v := (value_Num (7 : Int)), n := (3 : Int) }] }] == (200000 : Int)) = true then
     if (guess_Part (Term.mk (l24_col (13 : Int) (5 : Int)).op (l24_col (13 : Int) (5 : Int)).v (l24_col (13 : Int) (5 : Int)).depth (l24_col (13 : Int) (5 : Int)).at_ (l24_col (13 : Int) (5 : Int)).name (l24_col (13 : Int) (5 : Int)).kids (l24_col (13 : Int) (5 : Int)).sub (l24_col (13 : Int) (5 : Int)).type) [{ nulls := (2 : Int), distinct := (6 : Int), ends := [(value_Num (1 : Int)), (value_Num (9 : Int))], common := [{ v := (value_Num (7 : Int)), n := (3 : Int) }] }] == (400000 : Int)) = true then
      if (0 : Int) ≤ (0 : Int) ∧ (0 : Int) < (↑([{ nulls := (2 : Int), distinct := (6 : Int), ends := [(value_Num (1 : Int)), (value_Num (9 : Int))], common := [{ v := (value_Num (7 : Int)), n := (3 : Int) }] }] : List ColStat).length : Int) then
       some (true)
      else none
     else
      some (false)
    else
     some (false)
   else
    some (false)
  else
   some (false)
theorem l24_awake_run {r : Bool} (h : l24_awake_fn = some r) : Runs (awp M_l24_awake N_l24_awake (bodyOf Try.f9) (entry Try.f9.ntmps 0 []) (retQ M_l24_awake Try.f9.results.toList [.d] fun rs os => rs = A_l24_awake r ∧ os = O_l24_awake r)) := by
  constructor
  rw [l24_awake_in (fun rs os => rs = A_l24_awake r ∧ os = O_l24_awake r)]
  unfold l24_awake_fn at h
  rcases ite_some h with ⟨c1, h2⟩ | ⟨c1, h2⟩
  · rcases ite_some h2 with ⟨c3, h4⟩ | ⟨c3, h4⟩
    · rcases ite_some h4 with ⟨c5, h6⟩ | ⟨c5, h6⟩
      · rcases ite_some h6 with ⟨c7, h8⟩ | ⟨c7, h8⟩
        · obtain ⟨c9, h10⟩ := ob_some h8
          cases h10
          exact (cnd_t c1 (cnd_t c3 (cnd_t c5 (cnd_t c7 (And.intro c9 ⟨rfl, rfl⟩)))))
        · cases h8
          exact (cnd_t c1 (cnd_t c3 (cnd_t c5 (cnd_f (bfalse c7) ⟨rfl, rfl⟩))))
      · cases h6
        exact (cnd_t c1 (cnd_t c3 (cnd_f (bfalse c5) ⟨rfl, rfl⟩)))
    · cases h4
      exact (cnd_t c1 (cnd_f (bfalse c3) ⟨rfl, rfl⟩))
  · cases h2
    exact (cnd_f (bfalse c1) ⟨rfl, rfl⟩)

def l24_awake : Bool := true

theorem l24_awake_spec : l24_awake_fn = some l24_awake := by kernel_rfl

def F_l24_awake : FnC Un := fun args => match args with
  | [] => some ([], A_l24_awake (l24_awake), O_l24_awake (l24_awake))
  | _ => none

theorem ok_l24_awake : FnOK 9 F_l24_awake := by
  intro args ob rs os h hob
  unfold F_l24_awake at h
  split at h
  · simp only [Option.bind_eq_some_iff, Option.some.injEq, Prod.mk.injEq] at h
    obtain ⟨rfl, rfl, rfl⟩ := h
    exact ⟨fn_contract (M := M_l24_awake) rfl (tbl_ok (l1 := [(19, F_value_Num), (20, F_l24_col), (10, F_guess_Part), (12, F_guess_Rows), (14, F_guess_Pairs), (16, F_guess_Groups)]) (l2 := []) (l3 := []) (l4 := []) ⟨ok_value_Num, ok_l24_col, ok_guess_Part, ok_guess_Rows, ok_guess_Pairs, ok_guess_Groups, trivial⟩ trivial trivial trivial) Try.func9 (by kernel_rfl) N_l24_awake 0 [.d] (fun hwf => l24_awake_run (l24_awake_spec)), hasBody_of Try.func9 (by kernel_rfl) (by kernel_rfl)⟩
  · simp at h


end
end Go.Proofs.Ytjndihloefdplaa.B
