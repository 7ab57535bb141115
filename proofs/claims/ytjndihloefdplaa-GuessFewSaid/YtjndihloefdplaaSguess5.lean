/- Functions: guess5. (Printed by wip/tools/mkfn.py out of wip/src/guess5.src.) -/
import Derived.Test.YtjndihloefdplaaBLib
import Derived.Test.YtjndihloefdplaaSspec
import Derived.Test.YtjndihloefdplaaSbits
import Derived.Test.YtjndihloefdplaaSguess1
import Derived.Test.YtjndihloefdplaaSguess2
namespace Go.Proofs.Ytjndihloefdplaa.B
open Go Go.RowKit
set_option maxRecDepth 100000
noncomputable section
attribute [local irreducible] awp ctxK itersK iterK retQ retGQ

def clampP (p : Int) : Int := min (max p 0) 1000000
def rowsG (n p : Int) : Int := szI n - by4 (szI n) (1000000 - clampP p) 1000000 1000000000000
def pairsG (x y : Int) (a b : ColStat) : Int := by4 (szI x) (szI y) (max (max (szI a.distinct) (szI b.distinct)) 1) 1000000000000
def stepG (o : Int) (c : ColStat) : Int := by4 o (max (szI c.distinct) 1) 1 1000000000000
def groupsG (n : Int) (l : List ColStat) : Int := min (l.foldl stepG 1) (szI n)

theorem foldMin (a b : Int) : List.foldl (fun a b => if b < a then b else a) a [b] = min a b := by simp only [List.foldl]; split <;> omega
theorem foldMax (a b : Int) : List.foldl (fun a b => if a < b then b else a) a [b] = max a b := by simp only [List.foldl]; split <;> omega
theorem foldMax2 (a b c : Int) : List.foldl (fun a b => if a < b then b else a) a [b, c] = max (max a b) c := by
  simp only [List.foldl]
  repeat' split
  all_goals omega
theorem by4_nn {n a b most : Int} (h : 0 ≤ n) (ha : 0 ≤ a) (hb : 0 ≤ b) (hm : 0 ≤ most) : 0 ≤ by4 n a b most ∧ by4 n a b most ≤ most := by
  unfold by4; split
  · omega
  · have : 0 ≤ n * a / b := Int.ediv_nonneg (Int.mul_nonneg h ha) hb
    omega

/-! ### guess.Rows -/
def M_guess_Rows : Mc Un := mach (tbl [(29, F_guess_size), (30, F_guess_by)]) (tbl []) (tbl []) (tbl [])
def N_guess_Rows : Nat → NS := fun l => (look l []).getD ⟨[], [], [], [], []⟩
def A_guess_Rows (r : Int) : List (A Un) := [.c (.s (.int .i64 r))]
def O_guess_Rows (_r : Int) : List (Ob Un) := []
theorem guess_Rows_in (n : Int) (part : Int) (K : List (A Un) → List (Ob Un) → Prop) :
    awp M_guess_Rows N_guess_Rows (bodyOf Try.f12) (entry Try.f12.ntmps 0 [.d (.v (.s (.int .i64 n))), .d (.v (.s (.int .i64 part)))]) (retQ M_guess_Rows Try.f12.results.toList [.d] K) =
(((0 : Int) ≤ guess_size n ∧ (0 : Int) ≤ IntKind.i64.wrap ((1000000 : Int) - List.foldl (fun a b => if b < a then b else a) (List.foldl (fun a b => if a < b then b else a) part [(0 : Int)]) [(1000000 : Int)]) ∧ (0 : Int) ≤ (1000000 : Int) ∧ (0 : Int) ≤ (1000000000000 : Int)) ∧
(K (A_guess_Rows (IntKind.i64.wrap (guess_size n - guess_by (guess_size n) (IntKind.i64.wrap ((1000000 : Int) - List.foldl (fun a b => if b < a then b else a) (List.foldl (fun a b => if a < b then b else a) part [(0 : Int)]) [(1000000 : Int)])) (1000000 : Int) (1000000000000 : Int)))) (O_guess_Rows (IntKind.i64.wrap (guess_size n - guess_by (guess_size n) (IntKind.i64.wrap ((1000000 : Int) - List.foldl (fun a b => if b < a then b else a) (List.foldl (fun a b => if a < b then b else a) part [(0 : Int)]) [(1000000 : Int)])) (1000000 : Int) (1000000000000 : Int)))))) := by kernel_rfl
def guess_Rows_fn (n : Int) (part : Int) : Option (Int) :=
  if (0 : Int) ≤ guess_size n ∧ (0 : Int) ≤ IntKind.i64.wrap ((1000000 : Int) - List.foldl (fun a b => if b < a then b else a) (List.foldl (fun a b => if a < b then b else a) part [(0 : Int)]) [(1000000 : Int)]) ∧ (0 : Int) ≤ (1000000 : Int) ∧ (0 : Int) ≤ (1000000000000 : Int) then
   some (IntKind.i64.wrap (guess_size n - guess_by (guess_size n) (IntKind.i64.wrap ((1000000 : Int) - List.foldl (fun a b => if b < a then b else a) (List.foldl (fun a b => if a < b then b else a) part [(0 : Int)]) [(1000000 : Int)])) (1000000 : Int) (1000000000000 : Int)))
  else none
theorem guess_Rows_run {n : Int} {part : Int} {r : Int} (h : guess_Rows_fn n part = some r) : Runs (awp M_guess_Rows N_guess_Rows (bodyOf Try.f12) (entry Try.f12.ntmps 0 [.d (.v (.s (.int .i64 n))), .d (.v (.s (.int .i64 part)))]) (retQ M_guess_Rows Try.f12.results.toList [.d] fun rs os => rs = A_guess_Rows r ∧ os = O_guess_Rows r)) := by
  constructor
  rw [guess_Rows_in n part (fun rs os => rs = A_guess_Rows r ∧ os = O_guess_Rows r)]
  unfold guess_Rows_fn at h
  obtain ⟨c1, h2⟩ := ob_some h
  cases h2
  exact (And.intro c1 ⟨rfl, rfl⟩)

def guess_Rows (n part : Int) : Int := rowsG n part

@[simp] theorem guess_Rows_eq (n part : Int) : guess_Rows n part = rowsG n part := by unfold guess_Rows; rfl
theorem guess_Rows_spec (n part : Int) (_h1 : WI n) (_h2 : WI part) : guess_Rows_fn n part = some (guess_Rows n part) := by
  have hs := szI_range n
  unfold guess_Rows_fn guess_Rows rowsG
  have e : List.foldl (fun a b => if b < a then b else a) (List.foldl (fun a b => if a < b then b else a) part [(0 : Int)]) [(1000000 : Int)] = clampP part := by rw [foldMax, foldMin]; rfl
  have hc : 0 ≤ clampP part ∧ clampP part ≤ 1000000 := by unfold clampP; omega
  have w : IntKind.i64.wrap (1000000 - clampP part) = 1000000 - clampP part := wrap_id (by omega)
  have hb := by4_nn (n := szI n) (a := 1000000 - clampP part) (b := 1000000) (most := 1000000000000) hs.1 (by omega) (by omega) (by omega)
  simp only [e, w, guess_size_spec, guess_by_eq]
  rw [if_pos (by omega), wrap_id (by omega)]

def F_guess_Rows : FnC Un := fun args => match args with
  | [x0, x1] => (dI .i64 x0).bind fun n => (dI .i64 x1).bind fun part => some ([], A_guess_Rows (guess_Rows n part), O_guess_Rows (guess_Rows n part))
  | _ => none

theorem ok_guess_Rows : FnOK 12 F_guess_Rows := by
  intro args ob rs os h hob
  unfold F_guess_Rows at h
  split at h
  · simp only [Option.bind_eq_some_iff, Option.some.injEq, Prod.mk.injEq] at h
    obtain ⟨n, e0, part, e1, rfl, rfl, rfl⟩ := h
    obtain rfl := dI_eq e0
    obtain rfl := dI_eq e1
    exact ⟨fn_contract (M := M_guess_Rows) rfl (tbl_ok (l1 := [(29, F_guess_size), (30, F_guess_by)]) (l2 := []) (l3 := []) (l4 := []) ⟨ok_guess_size, ok_guess_by, trivial⟩ trivial trivial trivial) Try.func12 (by kernel_rfl) N_guess_Rows 0 [.d] (fun hwf => guess_Rows_run (guess_Rows_spec n part (wfArg hwf (a := .d (.v (.s (.int .i64 n)))) (List.mem_of_getElem? (i := 0) rfl)) (wfArg hwf (a := .d (.v (.s (.int .i64 part)))) (List.mem_of_getElem? (i := 1) rfl)))), hasBody_of Try.func12 (by kernel_rfl) (by kernel_rfl)⟩
  · simp at h


/-! ### guess.Pairs -/
def M_guess_Pairs : Mc Un := mach (tbl [(29, F_guess_size), (30, F_guess_by)]) (tbl []) (tbl []) (tbl [])
def N_guess_Pairs : Nat → NS := fun l => (look l []).getD ⟨[], [], [], [], []⟩
def A_guess_Pairs (r : Int) : List (A Un) := [.c (.s (.int .i64 r))]
def O_guess_Pairs (_r : Int) : List (Ob Un) := []
theorem guess_Pairs_in (x : Int) (y : Int) (a : ColStat) (b : ColStat) (K : List (A Un) → List (Ob Un) → Prop) :
    awp M_guess_Pairs N_guess_Pairs (bodyOf Try.f14) (entry Try.f14.ntmps 0 [.d (.v (.s (.int .i64 x))), .d (.v (.s (.int .i64 y))), .d (.agg (enc Ty.colStat a)), .d (.agg (enc Ty.colStat b))]) (retQ M_guess_Pairs Try.f14.results.toList [.d] K) =
(((0 : Int) ≤ guess_size x ∧ (0 : Int) ≤ guess_size y ∧ (0 : Int) ≤ List.foldl (fun a b => if a < b then b else a) (guess_size a.distinct) [guess_size b.distinct, (1 : Int)] ∧ (0 : Int) ≤ (1000000000000 : Int)) ∧
(K (A_guess_Pairs (guess_by (guess_size x) (guess_size y) (List.foldl (fun a b => if a < b then b else a) (guess_size a.distinct) [guess_size b.distinct, (1 : Int)]) (1000000000000 : Int))) (O_guess_Pairs (guess_by (guess_size x) (guess_size y) (List.foldl (fun a b => if a < b then b else a) (guess_size a.distinct) [guess_size b.distinct, (1 : Int)]) (1000000000000 : Int))))) := by kernel_rfl
def guess_Pairs_fn (x : Int) (y : Int) (a : ColStat) (b : ColStat) : Option (Int) :=
  if (0 : Int) ≤ guess_size x ∧ (0 : Int) ≤ guess_size y ∧ (0 : Int) ≤ List.foldl (fun a b => if a < b then b else a) (guess_size a.distinct) [guess_size b.distinct, (1 : Int)] ∧ (0 : Int) ≤ (1000000000000 : Int) then
   some (guess_by (guess_size x) (guess_size y) (List.foldl (fun a b => if a < b then b else a) (guess_size a.distinct) [guess_size b.distinct, (1 : Int)]) (1000000000000 : Int))
  else none
theorem guess_Pairs_run {x : Int} {y : Int} {a : ColStat} {b : ColStat} {r : Int} (h : guess_Pairs_fn x y a b = some r) : Runs (awp M_guess_Pairs N_guess_Pairs (bodyOf Try.f14) (entry Try.f14.ntmps 0 [.d (.v (.s (.int .i64 x))), .d (.v (.s (.int .i64 y))), .d (.agg (enc Ty.colStat a)), .d (.agg (enc Ty.colStat b))]) (retQ M_guess_Pairs Try.f14.results.toList [.d] fun rs os => rs = A_guess_Pairs r ∧ os = O_guess_Pairs r)) := by
  constructor
  rw [guess_Pairs_in x y a b (fun rs os => rs = A_guess_Pairs r ∧ os = O_guess_Pairs r)]
  unfold guess_Pairs_fn at h
  obtain ⟨c1, h2⟩ := ob_some h
  cases h2
  exact (And.intro c1 ⟨rfl, rfl⟩)

def guess_Pairs (x y : Int) (a b : ColStat) : Int := pairsG x y a b

@[simp] theorem guess_Pairs_eq (x y : Int) (a b : ColStat) : guess_Pairs x y a b = pairsG x y a b := by unfold guess_Pairs; rfl
theorem guess_Pairs_spec (x y : Int) (a b : ColStat) (_h1 : WI x) (_h2 : WI y) (_h3 : WS .colStat a) (_h4 : WS .colStat b) : guess_Pairs_fn x y a b = some (guess_Pairs x y a b) := by
  have h1 := szI_range x; have h2 := szI_range y
  unfold guess_Pairs_fn guess_Pairs pairsG
  simp only [foldMax2, guess_size_spec, guess_by_eq]
  rw [if_pos (by omega)]

def F_guess_Pairs : FnC Un := fun args => match args with
  | [x0, x1, x2, x3] => (dI .i64 x0).bind fun x => (dI .i64 x1).bind fun y => (dS .colStat x2).bind fun a => (dS .colStat x3).bind fun b => some ([], A_guess_Pairs (guess_Pairs x y a b), O_guess_Pairs (guess_Pairs x y a b))
  | _ => none

theorem ok_guess_Pairs : FnOK 14 F_guess_Pairs := by
  intro args ob rs os h hob
  unfold F_guess_Pairs at h
  split at h
  · simp only [Option.bind_eq_some_iff, Option.some.injEq, Prod.mk.injEq] at h
    obtain ⟨x, e0, y, e1, a, e2, b, e3, rfl, rfl, rfl⟩ := h
    obtain rfl := dI_eq e0
    obtain rfl := dI_eq e1
    obtain rfl := dS_eq e2
    obtain rfl := dS_eq e3
    exact ⟨fn_contract (M := M_guess_Pairs) rfl (tbl_ok (l1 := [(29, F_guess_size), (30, F_guess_by)]) (l2 := []) (l3 := []) (l4 := []) ⟨ok_guess_size, ok_guess_by, trivial⟩ trivial trivial trivial) Try.func14 (by kernel_rfl) N_guess_Pairs 0 [.d] (fun hwf => guess_Pairs_run (guess_Pairs_spec x y a b (wfArg hwf (a := .d (.v (.s (.int .i64 x)))) (List.mem_of_getElem? (i := 0) rfl)) (wfArg hwf (a := .d (.v (.s (.int .i64 y)))) (List.mem_of_getElem? (i := 1) rfl)) (wfArg hwf (a := .d (.agg (enc Ty.colStat a))) (List.mem_of_getElem? (i := 2) rfl)) (wfArg hwf (a := .d (.agg (enc Ty.colStat b))) (List.mem_of_getElem? (i := 3) rfl)))), hasBody_of Try.func14 (by kernel_rfl) (by kernel_rfl)⟩
  · simp at h


/-! ### guess.Groups -/
def M_guess_Groups : Mc Un := mach (tbl [(29, F_guess_size), (30, F_guess_by)]) (tbl []) (tbl []) (tbl [])
def N_guess_Groups : Nat → NS := fun l => (look l [(4, { ts := [true, false, false, false, false, true, false, false, false, false, true, true, true, false, false, false, false, false, false, false, false, false, false, false, false, false], bs := [false, false, false, false, false, false, false, false, false, false, false, false, false, false, false, false, false, false, false, false, false, false, false, false, false, false], nm := [], gb := [], gs := [] })]).getD ⟨[], [], [], [], []⟩
def A_guess_Groups (r : Int) : List (A Un) := [.c (.s (.int .i64 r))]
def O_guess_Groups (_r : Int) : List (Ob Un) := []
def guess_Groups_s4 (n : Int) (l : List ColStat) (v0 : Int) (v1 : Int) : S Un := (st 26 26 104 0 [(0, AV.one (A.c (C.s (Value.int IntKind.i64 (guess_size n))))), (5, AV.one (A.c (C.s (Value.int IntKind.i64 v0)))), (10, AV.one (A.c (C.sl Ty.colStat l false))), (11, AV.one (A.c (C.s (Value.int IntKind.i64 (↑l.length : Int))))), (12, AV.one (A.c (C.s (Value.int IntKind.i64 v1))))] [] [])
theorem guess_Groups_in (n : Int) (l : List ColStat) (K : List (A Un) → List (Ob Un) → Prop) :
    awp M_guess_Groups N_guess_Groups (bodyOf Try.f16) (entry Try.f16.ntmps 0 [.d (.v (.s (.int .i64 n))), .d (.v (.dat (U := Un) Ty.colStat l))]) (retQ M_guess_Groups Try.f16.results.toList [.d] K) =
(itersK (N_guess_Groups 4) (awp M_guess_Groups N_guess_Groups (sub (bodyOf Try.f16) [1, 1, 1, 0, 1, 2, 2])) (ctxK M_guess_Groups N_guess_Groups (bodyOf Try.f16) [1, 1, 1, 0, 1, 2] (retQ M_guess_Groups Try.f16.results.toList [.d] K)) (guess_Groups_s4 n l (1 : Int) (0 : Int))) := by kernel_rfl
theorem guess_Groups_l4 (n : Int) (l : List ColStat) (v0 : Int) (v1 : Int) (k : Nat) (Q : Exit → S Un → Prop) :
    iterK (N_guess_Groups 4) (awp M_guess_Groups N_guess_Groups (sub (bodyOf Try.f16) [1, 1, 1, 0, 1, 2, 2])) Q (k + 1) (guess_Groups_s4 n l v0 v1) =
(cnd (decide (v1 < (↑l.length : Int)))
 (((0 : Int) ≤ v1 ∧ v1 < (↑l.length : Int)) ∧
 (((0 : Int) ≤ v0 ∧ (0 : Int) ≤ List.foldl (fun a b => if a < b then b else a) (guess_size (l.getD v1.toNat zeroColStat).distinct) [(1 : Int)] ∧ (0 : Int) ≤ (1 : Int) ∧ (0 : Int) ≤ (1000000000000 : Int)) ∧
 (iterK (N_guess_Groups 4) (awp M_guess_Groups N_guess_Groups (sub (bodyOf Try.f16) [1, 1, 1, 0, 1, 2, 2])) Q k (guess_Groups_s4 n l (guess_by v0 (List.foldl (fun a b => if a < b then b else a) (guess_size (l.getD v1.toNat zeroColStat).distinct) [(1 : Int)]) (1 : Int) (1000000000000 : Int)) (IntKind.i64.wrap (v1 + (1 : Int)))))))
 (Q (.exit 0) (guess_Groups_s4 n l v0 v1))) := by kernel_rfl
theorem guess_Groups_a4_x0 (n : Int) (l : List ColStat) (v0 : Int) (v1 : Int) (K : List (A Un) → List (Ob Un) → Prop) :
    ctxK M_guess_Groups N_guess_Groups (bodyOf Try.f16) [1, 1, 1, 0, 1, 2] (retQ M_guess_Groups Try.f16.results.toList [.d] K) (.exit 0) (guess_Groups_s4 n l v0 v1) =
(K (A_guess_Groups (List.foldl (fun a b => if b < a then b else a) v0 [guess_size n])) (O_guess_Groups (List.foldl (fun a b => if b < a then b else a) v0 [guess_size n]))) := by kernel_rfl
def guess_Groups_S4 (n : Int) (l : List ColStat) (v : Int × Int) : Option ((Int × Int) ⊕ (Int × Int)) :=
  if (decide (v.2 < (↑l.length : Int))) = true then
   if (0 : Int) ≤ v.2 ∧ v.2 < (↑l.length : Int) then
    if (0 : Int) ≤ v.1 ∧ (0 : Int) ≤ List.foldl (fun a b => if a < b then b else a) (guess_size (l.getD v.2.toNat zeroColStat).distinct) [(1 : Int)] ∧ (0 : Int) ≤ (1 : Int) ∧ (0 : Int) ≤ (1000000000000 : Int) then
     some (.inl ((guess_by v.1 (List.foldl (fun a b => if a < b then b else a) (guess_size (l.getD v.2.toNat zeroColStat).distinct) [(1 : Int)]) (1 : Int) (1000000000000 : Int)), (IntKind.i64.wrap (v.2 + (1 : Int)))))
    else none
   else none
  else
   some (.inr (v.1, v.2))
def guess_Groups_L4 (n : Int) (l : List ColStat) (v : Int × Int) : Option (Int × Int) := loopO (guess_Groups_S4 n l) v
theorem guess_Groups_L4_eq (n : Int) (l : List ColStat) (v : Int × Int) : guess_Groups_L4 n l v = stepB (guess_Groups_L4 n l) (guess_Groups_S4 n l v) := loopO_eq _ _
def guess_Groups_Q4 (n : Int) (l : List ColStat) (r : Int × Int) (Q : Exit → S Un → Prop) : Prop := Q (.exit 0) (guess_Groups_s4 n l r.1 r.2)
theorem guess_Groups_Q4_x0 {n : Int} {l : List ColStat} {r : Int × Int} {Q : Exit → S Un → Prop} (h : Q (.exit 0) (guess_Groups_s4 n l r.1 r.2)) : guess_Groups_Q4 n l r Q := h
theorem guess_Groups_L4_run {n : Int} {l : List ColStat} {v : Int × Int} {r : Int × Int} (h : guess_Groups_L4 n l v = some r) (Q : Exit → S Un → Prop) (hQ : guess_Groups_Q4 n l r Q) : itersK (N_guess_Groups 4) (awp M_guess_Groups N_guess_Groups (sub (bodyOf Try.f16) [1, 1, 1, 0, 1, 2, 2])) Q (guess_Groups_s4 n l v.1 v.2) := by
  refine @loop_run _ _ (guess_Groups_S4 n l) (fun v => itersK (N_guess_Groups 4) (awp M_guess_Groups N_guess_Groups (sub (bodyOf Try.f16) [1, 1, 1, 0, 1, 2, 2])) Q (guess_Groups_s4 n l v.1 v.2)) (fun r => guess_Groups_Q4 n l r Q) ?_ v r h hQ
  intro v o h hI
  unfold guess_Groups_S4 at h
  rcases ite_some h with ⟨c1, h2⟩ | ⟨c1, h2⟩
  · obtain ⟨c3, h4⟩ := ob_some h2
    obtain ⟨c5, h6⟩ := ob_some h4
    cases h6
    obtain ⟨k7, hk8⟩ := itersK_get hI
    exact itersK_mk (k7 + 1) (mpr (guess_Groups_l4 n l v.1 v.2 k7 Q) (cnd_t c1 (And.intro c3 (And.intro c5 hk8))))
  · cases h2
    exact itersK_mk 1 (mpr (guess_Groups_l4 n l v.1 v.2 0 Q) (cnd_f (bfalse c1) hI))
def guess_Groups_fn (n : Int) (l : List ColStat) : Option (Int) :=
  (guess_Groups_L4 n l ((1 : Int), (0 : Int))) >>= fun o9 =>
   some (List.foldl (fun a b => if b < a then b else a) o9.1 [guess_size n])
theorem guess_Groups_run {n : Int} {l : List ColStat} {r : Int} (h : guess_Groups_fn n l = some r) : Runs (awp M_guess_Groups N_guess_Groups (bodyOf Try.f16) (entry Try.f16.ntmps 0 [.d (.v (.s (.int .i64 n))), .d (.v (.dat (U := Un) Ty.colStat l))]) (retQ M_guess_Groups Try.f16.results.toList [.d] fun rs os => rs = A_guess_Groups r ∧ os = O_guess_Groups r)) := by
  constructor
  rw [guess_Groups_in n l (fun rs os => rs = A_guess_Groups r ∧ os = O_guess_Groups r)]
  unfold guess_Groups_fn at h
  obtain ⟨o10, ho11, h12⟩ := bind_some h
  cases h12
  exact (guess_Groups_L4_run ho11 _ (guess_Groups_Q4_x0 (mpr (guess_Groups_a4_x0 n l o10.1 o10.2 _) ⟨rfl, rfl⟩)))

def guess_Groups (n : Int) (l : List ColStat) : Int := groupsG n l

@[simp] theorem guess_Groups_eq (n : Int) (l : List ColStat) : guess_Groups n l = groupsG n l := by unfold guess_Groups; rfl
theorem stepG_range {o : Int} (c : ColStat) (h : 0 ≤ o) : 0 ≤ stepG o c ∧ stepG o c ≤ 1000000000000 := by
  have := szI_range c.distinct
  exact by4_nn h (by omega) (by omega) (by omega)
theorem guess_Groups_loop (n : Int) (l : List ColStat) (hl : l.length ≤ 9223372036854775807) : ∀ (r : List ColStat) (i : Nat) (o : Int), l.drop i = r → i ≤ l.length → (0 ≤ o ∧ o ≤ 1000000000000) →
    guess_Groups_L4 n l (o, (i : Int)) = some (r.foldl stepG o, (l.length : Int)) := by
  intro r
  induction r with
  | nil =>
    intro i o h1 h2 h3
    have e1 := drop_nil h1
    have hn : ¬ ((i : Int) < l.length) := by omega
    have : i = l.length := by omega
    subst this
    rw [guess_Groups_L4_eq, guess_Groups_S4]; simp
  | cons c r ih =>
    intro i o h1 h2 h3
    obtain ⟨a1, a2, a3, _⟩ := drop_cons h1
    have hp : (i : Int) < l.length := by omega
    have hi : (0 : Int) ≤ i := by omega
    have hc := szI_range c.distinct
    rw [guess_Groups_L4_eq, guess_Groups_S4]
    simp only [hp, hi, decide_true, if_true, and_self, Int.toNat_natCast, a2, foldMax, guess_size_spec, guess_by_eq]
    rw [if_pos (by omega), wrap_succ a1 hl, stepB_inl]
    exact ih (i + 1) (stepG o c) a3 (by omega) (stepG_range c h3.1)
theorem guess_Groups_spec (n : Int) (l : List ColStat) (_h1 : WI n) (h2 : WL .colStat l) : guess_Groups_fn n l = some (guess_Groups n l) := by
  have e := guess_Groups_loop n l h2.len l 0 1 rfl (by omega) (by omega)
  unfold guess_Groups_fn guess_Groups groupsG
  erw [e]
  simp only [Option.bind_eq_bind, Option.bind_some, foldMin, guess_size_spec]

def F_guess_Groups : FnC Un := fun args => match args with
  | [x0, x1] => (dI .i64 x0).bind fun n => (dL .colStat x1).bind fun l => some ([], A_guess_Groups (guess_Groups n l), O_guess_Groups (guess_Groups n l))
  | _ => none

theorem ok_guess_Groups : FnOK 16 F_guess_Groups := by
  intro args ob rs os h hob
  unfold F_guess_Groups at h
  split at h
  · simp only [Option.bind_eq_some_iff, Option.some.injEq, Prod.mk.injEq] at h
    obtain ⟨n, e0, l, e1, rfl, rfl, rfl⟩ := h
    obtain rfl := dI_eq e0
    obtain rfl := dL_eq e1
    exact ⟨fn_contract (M := M_guess_Groups) rfl (tbl_ok (l1 := [(29, F_guess_size), (30, F_guess_by)]) (l2 := []) (l3 := []) (l4 := []) ⟨ok_guess_size, ok_guess_by, trivial⟩ trivial trivial trivial) Try.func16 (by kernel_rfl) N_guess_Groups 0 [.d] (fun hwf => guess_Groups_run (guess_Groups_spec n l (wfArg hwf (a := .d (.v (.s (.int .i64 n)))) (List.mem_of_getElem? (i := 0) rfl)) (wfArg hwf (a := .d (.v (.dat (U := Un) Ty.colStat l))) (List.mem_of_getElem? (i := 1) rfl)))), hasBody_of Try.func16 (by kernel_rfl) (by kernel_rfl)⟩
  · simp at h


end
end Go.Proofs.Ytjndihloefdplaa.B
