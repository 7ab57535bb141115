/- Functions: lcmp. (Printed by wip/tools/mkfn.py out of wip/src/lcmp.src.) -/
import Derived.Test.YtpaelnkffpmfaaaBLib
import Derived.Test.YtpaelnkffpmfaaaSspec
import Derived.Test.YtpaelnkffpmfaaaLscalar
import Derived.Test.YtpaelnkffpmfaaaLcompare
namespace Go.Proofs.Ytpaelnkffpmfaaa.B
open Go Go.RowKit
set_option maxRecDepth 100000
noncomputable section
attribute [local irreducible] awp ctxK itersK iterK retQ retGQ

/-! ### strings.Compare -/
def M_strings_Compare : Mc Un := mach (tbl [(40, F_internal_bytealg_CompareString)]) (tbl []) (tbl []) (tbl []) (tbl [])
def N_strings_Compare : Nat → NS := fun l => (look l []).getD ⟨[], [], [], [], []⟩
def A_strings_Compare (r : Int) : List (A Un) := [.c (.s (.int .i64 r))]
def O_strings_Compare (_r : Int) : List (Ob Un) := []
theorem strings_Compare_in (a : ByteArray) (b : ByteArray) (K : List (A Un) → List (Ob Un) → Prop) :
    awp M_strings_Compare N_strings_Compare (bodyOf Try.f27) (entry Try.f27.ntmps 0 [.d (.v (cs a)), .d (.v (cs b))]) (retQ M_strings_Compare Try.f27.results.toList [.d] K) =
(K (A_strings_Compare (cmpS a b)) (O_strings_Compare (cmpS a b))) := by kernel_rfl
def strings_Compare_fn (a : ByteArray) (b : ByteArray) : Option (Int) :=
  some (cmpS a b)
theorem strings_Compare_run {a : ByteArray} {b : ByteArray} {r : Int} (h : strings_Compare_fn a b = some r) : Runs (awp M_strings_Compare N_strings_Compare (bodyOf Try.f27) (entry Try.f27.ntmps 0 [.d (.v (cs a)), .d (.v (cs b))]) (retQ M_strings_Compare Try.f27.results.toList [.d] fun rs os => rs = A_strings_Compare r ∧ os = O_strings_Compare r)) := by
  constructor
  rw [strings_Compare_in a b (fun rs os => rs = A_strings_Compare r ∧ os = O_strings_Compare r)]
  unfold strings_Compare_fn at h
  cases h
  exact ⟨rfl, rfl⟩
def strings_Compare (a : ByteArray) (b : ByteArray) : Int :=
  (cmpS a b)
theorem strings_Compare_eq (a : ByteArray) (b : ByteArray) : strings_Compare_fn a b = some (strings_Compare a b) := by unfold strings_Compare_fn strings_Compare; repeat (first | rfl | split)

def F_strings_Compare : FnC Un := fun args => match args with
  | [x0, x1] => (dStr x0).bind fun a => (dStr x1).bind fun b => some ([], A_strings_Compare (strings_Compare a b), O_strings_Compare (strings_Compare a b))
  | _ => none

theorem ok_strings_Compare : FnOK 27 F_strings_Compare := by
  intro args ob rs os h hob
  unfold F_strings_Compare at h
  split at h
  · simp only [Option.bind_eq_some_iff, Option.some.injEq, Prod.mk.injEq] at h
    obtain ⟨a, e0, b, e1, rfl, rfl, rfl⟩ := h
    obtain rfl := dStr_eq e0
    obtain rfl := dStr_eq e1
    exact ⟨fn_contract (M := M_strings_Compare) rfl (tbl_ok (l1 := [(40, F_internal_bytealg_CompareString)]) (l2 := []) (l3 := []) (l4 := []) (l5 := []) ⟨ok_internal_bytealg_CompareString, trivial⟩ trivial trivial trivial trivial) Try.func27 (by kernel_rfl) N_strings_Compare 0 [.d] (fun hwf => strings_Compare_run (strings_Compare_eq a b)), hasBody_of Try.func27 (by kernel_rfl) (by kernel_rfl)⟩
  · simp at h


/-! ### cmp.isNaN[int] -/
def M_cmp_isNaN : Mc Un := mach (tbl []) (tbl []) (tbl []) (tbl []) (tbl [])
def N_cmp_isNaN : Nat → NS := fun l => (look l []).getD ⟨[], [], [], [], []⟩
def A_cmp_isNaN (r : Bool) : List (A Un) := [.c (.s (.bool r))]
def O_cmp_isNaN (_r : Bool) : List (Ob Un) := []
theorem cmp_isNaN_in (x : Int) (K : List (A Un) → List (Ob Un) → Prop) :
    awp M_cmp_isNaN N_cmp_isNaN (bodyOf Try.f39) (entry Try.f39.ntmps 0 [.d (.v (.s (.int .i64 x)))]) (retQ M_cmp_isNaN Try.f39.results.toList [.d] K) =
(K (A_cmp_isNaN (x != x)) (O_cmp_isNaN (x != x))) := by kernel_rfl
def cmp_isNaN_fn (x : Int) : Option (Bool) :=
  some (x != x)
theorem cmp_isNaN_run {x : Int} {r : Bool} (h : cmp_isNaN_fn x = some r) : Runs (awp M_cmp_isNaN N_cmp_isNaN (bodyOf Try.f39) (entry Try.f39.ntmps 0 [.d (.v (.s (.int .i64 x)))]) (retQ M_cmp_isNaN Try.f39.results.toList [.d] fun rs os => rs = A_cmp_isNaN r ∧ os = O_cmp_isNaN r)) := by
  constructor
  rw [cmp_isNaN_in x (fun rs os => rs = A_cmp_isNaN r ∧ os = O_cmp_isNaN r)]
  unfold cmp_isNaN_fn at h
  cases h
  exact ⟨rfl, rfl⟩
def cmp_isNaN (x : Int) : Bool :=
  (x != x)
theorem cmp_isNaN_eq (x : Int) : cmp_isNaN_fn x = some (cmp_isNaN x) := by unfold cmp_isNaN_fn cmp_isNaN; repeat (first | rfl | split)

def F_cmp_isNaN : FnC Un := fun args => match args with
  | [x0] => (dI .i64 x0).bind fun x => some ([], A_cmp_isNaN (cmp_isNaN x), O_cmp_isNaN (cmp_isNaN x))
  | _ => none

theorem ok_cmp_isNaN : FnOK 39 F_cmp_isNaN := by
  intro args ob rs os h hob
  unfold F_cmp_isNaN at h
  split at h
  · simp only [Option.bind_eq_some_iff, Option.some.injEq, Prod.mk.injEq] at h
    obtain ⟨x, e0, rfl, rfl, rfl⟩ := h
    obtain rfl := dI_eq e0
    exact ⟨fn_contract (M := M_cmp_isNaN) rfl (tbl_ok (l1 := []) (l2 := []) (l3 := []) (l4 := []) (l5 := []) trivial trivial trivial trivial trivial) Try.func39 (by kernel_rfl) N_cmp_isNaN 0 [.d] (fun hwf => cmp_isNaN_run (cmp_isNaN_eq x)), hasBody_of Try.func39 (by kernel_rfl) (by kernel_rfl)⟩
  · simp at h


/-! ### cmp.Compare[int] -/
def M_cmp_Compare : Mc Un := mach (tbl [(39, F_cmp_isNaN)]) (tbl []) (tbl []) (tbl []) (tbl [])
def N_cmp_Compare : Nat → NS := fun l => (look l []).getD ⟨[], [], [], [], []⟩
def A_cmp_Compare (r : Int) : List (A Un) := [.c (.s (.int .i64 r))]
def O_cmp_Compare (_r : Int) : List (Ob Un) := []
theorem cmp_Compare_in (x : Int) (y : Int) (K : List (A Un) → List (Ob Un) → Prop) :
    awp M_cmp_Compare N_cmp_Compare (bodyOf Try.f26) (entry Try.f26.ntmps 0 [.d (.v (.s (.int .i64 x))), .d (.v (.s (.int .i64 y)))]) (retQ M_cmp_Compare Try.f26.results.toList [.d] K) =
(cnd (cmp_isNaN x)
 (cnd (cmp_isNaN y)
  (K (A_cmp_Compare ((0 : Int))) (O_cmp_Compare ((0 : Int))))
  (K (A_cmp_Compare ((-1 : Int))) (O_cmp_Compare ((-1 : Int)))))
 (cnd (cmp_isNaN y)
  (K (A_cmp_Compare ((1 : Int))) (O_cmp_Compare ((1 : Int))))
  (cnd (decide (x < y))
   (K (A_cmp_Compare ((-1 : Int))) (O_cmp_Compare ((-1 : Int))))
   (cnd (decide (x > y))
    (K (A_cmp_Compare ((1 : Int))) (O_cmp_Compare ((1 : Int))))
    (K (A_cmp_Compare ((0 : Int))) (O_cmp_Compare ((0 : Int)))))))) := by kernel_rfl
def cmp_Compare_fn (x : Int) (y : Int) : Option (Int) :=
  if (cmp_isNaN x) = true then
   if (cmp_isNaN y) = true then
    some ((0 : Int))
   else
    some ((-1 : Int))
  else
   if (cmp_isNaN y) = true then
    some ((1 : Int))
   else
    if (decide (x < y)) = true then
     some ((-1 : Int))
    else
     if (decide (x > y)) = true then
      some ((1 : Int))
     else
      some ((0 : Int))
theorem cmp_Compare_run {x : Int} {y : Int} {r : Int} (h : cmp_Compare_fn x y = some r) : Runs (awp M_cmp_Compare N_cmp_Compare (bodyOf Try.f26) (entry Try.f26.ntmps 0 [.d (.v (.s (.int .i64 x))), .d (.v (.s (.int .i64 y)))]) (retQ M_cmp_Compare Try.f26.results.toList [.d] fun rs os => rs = A_cmp_Compare r ∧ os = O_cmp_Compare r)) := by
  constructor
  rw [cmp_Compare_in x y (fun rs os => rs = A_cmp_Compare r ∧ os = O_cmp_Compare r)]
  unfold cmp_Compare_fn at h
  rcases ite_some h with ⟨c1, h2⟩ | ⟨c1, h2⟩
  · rcases ite_some h2 with ⟨c3, h4⟩ | ⟨c3, h4⟩
    · cases h4
      exact (cnd_t c1 (cnd_t c3 ⟨rfl, rfl⟩))
    · cases h4
      exact (cnd_t c1 (cnd_f (bfalse c3) ⟨rfl, rfl⟩))
  · rcases ite_some h2 with ⟨c5, h6⟩ | ⟨c5, h6⟩
    · cases h6
      exact (cnd_f (bfalse c1) (cnd_t c5 ⟨rfl, rfl⟩))
    · rcases ite_some h6 with ⟨c7, h8⟩ | ⟨c7, h8⟩
      · cases h8
        exact (cnd_f (bfalse c1) (cnd_f (bfalse c5) (cnd_t c7 ⟨rfl, rfl⟩)))
      · rcases ite_some h8 with ⟨c9, h10⟩ | ⟨c9, h10⟩
        · cases h10
          exact (cnd_f (bfalse c1) (cnd_f (bfalse c5) (cnd_f (bfalse c7) (cnd_t c9 ⟨rfl, rfl⟩))))
        · cases h10
          exact (cnd_f (bfalse c1) (cnd_f (bfalse c5) (cnd_f (bfalse c7) (cnd_f (bfalse c9) ⟨rfl, rfl⟩))))
def cmp_Compare (x : Int) (y : Int) : Int :=
  if (cmp_isNaN x) = true then
   if (cmp_isNaN y) = true then
    ((0 : Int))
   else
    ((-1 : Int))
  else
   if (cmp_isNaN y) = true then
    ((1 : Int))
   else
    if (decide (x < y)) = true then
     ((-1 : Int))
    else
     if (decide (x > y)) = true then
      ((1 : Int))
     else
      ((0 : Int))
theorem cmp_Compare_eq (x : Int) (y : Int) : cmp_Compare_fn x y = some (cmp_Compare x y) := by unfold cmp_Compare_fn cmp_Compare; repeat (first | rfl | split)

def F_cmp_Compare : FnC Un := fun args => match args with
  | [x0, x1] => (dI .i64 x0).bind fun x => (dI .i64 x1).bind fun y => some ([], A_cmp_Compare (cmp_Compare x y), O_cmp_Compare (cmp_Compare x y))
  | _ => none

theorem ok_cmp_Compare : FnOK 26 F_cmp_Compare := by
  intro args ob rs os h hob
  unfold F_cmp_Compare at h
  split at h
  · simp only [Option.bind_eq_some_iff, Option.some.injEq, Prod.mk.injEq] at h
    obtain ⟨x, e0, y, e1, rfl, rfl, rfl⟩ := h
    obtain rfl := dI_eq e0
    obtain rfl := dI_eq e1
    exact ⟨fn_contract (M := M_cmp_Compare) rfl (tbl_ok (l1 := [(39, F_cmp_isNaN)]) (l2 := []) (l3 := []) (l4 := []) (l5 := []) ⟨ok_cmp_isNaN, trivial⟩ trivial trivial trivial trivial) Try.func26 (by kernel_rfl) N_cmp_Compare 0 [.d] (fun hwf => cmp_Compare_run (cmp_Compare_eq x y)), hasBody_of Try.func26 (by kernel_rfl) (by kernel_rfl)⟩
  · simp at h


/-! ### cmp.Or[int] -/
def M_cmp_Or : Mc Un := mach (tbl []) (tbl []) (tbl []) (tbl []) (tbl [])
def N_cmp_Or : Nat → NS := fun l => (look l [(3, { ts := [false, false, true, true, false, false, true, true, true, false, false, false, false, false, false, false, false, false], bs := [false, false, false, false, false, false, false, false, false, false, false, false, false, false, false, false, false, false], nm := [], gb := [], gs := [] })]).getD ⟨[], [], [], [], []⟩
def A_cmp_Or (r : Int) : List (A Un) := [.c (.s (.int .i64 r))]
def O_cmp_Or (_r : Int) : List (Ob Un) := []
def cmp_Or_s3 (vals : List Int) (v0 : Int) : S Un := (st 18 18 72 0 [(2, AV.one (A.c (C.s (Value.int IntKind.i64 (0 : Int))))), (3, AV.one (A.c (C.s (Value.int IntKind.i64 (0 : Int))))), (6, AV.one (A.c (C.sl Ty.int vals false))), (7, AV.one (A.c (C.s (Value.int IntKind.i64 (↑vals.length : Int))))), (8, AV.one (A.c (C.s (Value.int IntKind.i64 v0))))] [] [])
def cmp_Or_e3_ret (vals : List Int) (v0 : Int) (v1 : Int) : S Un := (st 18 18 72 0 [(2, AV.one (A.c (C.s (Value.int IntKind.i64 v1)))), (3, AV.one (A.c (C.s (Value.int IntKind.i64 (0 : Int))))), (6, AV.one (A.c (C.sl Ty.int vals false))), (7, AV.one (A.c (C.s (Value.int IntKind.i64 (↑vals.length : Int))))), (8, AV.one (A.c (C.s (Value.int IntKind.i64 v0))))] [] [])
theorem cmp_Or_in (vals : List Int) (K : List (A Un) → List (Ob Un) → Prop) :
    awp M_cmp_Or N_cmp_Or (bodyOf Try.f25) (entry Try.f25.ntmps 0 [.d (.v (.dat (U := Un) Ty.int vals))]) (retQ M_cmp_Or Try.f25.results.toList [.d] K) =
(itersK (N_cmp_Or 3) (awp M_cmp_Or N_cmp_Or (sub (bodyOf Try.f25) [1, 1, 0, 1, 2, 2])) (ctxK M_cmp_Or N_cmp_Or (bodyOf Try.f25) [1, 1, 0, 1, 2] (retQ M_cmp_Or Try.f25.results.toList [.d] K)) (cmp_Or_s3 vals (0 : Int))) := by kernel_rfl
theorem cmp_Or_l3 (vals : List Int) (v0 : Int) (k : Nat) (Q : Exit → S Un → Prop) :
    iterK (N_cmp_Or 3) (awp M_cmp_Or N_cmp_Or (sub (bodyOf Try.f25) [1, 1, 0, 1, 2, 2])) Q (k + 1) (cmp_Or_s3 vals v0) =
(cnd (decide (v0 < (↑vals.length : Int)))
 (((0 : Int) ≤ v0 ∧ v0 < (↑vals.length : Int)) ∧
 (cnd (vals.getD v0.toNat (0 : Int) != (0 : Int))
  (Q .ret (cmp_Or_e3_ret vals v0 (vals.getD v0.toNat (0 : Int))))
  (iterK (N_cmp_Or 3) (awp M_cmp_Or N_cmp_Or (sub (bodyOf Try.f25) [1, 1, 0, 1, 2, 2])) Q k (cmp_Or_s3 vals (IntKind.i64.wrap (v0 + (1 : Int)))))))
 (Q (.exit 0) (cmp_Or_s3 vals v0))) := by kernel_rfl
theorem cmp_Or_a3_ret (vals : List Int) (v0 : Int) (v1 : Int) (K : List (A Un) → List (Ob Un) → Prop) :
    ctxK M_cmp_Or N_cmp_Or (bodyOf Try.f25) [1, 1, 0, 1, 2] (retQ M_cmp_Or Try.f25.results.toList [.d] K) .ret (cmp_Or_e3_ret vals v0 v1) =
(K (A_cmp_Or (v1)) (O_cmp_Or (v1))) := by kernel_rfl
theorem cmp_Or_a3_x0 (vals : List Int) (v0 : Int) (K : List (A Un) → List (Ob Un) → Prop) :
    ctxK M_cmp_Or N_cmp_Or (bodyOf Try.f25) [1, 1, 0, 1, 2] (retQ M_cmp_Or Try.f25.results.toList [.d] K) (.exit 0) (cmp_Or_s3 vals v0) =
(K (A_cmp_Or ((0 : Int))) (O_cmp_Or ((0 : Int)))) := by kernel_rfl
def cmp_Or_S3 (vals : List Int) (v : Int) : Option ((Int) ⊕ ((Int × Int) ⊕ (Int))) :=
  if (decide (v < (↑vals.length : Int))) = true then
   if (0 : Int) ≤ v ∧ v < (↑vals.length : Int) then
    if (vals.getD v.toNat (0 : Int) != (0 : Int)) = true then
     some (.inr (.inl (v, (vals.getD v.toNat (0 : Int)))))
    else
     some (.inl (IntKind.i64.wrap (v + (1 : Int))))
   else none
  else
   some (.inr (.inr v))
def cmp_Or_L3 (vals : List Int) (v : Int) : Option ((Int × Int) ⊕ (Int)) := loopO (cmp_Or_S3 vals) v
theorem cmp_Or_L3_eq (vals : List Int) (v : Int) : cmp_Or_L3 vals v = stepB (cmp_Or_L3 vals) (cmp_Or_S3 vals v) := loopO_eq _ _
def cmp_Or_Q3 (vals : List Int) (r : (Int × Int) ⊕ (Int)) (Q : Exit → S Un → Prop) : Prop := match r with | .inl x => Q .ret (cmp_Or_e3_ret vals x.1 x.2) | .inr x => Q (.exit 0) (cmp_Or_s3 vals x)
theorem cmp_Or_Q3_ret {vals : List Int} {x : Int × Int} {Q : Exit → S Un → Prop} (h : Q .ret (cmp_Or_e3_ret vals x.1 x.2)) : cmp_Or_Q3 vals (.inl x) Q := h
theorem cmp_Or_Q3_x0 {vals : List Int} {x : Int} {Q : Exit → S Un → Prop} (h : Q (.exit 0) (cmp_Or_s3 vals x)) : cmp_Or_Q3 vals (.inr x) Q := h
theorem cmp_Or_L3_run {vals : List Int} {v : Int} {r : (Int × Int) ⊕ (Int)} (h : cmp_Or_L3 vals v = some r) (Q : Exit → S Un → Prop) (hQ : cmp_Or_Q3 vals r Q) : itersK (N_cmp_Or 3) (awp M_cmp_Or N_cmp_Or (sub (bodyOf Try.f25) [1, 1, 0, 1, 2, 2])) Q (cmp_Or_s3 vals v) := by
  refine @loop_run _ _ (cmp_Or_S3 vals) (fun v => itersK (N_cmp_Or 3) (awp M_cmp_Or N_cmp_Or (sub (bodyOf Try.f25) [1, 1, 0, 1, 2, 2])) Q (cmp_Or_s3 vals v)) (fun r => cmp_Or_Q3 vals r Q) ?_ v r h hQ
  intro v o h hI
  unfold cmp_Or_S3 at h
  rcases ite_some h with ⟨c1, h2⟩ | ⟨c1, h2⟩
  · obtain ⟨c3, h4⟩ := ob_some h2
    rcases ite_some h4 with ⟨c5, h6⟩ | ⟨c5, h6⟩
    · cases h6
      exact itersK_mk 1 (mpr (cmp_Or_l3 vals v 0 Q) (cnd_t c1 (And.intro c3 (cnd_t c5 hI))))
    · cases h6
      obtain ⟨k7, hk8⟩ := itersK_get hI
      exact itersK_mk (k7 + 1) (mpr (cmp_Or_l3 vals v k7 Q) (cnd_t c1 (And.intro c3 (cnd_f (bfalse c5) hk8))))
  · cases h2
    exact itersK_mk 1 (mpr (cmp_Or_l3 vals v 0 Q) (cnd_f (bfalse c1) hI))
def cmp_Or_fn (vals : List Int) : Option (Int) :=
  (cmp_Or_L3 vals (0 : Int)) >>= fun o9 => match o9 with
   | .inl o10 =>
     some (o10.2)
   | .inr o11 =>
     some ((0 : Int))
theorem cmp_Or_run {vals : List Int} {r : Int} (h : cmp_Or_fn vals = some r) : Runs (awp M_cmp_Or N_cmp_Or (bodyOf Try.f25) (entry Try.f25.ntmps 0 [.d (.v (.dat (U := Un) Ty.int vals))]) (retQ M_cmp_Or Try.f25.results.toList [.d] fun rs os => rs = A_cmp_Or r ∧ os = O_cmp_Or r)) := by
  constructor
  rw [cmp_Or_in vals (fun rs os => rs = A_cmp_Or r ∧ os = O_cmp_Or r)]
  unfold cmp_Or_fn at h
  obtain ⟨o12, ho13, h14⟩ := bind_some h
  rcases o12 with o15 | o16
  · cases h14
    exact (cmp_Or_L3_run ho13 _ (cmp_Or_Q3_ret (mpr (cmp_Or_a3_ret vals o15.1 o15.2 _) ⟨rfl, rfl⟩)))
  · cases h14
    exact (cmp_Or_L3_run ho13 _ (cmp_Or_Q3_x0 (mpr (cmp_Or_a3_x0 vals o16 _) ⟨rfl, rfl⟩)))

/-- The first number that is not 0. -/
def orL : List Int → Int
  | [] => 0
  | x :: r => if x = 0 then orL r else x
def cmp_Or (vals : List Int) : Int := orL vals

@[simp] theorem cmp_Or_eq (vals : List Int) : cmp_Or vals = orL vals := by unfold cmp_Or; rfl
@[simp] theorem cmp_Compare_spec (x y : Int) : cmp_Compare x y = cmpI x y := by
  unfold cmp_Compare cmp_isNaN cmpI
  simp
@[simp] theorem strings_Compare_spec (a b : ByteArray) : strings_Compare a b = cmpS a b := rfl
theorem cmp_Or_loop (vals : List Int) (h : WL .int vals) : ∀ (r : List Int) (i : Nat), vals.drop i = r →
    ∃ o, cmp_Or_L3 vals i = some o ∧ (match o with | .inl o => o.2 | .inr _ => 0) = orL r := by
  intro r
  induction r with
  | nil =>
    intro i h1
    have e1 := drop_nil h1
    have hn : ¬ ((i : Int) < vals.length) := by omega
    exact ⟨.inr i, by rw [cmp_Or_L3_eq, cmp_Or_S3]; simp [hn], rfl⟩
  | cons x r ih =>
    intro i h1
    obtain ⟨a1, a2, a3, _⟩ := drop_cons h1
    have hp : (i : Int) < vals.length := by omega
    have hi : (0 : Int) ≤ i := by omega
    rw [cmp_Or_L3_eq, cmp_Or_S3]
    simp only [hp, hi, decide_true, if_true, and_self, Int.toNat_natCast, a2, bne_iff_ne, ne_eq, ite_not, orL]
    by_cases hx : x = 0
    · rw [if_pos hx, if_pos hx, wrap_succ a1 h.len, stepB_inl]; exact ih (i + 1) a3
    · exact ⟨_, by rw [if_neg hx, stepB_inr], by rw [if_neg hx]⟩
theorem cmp_Or_spec (vals : List Int) (h : WL .int vals) : cmp_Or_fn vals = some (cmp_Or vals) := by
  obtain ⟨o, ho, e⟩ := cmp_Or_loop vals h _ 0 rfl
  unfold cmp_Or_fn cmp_Or
  simp only [List.drop_zero] at e
  rw [← e]
  have ho' : cmp_Or_L3 vals 0 = some o := ho
  rw [ho']
  cases o <;> rfl

def F_cmp_Or : FnC Un := fun args => match args with
  | [x0] => (dL .int x0).bind fun vals => some ([], A_cmp_Or (cmp_Or vals), O_cmp_Or (cmp_Or vals))
  | _ => none

theorem ok_cmp_Or : FnOK 25 F_cmp_Or := by
  intro args ob rs os h hob
  unfold F_cmp_Or at h
  split at h
  · simp only [Option.bind_eq_some_iff, Option.some.injEq, Prod.mk.injEq] at h
    obtain ⟨vals, e0, rfl, rfl, rfl⟩ := h
    obtain rfl := dL_eq e0
    exact ⟨fn_contract (M := M_cmp_Or) rfl (tbl_ok (l1 := []) (l2 := []) (l3 := []) (l4 := []) (l5 := []) trivial trivial trivial trivial trivial) Try.func25 (by kernel_rfl) N_cmp_Or 0 [.d] (fun hwf => cmp_Or_run (cmp_Or_spec vals (wfArg hwf (a := .d (.v (.dat (U := Un) Ty.int vals))) (List.mem_of_getElem? (i := 0) rfl)))), hasBody_of Try.func25 (by kernel_rfl) (by kernel_rfl)⟩
  · simp at h


end
end Go.Proofs.Ytpaelnkffpmfaaa.B
