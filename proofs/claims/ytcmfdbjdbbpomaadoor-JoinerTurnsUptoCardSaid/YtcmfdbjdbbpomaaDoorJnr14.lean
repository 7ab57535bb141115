/- Part 14 of the proof: Slcmp Svcmp Svord Salg0v. -/
import Derived.Test.YtcmfdbjdbbpomaaDoorJnr13
namespace Go.Proofs.YtcmfdbjdbbpomaaDoor.B
open Go Go.RowKit
set_option maxRecDepth 100000
noncomputable section
attribute [local irreducible] awp ctxK itersK iterK retQ retGQ
def M_strings_Compare : Mc Un := mach (tbl [(57, F_internal_bytealg_CompareString)]) (tbl []) (tbl []) (tbl []) (tbl [])
def N_strings_Compare : Nat → NS := fun l => (look l []).getD ⟨[], [], [], [], [], false⟩
def A_strings_Compare (r : Int) : List (A Un) := [.c (.s (.int .i64 r))]
def O_strings_Compare (_r : Int) : List (Ob Un) := []
theorem strings_Compare_in (a : ByteArray) (b : ByteArray) (K : List (A Un) → List (Ob Un) → Prop) :
    awp M_strings_Compare N_strings_Compare (bodyOf Tryd.f40) (entry Tryd.f40.ntmps 0 [.d (.v (cs a)), .d (.v (cs b))]) (retQ M_strings_Compare Tryd.f40.results.toList [.d] K) =
(K (A_strings_Compare (cmpS a b)) (O_strings_Compare (cmpS a b))) := by kernel_rfl
def strings_Compare_fn (a : ByteArray) (b : ByteArray) : Option (Int) :=
  some (cmpS a b)
theorem strings_Compare_run {a : ByteArray} {b : ByteArray} {r : Int} (h : strings_Compare_fn a b = some r) : Runs (awp M_strings_Compare N_strings_Compare (bodyOf Tryd.f40) (entry Tryd.f40.ntmps 0 [.d (.v (cs a)), .d (.v (cs b))]) (retQ M_strings_Compare Tryd.f40.results.toList [.d] fun rs os => rs = A_strings_Compare r ∧ os = O_strings_Compare r)) := by
  constructor
  rw [strings_Compare_in a b (fun rs os => rs = A_strings_Compare r ∧ os = O_strings_Compare r)]
  unfold strings_Compare_fn at h
  cases h
  exact ⟨rfl, rfl⟩
def strings_Compare (a : ByteArray) (b : ByteArray) : Int :=
  (cmpS a b)
theorem strings_Compare_eq (a : ByteArray) (b : ByteArray) : strings_Compare_fn a b = some (strings_Compare a b) := by unfold strings_Compare_fn strings_Compare; repeat (first | rfl | split)
def F_strings_Compare : FnC Un := fun args => match args with
  | [x0, x1] => (dStr x0).bind fun a => (dStr x1).bind fun b => some ([], A_strings_Compare (strings_Compare a b), O_strings_Compare (strings_Compare a b))
  | _ => none
theorem ok_strings_Compare : FnOK 40 F_strings_Compare := by
  intro args ob rs os h hob
  unfold F_strings_Compare at h
  split at h
  · simp only [Option.bind_eq_some_iff, Option.some.injEq, Prod.mk.injEq] at h
    obtain ⟨a, e0, b, e1, rfl, rfl, rfl⟩ := h
    obtain rfl := dStr_eq e0
    obtain rfl := dStr_eq e1
    exact ⟨fn_contract (M := M_strings_Compare) rfl (tbl_ok (l1 := [(57, F_internal_bytealg_CompareString)]) (l2 := []) (l3 := []) (l4 := []) (l5 := []) ⟨ok_internal_bytealg_CompareString, trivial⟩ trivial trivial trivial trivial) Tryd.func40 (by kernel_rfl) N_strings_Compare 0 [.d] (fun hwf => strings_Compare_run (strings_Compare_eq a b)), hasBody_of Tryd.func40 (by kernel_rfl) (by kernel_rfl)⟩
  · simp at h
def M_cmp_isNaN : Mc Un := mach (tbl []) (tbl []) (tbl []) (tbl []) (tbl [])
def N_cmp_isNaN : Nat → NS := fun l => (look l []).getD ⟨[], [], [], [], [], false⟩
def A_cmp_isNaN (r : Bool) : List (A Un) := [.c (.s (.bool r))]
def O_cmp_isNaN (_r : Bool) : List (Ob Un) := []
theorem cmp_isNaN_in (x : Int) (K : List (A Un) → List (Ob Un) → Prop) :
    awp M_cmp_isNaN N_cmp_isNaN (bodyOf Tryd.f39) (entry Tryd.f39.ntmps 0 [.d (.v (.s (.int .i64 x)))]) (retQ M_cmp_isNaN Tryd.f39.results.toList [.d] K) =
(K (A_cmp_isNaN (x != x)) (O_cmp_isNaN (x != x))) := by kernel_rfl
def cmp_isNaN_fn (x : Int) : Option (Bool) :=
  some (x != x)
theorem cmp_isNaN_run {x : Int} {r : Bool} (h : cmp_isNaN_fn x = some r) : Runs (awp M_cmp_isNaN N_cmp_isNaN (bodyOf Tryd.f39) (entry Tryd.f39.ntmps 0 [.d (.v (.s (.int .i64 x)))]) (retQ M_cmp_isNaN Tryd.f39.results.toList [.d] fun rs os => rs = A_cmp_isNaN r ∧ os = O_cmp_isNaN r)) := by
  constructor
  rw [cmp_isNaN_in x (fun rs os => rs = A_cmp_isNaN r ∧ os = O_cmp_isNaN r)]
  unfold cmp_isNaN_fn at h
  cases h
  exact ⟨rfl, rfl⟩
def cmp_isNaN (x : Int) : Bool :=
  (x != x)
theorem cmp_isNaN_eq (x : Int) : cmp_isNaN_fn x = some (cmp_isNaN x) := by unfold cmp_isNaN_fn cmp_isNaN; repeat (first | rfl | split)
def F_cmp_isNaN : FnC Un := fun args => match args with
  | [x0] => (dI .i64 x0).bind fun x => some ([], A_cmp_isNaN (cmp_isNaN x), O_cmp_isNaN (cmp_isNaN x))
  | _ => none
theorem ok_cmp_isNaN : FnOK 39 F_cmp_isNaN := by
  intro args ob rs os h hob
  unfold F_cmp_isNaN at h
  split at h
  · simp only [Option.bind_eq_some_iff, Option.some.injEq, Prod.mk.injEq] at h
    obtain ⟨x, e0, rfl, rfl, rfl⟩ := h
    obtain rfl := dI_eq e0
    exact ⟨fn_contract (M := M_cmp_isNaN) rfl (tbl_ok (l1 := []) (l2 := []) (l3 := []) (l4 := []) (l5 := []) trivial trivial trivial trivial trivial) Tryd.func39 (by kernel_rfl) N_cmp_isNaN 0 [.d] (fun hwf => cmp_isNaN_run (cmp_isNaN_eq x)), hasBody_of Tryd.func39 (by kernel_rfl) (by kernel_rfl)⟩
  · simp at h
def M_cmp_Compare : Mc Un := mach (tbl [(39, F_cmp_isNaN)]) (tbl []) (tbl []) (tbl []) (tbl [])
def N_cmp_Compare : Nat → NS := fun l => (look l []).getD ⟨[], [], [], [], [], false⟩
def A_cmp_Compare (r : Int) : List (A Un) := [.c (.s (.int .i64 r))]
def O_cmp_Compare (_r : Int) : List (Ob Un) := []
theorem cmp_Compare_in (x : Int) (y : Int) (K : List (A Un) → List (Ob Un) → Prop) :
    awp M_cmp_Compare N_cmp_Compare (bodyOf Tryd.f25) (entry Tryd.f25.ntmps 0 [.d (.v (.s (.int .i64 x))), .d (.v (.s (.int .i64 y)))]) (retQ M_cmp_Compare Tryd.f25.results.toList [.d] K) =
(cnd (cmp_isNaN x)
 (cnd (cmp_isNaN y)
  (K (A_cmp_Compare ((0 : Int))) (O_cmp_Compare ((0 : Int))))
  (K (A_cmp_Compare ((-1 : Int))) (O_cmp_Compare ((-1 : Int)))))
 (cnd (cmp_isNaN y)
  (K (A_cmp_Compare ((1 : Int))) (O_cmp_Compare ((1 : Int))))
  (cnd (decide (x < y))
   (K (A_cmp_Compare ((-1 : Int))) (O_cmp_Compare ((-1 : Int))))
   (cnd (decide (x > y))
    (K (A_cmp_Compare ((1 : Int))) (O_cmp_Compare ((1 : Int))))
    (K (A_cmp_Compare ((0 : Int))) (O_cmp_Compare ((0 : Int)))))))) := by kernel_rfl
def cmp_Compare_fn (x : Int) (y : Int) : Option (Int) :=
  if (cmp_isNaN x) = true then
   if (cmp_isNaN y) = true then
    some ((0 : Int))
   else
    some ((-1 : Int))
  else
   if (cmp_isNaN y) = true then
    some ((1 : Int))
   else
    if (decide (x < y)) = true then
     some ((-1 : Int))
    else
     if (decide (x > y)) = true then
      some ((1 : Int))
     else
      some ((0 : Int))
theorem cmp_Compare_run {x : Int} {y : Int} {r : Int} (h : cmp_Compare_fn x y = some r) : Runs (awp M_cmp_Compare N_cmp_Compare (bodyOf Tryd.f25) (entry Tryd.f25.ntmps 0 [.d (.v (.s (.int .i64 x))), .d (.v (.s (.int .i64 y)))]) (retQ M_cmp_Compare Tryd.f25.results.toList [.d] fun rs os => rs = A_cmp_Compare r ∧ os = O_cmp_Compare r)) := by
  constructor
  rw [cmp_Compare_in x y (fun rs os => rs = A_cmp_Compare r ∧ os = O_cmp_Compare r)]
  unfold cmp_Compare_fn at h
  rcases ite_some h with ⟨c1, h2⟩ | ⟨c1, h2⟩
  · rcases ite_some h2 with ⟨c3, h4⟩ | ⟨c3, h4⟩
    · cases h4
      exact (cnd_t c1 (cnd_t c3 ⟨rfl, rfl⟩))
    · cases h4
      exact (cnd_t c1 (cnd_f (bfalse c3) ⟨rfl, rfl⟩))
  · rcases ite_some h2 with ⟨c5, h6⟩ | ⟨c5, h6⟩
    · cases h6
      exact (cnd_f (bfalse c1) (cnd_t c5 ⟨rfl, rfl⟩))
    · rcases ite_some h6 with ⟨c7, h8⟩ | ⟨c7, h8⟩
      · cases h8
        exact (cnd_f (bfalse c1) (cnd_f (bfalse c5) (cnd_t c7 ⟨rfl, rfl⟩)))
      · rcases ite_some h8 with ⟨c9, h10⟩ | ⟨c9, h10⟩
        · cases h10
          exact (cnd_f (bfalse c1) (cnd_f (bfalse c5) (cnd_f (bfalse c7) (cnd_t c9 ⟨rfl, rfl⟩))))
        · cases h10
          exact (cnd_f (bfalse c1) (cnd_f (bfalse c5) (cnd_f (bfalse c7) (cnd_f (bfalse c9) ⟨rfl, rfl⟩))))
def cmp_Compare (x : Int) (y : Int) : Int :=
  if (cmp_isNaN x) = true then
   if (cmp_isNaN y) = true then
    ((0 : Int))
   else
    ((-1 : Int))
  else
   if (cmp_isNaN y) = true then
    ((1 : Int))
   else
    if (decide (x < y)) = true then
     ((-1 : Int))
    else
     if (decide (x > y)) = true then
      ((1 : Int))
     else
      ((0 : Int))
theorem cmp_Compare_eq (x : Int) (y : Int) : cmp_Compare_fn x y = some (cmp_Compare x y) := by unfold cmp_Compare_fn cmp_Compare; repeat (first | rfl | split)
def F_cmp_Compare : FnC Un := fun args => match args with
  | [x0, x1] => (dI .i64 x0).bind fun x => (dI .i64 x1).bind fun y => some ([], A_cmp_Compare (cmp_Compare x y), O_cmp_Compare (cmp_Compare x y))
  | _ => none
theorem ok_cmp_Compare : FnOK 25 F_cmp_Compare := by
  intro args ob rs os h hob
  unfold F_cmp_Compare at h
  split at h
  · simp only [Option.bind_eq_some_iff, Option.some.injEq, Prod.mk.injEq] at h
    obtain ⟨x, e0, y, e1, rfl, rfl, rfl⟩ := h
    obtain rfl := dI_eq e0
    obtain rfl := dI_eq e1
    exact ⟨fn_contract (M := M_cmp_Compare) rfl (tbl_ok (l1 := [(39, F_cmp_isNaN)]) (l2 := []) (l3 := []) (l4 := []) (l5 := []) ⟨ok_cmp_isNaN, trivial⟩ trivial trivial trivial trivial) Tryd.func25 (by kernel_rfl) N_cmp_Compare 0 [.d] (fun hwf => cmp_Compare_run (cmp_Compare_eq x y)), hasBody_of Tryd.func25 (by kernel_rfl) (by kernel_rfl)⟩
  · simp at h
@[simp] theorem cmp_Compare_spec (x y : Int) : cmp_Compare x y = cmpI x y := by
  unfold cmp_Compare cmp_isNaN cmpI
  simp
@[simp] theorem strings_Compare_spec (a b : ByteArray) : strings_Compare a b = cmpS a b := rfl
def M_cmp_Or : Mc Un := mach (tbl []) (tbl []) (tbl []) (tbl []) (tbl [])
def N_cmp_Or : Nat → NS := fun l => (look l [(3, { ts := [false, false, true, true, false, false, true, true, true, false, false, false, false, false, false, false, false, false], bs := [false, false, false, false, false, false, false, false, false, false, false, false, false, false, false, false, false, false], nm := [], gb := [], gs := [] })]).getD ⟨[], [], [], [], [], false⟩
def A_cmp_Or (r : Int) : List (A Un) := [.c (.s (.int .i64 r))]
def O_cmp_Or (_r : Int) : List (Ob Un) := []
def cmp_Or_s3 (vals : List Int) (v0 : Int) : S Un := (st 18 18 72 0 [(2, AV.one (A.c (C.s (Value.int IntKind.i64 (0 : Int))))), (3, AV.one (A.c (C.s (Value.int IntKind.i64 (0 : Int))))), (6, AV.one (A.c (C.sl Ty.int vals false))), (7, AV.one (A.c (C.s (Value.int IntKind.i64 (↑vals.length : Int))))), (8, AV.one (A.c (C.s (Value.int IntKind.i64 v0))))] [] [])
def cmp_Or_e3_ret (vals : List Int) (v0 : Int) (v1 : Int) : S Un := (st 18 18 72 0 [(2, AV.one (A.c (C.s (Value.int IntKind.i64 v1)))), (3, AV.one (A.c (C.s (Value.int IntKind.i64 (0 : Int))))), (6, AV.one (A.c (C.sl Ty.int vals false))), (7, AV.one (A.c (C.s (Value.int IntKind.i64 (↑vals.length : Int))))), (8, AV.one (A.c (C.s (Value.int IntKind.i64 v0))))] [] [])
theorem cmp_Or_in (vals : List Int) (K : List (A Un) → List (Ob Un) → Prop) :
    awp M_cmp_Or N_cmp_Or (bodyOf Tryd.f24) (entry Tryd.f24.ntmps 0 [.d (.v (.dat (U := Un) Ty.int vals))]) (retQ M_cmp_Or Tryd.f24.results.toList [.d] K) =
(itersK (N_cmp_Or 3) (awp M_cmp_Or N_cmp_Or (sub (bodyOf Tryd.f24) [1, 1, 0, 1, 2, 2])) (ctxK M_cmp_Or N_cmp_Or (bodyOf Tryd.f24) [1, 1, 0, 1, 2] (retQ M_cmp_Or Tryd.f24.results.toList [.d] K)) (cmp_Or_s3 vals (0 : Int))) := by kernel_rfl
theorem cmp_Or_l3 (vals : List Int) (v0 : Int) (k : Nat) (Q : Exit → S Un → Prop) :
    iterK (N_cmp_Or 3) (awp M_cmp_Or N_cmp_Or (sub (bodyOf Tryd.f24) [1, 1, 0, 1, 2, 2])) Q (k + 1) (cmp_Or_s3 vals v0) =
(cnd (decide (v0 < (↑vals.length : Int)))
 (((0 : Int) ≤ v0 ∧ v0 < (↑vals.length : Int)) ∧
 (cnd (vals.getD v0.toNat (0 : Int) != (0 : Int))
  (Q .ret (cmp_Or_e3_ret vals v0 (vals.getD v0.toNat (0 : Int))))
  (iterK (N_cmp_Or 3) (awp M_cmp_Or N_cmp_Or (sub (bodyOf Tryd.f24) [1, 1, 0, 1, 2, 2])) Q k (cmp_Or_s3 vals (IntKind.i64.wrap (v0 + (1 : Int)))))))
 (Q (.exit 0) (cmp_Or_s3 vals v0))) := by kernel_rfl
theorem cmp_Or_a3_ret (vals : List Int) (v0 : Int) (v1 : Int) (K : List (A Un) → List (Ob Un) → Prop) :
    ctxK M_cmp_Or N_cmp_Or (bodyOf Tryd.f24) [1, 1, 0, 1, 2] (retQ M_cmp_Or Tryd.f24.results.toList [.d] K) .ret (cmp_Or_e3_ret vals v0 v1) =
(K (A_cmp_Or (v1)) (O_cmp_Or (v1))) := by kernel_rfl
theorem cmp_Or_a3_x0 (vals : List Int) (v0 : Int) (K : List (A Un) → List (Ob Un) → Prop) :
    ctxK M_cmp_Or N_cmp_Or (bodyOf Tryd.f24) [1, 1, 0, 1, 2] (retQ M_cmp_Or Tryd.f24.results.toList [.d] K) (.exit 0) (cmp_Or_s3 vals v0) =
(K (A_cmp_Or ((0 : Int))) (O_cmp_Or ((0 : Int)))) := by kernel_rfl
def cmp_Or_S3 (vals : List Int) (v : Int) : Option ((Int) ⊕ ((Int × Int) ⊕ (Int))) :=
  if (decide (v < (↑vals.length : Int))) = true then
   if (0 : Int) ≤ v ∧ v < (↑vals.length : Int) then
    if (vals.getD v.toNat (0 : Int) != (0 : Int)) = true then
     some (.inr (.inl (v, (vals.getD v.toNat (0 : Int)))))
    else
     some (.inl (IntKind.i64.wrap (v + (1 : Int))))
   else none
  else
   some (.inr (.inr v))
def cmp_Or_L3 (vals : List Int) (v : Int) : Option ((Int × Int) ⊕ (Int)) := loopO (cmp_Or_S3 vals) v
theorem cmp_Or_L3_eq (vals : List Int) (v : Int) : cmp_Or_L3 vals v = stepB (cmp_Or_L3 vals) (cmp_Or_S3 vals v) := loopO_eq _ _
def cmp_Or_Q3 (vals : List Int) (r : (Int × Int) ⊕ (Int)) (Q : Exit → S Un → Prop) : Prop := match r with | .inl x => Q .ret (cmp_Or_e3_ret vals x.1 x.2) | .inr x => Q (.exit 0) (cmp_Or_s3 vals x)
theorem cmp_Or_Q3_ret {vals : List Int} {x : Int × Int} {Q : Exit → S Un → Prop} (h : Q .ret (cmp_Or_e3_ret vals x.1 x.2)) : cmp_Or_Q3 vals (.inl x) Q := h
theorem cmp_Or_Q3_x0 {vals : List Int} {x : Int} {Q : Exit → S Un → Prop} (h : Q (.exit 0) (cmp_Or_s3 vals x)) : cmp_Or_Q3 vals (.inr x) Q := h
theorem cmp_Or_L3_run {vals : List Int} {v : Int} {r : (Int × Int) ⊕ (Int)} (h : cmp_Or_L3 vals v = some r) (Q : Exit → S Un → Prop) (hQ : cmp_Or_Q3 vals r Q) : itersK (N_cmp_Or 3) (awp M_cmp_Or N_cmp_Or (sub (bodyOf Tryd.f24) [1, 1, 0, 1, 2, 2])) Q (cmp_Or_s3 vals v) := by
  refine @loop_run _ _ (cmp_Or_S3 vals) (fun v => itersK (N_cmp_Or 3) (awp M_cmp_Or N_cmp_Or (sub (bodyOf Tryd.f24) [1, 1, 0, 1, 2, 2])) Q (cmp_Or_s3 vals v)) (fun r => cmp_Or_Q3 vals r Q) ?_ v r h hQ
  intro v o h hI
  unfold cmp_Or_S3 at h
  rcases ite_some h with ⟨c1, h2⟩ | ⟨c1, h2⟩
  · obtain ⟨c3, h4⟩ := ob_some h2
    rcases ite_some h4 with ⟨c5, h6⟩ | ⟨c5, h6⟩
    · cases h6
      exact itersK_mk 1 (mpr (cmp_Or_l3 vals v 0 Q) (cnd_t c1 (And.intro c3 (cnd_t c5 hI))))
    · cases h6
      obtain ⟨k7, hk8⟩ := itersK_get hI
      exact itersK_mk (k7 + 1) (mpr (cmp_Or_l3 vals v k7 Q) (cnd_t c1 (And.intro c3 (cnd_f (bfalse c5) hk8))))
  · cases h2
    exact itersK_mk 1 (mpr (cmp_Or_l3 vals v 0 Q) (cnd_f (bfalse c1) hI))
def cmp_Or_fn (vals : List Int) : Option (Int) :=
  (cmp_Or_L3 vals (0 : Int)) >>= fun o9 => match o9 with
   | .inl o10 =>
     some (o10.2)
   | .inr o11 =>
     some ((0 : Int))
theorem cmp_Or_run {vals : List Int} {r : Int} (h : cmp_Or_fn vals = some r) : Runs (awp M_cmp_Or N_cmp_Or (bodyOf Tryd.f24) (entry Tryd.f24.ntmps 0 [.d (.v (.dat (U := Un) Ty.int vals))]) (retQ M_cmp_Or Tryd.f24.results.toList [.d] fun rs os => rs = A_cmp_Or r ∧ os = O_cmp_Or r)) := by
  constructor
  rw [cmp_Or_in vals (fun rs os => rs = A_cmp_Or r ∧ os = O_cmp_Or r)]
  unfold cmp_Or_fn at h
  obtain ⟨o12, ho13, h14⟩ := bind_some h
  rcases o12 with o15 | o16
  · cases h14
    exact (cmp_Or_L3_run ho13 _ (cmp_Or_Q3_ret (mpr (cmp_Or_a3_ret vals o15.1 o15.2 _) ⟨rfl, rfl⟩)))
  · cases h14
    exact (cmp_Or_L3_run ho13 _ (cmp_Or_Q3_x0 (mpr (cmp_Or_a3_x0 vals o16 _) ⟨rfl, rfl⟩)))
def orL : List Int → Int
  | [] => 0
  | x :: r => if x = 0 then orL r else x
def cmp_Or (vals : List Int) : Int := orL vals
@[simp] theorem cmp_Or_eq (vals : List Int) : cmp_Or vals = orL vals := by unfold cmp_Or; rfl
theorem cmp_Or_loop (vals : List Int) (h : WL .int vals) : ∀ (r : List Int) (i : Nat), vals.drop i = r →
    ∃ o, cmp_Or_L3 vals i = some o ∧ (match o with | .inl o => o.2 | .inr _ => 0) = orL r := by
  intro r
  induction r with
  | nil =>
    intro i h1
    have e1 := drop_nil h1
    have hn : ¬ ((i : Int) < vals.length) := by omega
    exact ⟨.inr i, by rw [cmp_Or_L3_eq, cmp_Or_S3]; simp [hn], rfl⟩
  | cons x r ih =>
    intro i h1
    obtain ⟨a1, a2, a3, _⟩ := drop_cons h1
    have hp : (i : Int) < vals.length := by omega
    have hi : (0 : Int) ≤ i := by omega
    rw [cmp_Or_L3_eq, cmp_Or_S3]
    simp only [hp, hi, decide_true, if_true, and_self, Int.toNat_natCast, a2, bne_iff_ne, ne_eq, ite_not, orL]
    by_cases hx : x = 0
    · rw [if_pos hx, if_pos hx, wrap_succ a1 h.len, stepB_inl]; exact ih (i + 1) a3
    · exact ⟨_, by rw [if_neg hx, stepB_inr], by rw [if_neg hx]⟩
theorem cmp_Or_spec (vals : List Int) (h : WL .int vals) : cmp_Or_fn vals = some (cmp_Or vals) := by
  obtain ⟨o, ho, e⟩ := cmp_Or_loop vals h _ 0 rfl
  unfold cmp_Or_fn cmp_Or
  simp only [List.drop_zero] at e
  rw [← e]
  have ho' : cmp_Or_L3 vals 0 = some o := ho
  rw [ho']
  cases o <;> rfl
def F_cmp_Or : FnC Un := fun args => match args with
  | [x0] => (dL .int x0).bind fun vals => some ([], A_cmp_Or (cmp_Or vals), O_cmp_Or (cmp_Or vals))
  | _ => none
theorem ok_cmp_Or : FnOK 24 F_cmp_Or := by
  intro args ob rs os h hob
  unfold F_cmp_Or at h
  split at h
  · simp only [Option.bind_eq_some_iff, Option.some.injEq, Prod.mk.injEq] at h
    obtain ⟨vals, e0, rfl, rfl, rfl⟩ := h
    obtain rfl := dL_eq e0
    exact ⟨fn_contract (M := M_cmp_Or) rfl (tbl_ok (l1 := []) (l2 := []) (l3 := []) (l4 := []) (l5 := []) trivial trivial trivial trivial trivial) Tryd.func24 (by kernel_rfl) N_cmp_Or 0 [.d] (fun hwf => cmp_Or_run (cmp_Or_spec vals (wfArg hwf (a := .d (.v (.dat (U := Un) Ty.int vals))) (List.mem_of_getElem? (i := 0) rfl)))), hasBody_of Tryd.func24 (by kernel_rfl) (by kernel_rfl)⟩
  · simp at h
end
end Go.Proofs.YtcmfdbjdbbpomaaDoor.B
namespace Go.Proofs.YtcmfdbjdbbpomaaDoor.B
open Go Go.RowKit
set_option maxRecDepth 100000
noncomputable section
attribute [local irreducible] awp ctxK itersK iterK retQ retGQ
def M_value_Order : Mc Un := mach (tbl [(25, F_cmp_Compare), (40, F_strings_Compare), (24, F_cmp_Or)]) (tbl []) (tbl []) (tbl []) (tbl [])
def N_value_Order : Nat → NS := fun l => (look l []).getD ⟨[], [], [], [], [], false⟩
def A_value_Order (r : Int) : List (A Un) := [.c (.s (.int .i64 r))]
def O_value_Order (_r : Int) : List (Ob Un) := []
theorem value_Order_in (a : Val) (b : Val) (K : List (A Un) → List (Ob Un) → Prop) :
    awp M_value_Order N_value_Order (bodyOf Tryd.f27) (entry Tryd.f27.ntmps 0 [.d (.agg (enc Ty.val a)), .d (.agg (enc Ty.val b))]) (retQ M_value_Order Tryd.f27.results.toList [.d] K) =
(K (A_value_Order (cmp_Or [cmp_Compare a.kind b.kind, cmp_Compare a.n b.n, strings_Compare a.s b.s])) (O_value_Order (cmp_Or [cmp_Compare a.kind b.kind, cmp_Compare a.n b.n, strings_Compare a.s b.s]))) := by kernel_rfl
def value_Order_fn (a : Val) (b : Val) : Option (Int) :=
  some (cmp_Or [cmp_Compare a.kind b.kind, cmp_Compare a.n b.n, strings_Compare a.s b.s])
theorem value_Order_run {a : Val} {b : Val} {r : Int} (h : value_Order_fn a b = some r) : Runs (awp M_value_Order N_value_Order (bodyOf Tryd.f27) (entry Tryd.f27.ntmps 0 [.d (.agg (enc Ty.val a)), .d (.agg (enc Ty.val b))]) (retQ M_value_Order Tryd.f27.results.toList [.d] fun rs os => rs = A_value_Order r ∧ os = O_value_Order r)) := by
  constructor
  rw [value_Order_in a b (fun rs os => rs = A_value_Order r ∧ os = O_value_Order r)]
  unfold value_Order_fn at h
  cases h
  exact ⟨rfl, rfl⟩
def value_Order (a b : Val) : Int := ordV a b
@[simp] theorem value_Order_eq (a b : Val) : value_Order a b = ordV a b := by unfold value_Order; rfl
theorem value_Order_spec (a b : Val) (_ha : WS .val a) (_hb : WS .val b) : value_Order_fn a b = some (value_Order a b) := by
  unfold value_Order_fn value_Order ordV
  simp only [cmp_Or_eq, cmp_Compare_spec, strings_Compare_spec, orL, cmpI_zero]
  by_cases h1 : a.kind = b.kind
  · by_cases h2 : a.n = b.n
    · simp only [h1, h2, if_true]; split
      · rename_i h; rw [h]
      · rfl
    · simp [h1, h2]
  · simp [h1]
def F_value_Order : FnC Un := fun args => match args with
  | [x0, x1] => (dS .val x0).bind fun a => (dS .val x1).bind fun b => some ([], A_value_Order (value_Order a b), O_value_Order (value_Order a b))
  | _ => none
theorem ok_value_Order : FnOK 27 F_value_Order := by
  intro args ob rs os h hob
  unfold F_value_Order at h
  split at h
  · simp only [Option.bind_eq_some_iff, Option.some.injEq, Prod.mk.injEq] at h
    obtain ⟨a, e0, b, e1, rfl, rfl, rfl⟩ := h
    obtain rfl := dS_eq e0
    obtain rfl := dS_eq e1
    exact ⟨fn_contract (M := M_value_Order) rfl (tbl_ok (l1 := [(25, F_cmp_Compare), (40, F_strings_Compare), (24, F_cmp_Or)]) (l2 := []) (l3 := []) (l4 := []) (l5 := []) ⟨ok_cmp_Compare, ok_strings_Compare, ok_cmp_Or, trivial⟩ trivial trivial trivial trivial) Tryd.func27 (by kernel_rfl) N_value_Order 0 [.d] (fun hwf => value_Order_run (value_Order_spec a b (wfArg hwf (a := .d (.agg (enc Ty.val a))) (List.mem_of_getElem? (i := 0) rfl)) (wfArg hwf (a := .d (.agg (enc Ty.val b))) (List.mem_of_getElem? (i := 1) rfl)))), hasBody_of Tryd.func27 (by kernel_rfl) (by kernel_rfl)⟩
  · simp at h
def V_value_Order : FV Un := fun args => match args with
  | [x0, x1] => (dS .val (.d x0)).bind fun a => (dS .val (.d x1)).bind fun b => some ([], [.v (.s (.int .i64 (value_Order a b)))])
  | _ => none
theorem okV_value_Order : FvOK 27 V_value_Order := by
  refine ⟨hasBody_of Tryd.func27 (by kernel_rfl) (by kernel_rfl), fun args ob rs h hob => ?_⟩
  unfold V_value_Order at h
  split at h
  · simp only [Option.bind_eq_some_iff, Option.some.injEq, Prod.mk.injEq] at h
    obtain ⟨a, e0, b, e1, rfl, rfl⟩ := h
    simp only [List.map_cons, List.map_nil]
    rw [dS_eq e0]
    rw [dS_eq e1]
    refine Contract.data (ok_value_Order _ ([]) _ _ (?_ : F_value_Order _ = some _) (by simp)).1
    unfold F_value_Order
    simp only [dSk_mk]
    rfl
  · simp at h
theorem V_value_Order_eq : V_value_Order = fv_S_val_S_val_to_i_i64 ordV := by
  have : value_Order = ordV := by funext a b; exact value_Order_eq a b
  rw [← this]; rfl
end
end Go.Proofs.YtcmfdbjdbbpomaaDoor.B
namespace Go.Proofs.YtcmfdbjdbbpomaaDoor.B
open Go Go.RowKit
set_option maxRecDepth 100000
noncomputable section
attribute [local irreducible] awp ctxK itersK iterK retQ retGQ awf ctxF loopF
def M_cmpR : Mc Un := mach (tbl []) (tbl []) (tbl []) (tbl []) (tbl [])
def A_cmpR (r : Int) : List (A Un) := [.c (.s (.int .i64 r))]
def O_cmpR (_r : Int) : List (Ob Un) := []
def R_cmpR (r : Int) : RF Un := (A_cmpR r, O_cmpR r)
def N_cmpR : Nat → NS := fun l => (look l [(2, { ts := bl 39 14407, bs := bl 39 0, nm := [] })]).getD ⟨[], [], [], [], [], false⟩
def cmpR_s2 (s1 : List Val) (s2 : List Val) (p : Val → Val → Int) (v0 : Int) : S Un := (st 39 39 156 0 [(0, al .val s1), (1, al .val s2), (2, AV.one (A.c (C.fv (fv_S_val_S_val_to_i_i64 p)))), (6, ai (0 : Int)), (11, al .val s1), (12, ai (↑s1.length : Int)), (13, ai v0)] [] [])
def cmpR_e2_ret (s1 : List Val) (s2 : List Val) (p : Val → Val → Int) (v0 : Int) (v1 : Int) : S Un := (st 39 39 156 0 [(0, al .val s1), (1, al .val s2), (2, AV.one (A.c (C.fv (fv_S_val_S_val_to_i_i64 p)))), (6, ai v1), (11, al .val s1), (12, ai (↑s1.length : Int)), (13, ai v0)] [] [])
noncomputable def cmpR_B2 : Code := sub (bodyOf Tryd.f26) [1, 0, 1, 2, 2]
def cmpR_L2 : S Un → Option (EX Un) := loopF (N_cmpR 2) (fun s Q => awf M_cmpR N_cmpR cmpR_B2 s Q)
def cmpR_C2 : Exit → S Un → Option (RF Un) := ctxF M_cmpR N_cmpR (bodyOf Tryd.f26) [1, 0, 1, 2] (retF M_cmpR Tryd.f26.results.toList [.d])
def cmpR_fn (s1 : List Val) (s2 : List Val) (p : Val → Val → Int) : Option (RF Un) := awf M_cmpR N_cmpR (bodyOf Tryd.f26) (entry Tryd.f26.ntmps 0 [.d (.v (.dat (U := Un) Ty.val s1)), .d (.v (.dat (U := Un) Ty.val s2)), .fn (fv_S_val_S_val_to_i_i64 p)]) (retF M_cmpR Tryd.f26.results.toList [.d])
theorem cmpR_in (s1 : List Val) (s2 : List Val) (p : Val → Val → Int) : cmpR_fn s1 s2 p =
 (cmpR_L2 (cmpR_s2 s1 s2 p (0 : Int))).bind (thenX cmpR_C2) := by kernel_rfl
theorem cmpR_l2 (s1 : List Val) (s2 : List Val) (p : Val → Val → Int) (v0 : Int) : cmpR_L2 (cmpR_s2 s1 s2 p v0) =
 cndO (decide (v0 < (↑s1.length : Int)))
  (obO (0 ≤ v0 ∧ v0 < (↑s1.length : Int))
   (cndO (decide (v0 ≥ (↑s2.length : Int)))
    (some (.ret, (cmpR_e2_ret s1 s2 p v0 (1 : Int))))
    (obO (0 ≤ v0 ∧ v0 < (↑s2.length : Int))
     (cndO (p (s1.getD v0.toNat zeroVal) (s2.getD v0.toNat zeroVal) != 0)
      (some (.ret, (cmpR_e2_ret s1 s2 p v0 (p (s1.getD v0.toNat zeroVal) (s2.getD v0.toNat zeroVal)))))
      (cmpR_L2 (cmpR_s2 s1 s2 p (IntKind.i64.wrap (v0 + 1))))))))
  (some (.exit 0, (cmpR_s2 s1 s2 p v0))) := (loopF_eq (N_cmpR 2) cmpR_B2 _).trans (by kernel_rfl)
theorem cmpR_a2_ret (s1 : List Val) (s2 : List Val) (p : Val → Val → Int) (v0 : Int) (v1 : Int) : cmpR_C2 .ret (cmpR_e2_ret s1 s2 p v0 v1) =
 some (R_cmpR (v1)) := by kernel_rfl
theorem cmpR_a2_x0 (s1 : List Val) (s2 : List Val) (p : Val → Val → Int) (v0 : Int) : cmpR_C2 (.exit 0) (cmpR_s2 s1 s2 p v0) =
 cndO (decide ((↑s1.length : Int) < (↑s2.length : Int)))
  (some (R_cmpR ((-1 : Int))))
  (some (R_cmpR ((0 : Int)))) := by kernel_rfl
def cmpRA (p : Val → Val → Int) : List Val → List Val → Int
  | [], [] => 0
  | [], _ :: _ => -1
  | _ :: _, [] => 1
  | a :: l, b :: r => if p a b = 0 then cmpRA p l r else p a b
def cmpR (s1 s2 : List Val) (p : Val → Val → Int) : Int := cmpRA p s1 s2
theorem cmpR_key (s1 s2 : List Val) (p : Val → Val → Int) (h1 : WL .val s1) (h2 : WL .val s2) : ∀ (ra rb : List Val) (i : Nat), s1.drop i = ra → s2.drop i = rb → i ≤ s1.length → i ≤ s2.length →
    (cmpR_L2 (cmpR_s2 s1 s2 p (i : Int))).bind (thenX cmpR_C2) = some (R_cmpR (cmpRA p ra rb)) := by
  have l1 := h1.len
  intro ra
  induction ra with
  | nil =>
    intro rb i e1 e2 i1 i2
    have n1 : s1.length = i := by have : s1.length ≤ i := List.drop_eq_nil_iff.1 e1
                                  omega
    have hL : cmpR_L2 (cmpR_s2 s1 s2 p (i : Int)) = some (.exit 0, cmpR_s2 s1 s2 p (i : Int)) := by
      rw [cmpR_l2, cndO_eq, if_neg (by rw [decide_eq_true_eq]; omega)]
    rw [loop_end hL, cmpR_a2_x0, cndO_eq]
    cases rb with
    | nil =>
      have : s2.length ≤ i := List.drop_eq_nil_iff.1 e2
      rw [if_neg (by rw [decide_eq_true_eq]; omega)]; rfl
    | cons y rb =>
      have hlt : i < s2.length := by
        rcases Nat.lt_or_ge i s2.length with h | h
        · exact h
        · rw [List.drop_eq_nil_of_le h] at e2; simp at e2
      rw [if_pos (by rw [decide_eq_true_eq]; omega)]; rfl
  | cons x ra ih =>
    intro rb i e1 e2 i1 i2
    obtain ⟨a1, a2, a3, _⟩ := drop_cons e1
    cases rb with
    | nil =>
      have n2 : s2.length ≤ i := List.drop_eq_nil_iff.1 e2
      have hL : cmpR_L2 (cmpR_s2 s1 s2 p (i : Int)) = some (.ret, cmpR_e2_ret s1 s2 p (i : Int) 1) := by
        rw [cmpR_l2, cndO_eq, if_pos (by rw [decide_eq_true_eq]; omega), obO_pos (by omega), cndO_eq, if_pos (by rw [decide_eq_true_eq]; omega)]
      rw [loop_end hL, cmpR_a2_ret]; rfl
    | cons y rb =>
      obtain ⟨b1, b2, b3, _⟩ := drop_cons e2
      by_cases hxy : p x y = 0
      · have hL : cmpR_L2 (cmpR_s2 s1 s2 p (i : Int)) = cmpR_L2 (cmpR_s2 s1 s2 p ((i + 1 : Nat) : Int)) := by
          rw [cmpR_l2, cndO_eq, if_pos (by rw [decide_eq_true_eq]; omega), obO_pos (by omega), cndO_eq, if_neg (by rw [decide_eq_true_eq]; omega), obO_pos (by omega), Int.toNat_natCast, a2, b2, cndO_eq, if_neg (by simp [hxy]), wrap_id (by omega)]
          rfl
        rw [hL, ih rb (i + 1) a3 b3 (by omega) (by omega)]
        simp only [cmpRA, if_pos hxy]
      · have hL : cmpR_L2 (cmpR_s2 s1 s2 p (i : Int)) = some (.ret, cmpR_e2_ret s1 s2 p (i : Int) (p x y)) := by
          rw [cmpR_l2, cndO_eq, if_pos (by rw [decide_eq_true_eq]; omega), obO_pos (by omega), cndO_eq, if_neg (by rw [decide_eq_true_eq]; omega), obO_pos (by omega), Int.toNat_natCast, a2, b2, cndO_eq, if_pos (by simpa using hxy)]
        rw [loop_end hL, cmpR_a2_ret]
        simp only [cmpRA, if_neg hxy]
theorem cmpR_spec (s1 s2 : List Val) (p : Val → Val → Int) (h1 : WL .val s1) (h2 : WL .val s2) : cmpR_fn s1 s2 p = some (R_cmpR (cmpR s1 s2 p)) := by
  rw [cmpR_in]
  exact cmpR_key s1 s2 p h1 h2 s1 s2 0 rfl rfl (Nat.zero_le _) (Nat.zero_le _)
def F_cmpR : FnC Un := fun args => match args with
  | [x0, x1, x2] => (dL .val x0).bind fun s1 => (dL .val x1).bind fun s2 => (dF x2).bind fun p => some ([p = (fv_S_val_S_val_to_i_i64 (pf_S_val_S_val_to_i_i64 p))], A_cmpR (cmpR s1 s2 (pf_S_val_S_val_to_i_i64 p)), O_cmpR (cmpR s1 s2 (pf_S_val_S_val_to_i_i64 p)))
  | _ => none
theorem ok_cmpR : FnOK 26 F_cmpR := by
  intro args ob rs os h hob
  unfold F_cmpR at h
  split at h
  · simp only [Option.bind_eq_some_iff, Option.some.injEq, Prod.mk.injEq] at h
    obtain ⟨s1, e0, s2, e1, p, e2, rfl, rfl, rfl⟩ := h
    obtain rfl := dL_eq e0
    obtain rfl := dL_eq e1
    obtain rfl := dF_eq e2
    have hfv0 := hob _ (List.mem_of_getElem? (i := 0) rfl)
    generalize pf_S_val_S_val_to_i_i64 p = pp0 at *
    subst hfv0
    exact ⟨fn_contractF (M := M_cmpR) rfl (tbl_ok (l1 := []) (l2 := []) (l3 := []) (l4 := []) (l5 := []) trivial trivial trivial trivial trivial) Tryd.func26 (by kernel_rfl) N_cmpR 0 [.d] (fun hwf => (cmpR_spec s1 s2 pp0 (wfArg hwf (a := .d (.v (.dat (U := Un) Ty.val s1))) (List.mem_of_getElem? (i := 0) rfl)) (wfArg hwf (a := .d (.v (.dat (U := Un) Ty.val s2))) (List.mem_of_getElem? (i := 1) rfl)))), hasBody_of Tryd.func26 (by kernel_rfl) (by kernel_rfl)⟩
  · simp at h
def M_value_Orders : Mc Un := mach (tbl [(26, F_cmpR)]) (tbl [(27, V_value_Order)]) (tbl []) (tbl []) (tbl [])
def A_value_Orders (r : Int) : List (A Un) := [.c (.s (.int .i64 r))]
def O_value_Orders (_r : Int) : List (Ob Un) := []
def R_value_Orders (r : Int) : RF Un := (A_value_Orders r, O_value_Orders r)
def N_value_Orders : Nat → NS := fun l => (look l []).getD ⟨[], [], [], [], [], false⟩
def value_Orders_fn (a : List Val) (b : List Val) : Option (RF Un) := awf M_value_Orders N_value_Orders (bodyOf Tryd.f14) (entry Tryd.f14.ntmps 0 [.d (.v (.dat (U := Un) Ty.val a)), .d (.v (.dat (U := Un) Ty.val b))]) (retF M_value_Orders Tryd.f14.results.toList [.d])
theorem value_Orders_in (a : List Val) (b : List Val) : value_Orders_fn a b =
 obO (V_value_Order = fv_S_val_S_val_to_i_i64 (pf_S_val_S_val_to_i_i64 V_value_Order))
  (some (R_value_Orders (cmpR a b (pf_S_val_S_val_to_i_i64 V_value_Order)))) := by kernel_rfl
def value_Orders (a b : List Val) : Int := ordR a b
theorem cmpRA_ord : ∀ a b : List Val, cmpRA ordV a b = ordR a b
  | [], [] => rfl
  | [], _ :: _ => rfl
  | _ :: _, [] => rfl
  | a :: l, b :: r => by simp only [cmpRA, ordR, cmpRA_ord l r]
theorem value_Orders_spec (a b : List Val) (_ha : WL .val a) (_hb : WL .val b) : value_Orders_fn a b = some (R_value_Orders (value_Orders a b)) := by
  have e : pf_S_val_S_val_to_i_i64 (fv_S_val_S_val_to_i_i64 ordV) = ordV := pfv_S_val_S_val_to_i_i64 ordV
  rw [value_Orders_in, V_value_Order_eq, e, obO_pos rfl]
  unfold cmpR value_Orders
  rw [cmpRA_ord]
def F_value_Orders : FnC Un := fun args => match args with
  | [x0, x1] => (dL .val x0).bind fun a => (dL .val x1).bind fun b => some ([], A_value_Orders (value_Orders a b), O_value_Orders (value_Orders a b))
  | _ => none
theorem ok_value_Orders : FnOK 14 F_value_Orders := by
  intro args ob rs os h hob
  unfold F_value_Orders at h
  split at h
  · simp only [Option.bind_eq_some_iff, Option.some.injEq, Prod.mk.injEq] at h
    obtain ⟨a, e0, b, e1, rfl, rfl, rfl⟩ := h
    obtain rfl := dL_eq e0
    obtain rfl := dL_eq e1
    exact ⟨fn_contractF (M := M_value_Orders) rfl (tbl_ok (l1 := [(26, F_cmpR)]) (l2 := [(27, V_value_Order)]) (l3 := []) (l4 := []) (l5 := []) ⟨ok_cmpR, trivial⟩ ⟨okV_value_Order, trivial⟩ trivial trivial trivial) Tryd.func14 (by kernel_rfl) N_value_Orders 0 [.d] (fun hwf => (value_Orders_spec a b (wfArg hwf (a := .d (.v (.dat (U := Un) Ty.val a))) (List.mem_of_getElem? (i := 0) rfl)) (wfArg hwf (a := .d (.v (.dat (U := Un) Ty.val b))) (List.mem_of_getElem? (i := 1) rfl)))), hasBody_of Tryd.func14 (by kernel_rfl) (by kernel_rfl)⟩
  · simp at h
end
end Go.Proofs.YtcmfdbjdbbpomaaDoor.B
namespace Go.Proofs.YtcmfdbjdbbpomaaDoor.B
open Go Go.RowKit
set_option maxRecDepth 100000
noncomputable section
attribute [local irreducible] awp ctxK itersK iterK retQ retGQ awf ctxF loopF
def M_idxf_val : Mc Un := mach (tbl []) (tbl []) (tbl []) (tbl []) (tbl [])
def A_idxf_val (r : Int) : List (A Un) := [.c (.s (.int .i64 r))]
def O_idxf_val (_r : Int) : List (Ob Un) := []
def R_idxf_val (r : Int) : RF Un := (A_idxf_val r, O_idxf_val r)
def N_idxf_val : Nat → NS := fun l => (look l [(2, { ts := bl 19 403, bs := bl 19 0, nm := [] })]).getD ⟨[], [], [], [], [], false⟩
def idxf_val_s2 (s : List Val) (f_o : Val → Prop) (f : Val → Bool) (v0 : Int) : S Un := (st 19 19 76 0 [(0, al .val s), (1, AV.one (A.c (C.fv (fvo_S_val_to_b f_o f)))), (4, ai (0 : Int)), (7, ai (↑s.length : Int)), (8, ai v0)] [] [])
def idxf_val_e2_ret (s : List Val) (f_o : Val → Prop) (f : Val → Bool) (v0 : Int) (v1 : Int) : S Un := (st 19 19 76 0 [(0, al .val s), (1, AV.one (A.c (C.fv (fvo_S_val_to_b f_o f)))), (4, ai v1), (7, ai (↑s.length : Int)), (8, ai v0)] [] [])
noncomputable def idxf_val_B2 : Code := sub (bodyOf Tryd.f43) [1, 0, 1, 2, 2]
def idxf_val_L2 : S Un → Option (EX Un) := loopF (N_idxf_val 2) (fun s Q => awf M_idxf_val N_idxf_val idxf_val_B2 s Q)
def idxf_val_C2 : Exit → S Un → Option (RF Un) := ctxF M_idxf_val N_idxf_val (bodyOf Tryd.f43) [1, 0, 1, 2] (retF M_idxf_val Tryd.f43.results.toList [.d])
def idxf_val_fn (s : List Val) (f_o : Val → Prop) (f : Val → Bool) : Option (RF Un) := awf M_idxf_val N_idxf_val (bodyOf Tryd.f43) (entry Tryd.f43.ntmps 0 [.d (.v (.dat (U := Un) Ty.val s)), .fn (fvo_S_val_to_b f_o f)]) (retF M_idxf_val Tryd.f43.results.toList [.d])
theorem idxf_val_in (s : List Val) (f_o : Val → Prop) (f : Val → Bool) : idxf_val_fn s f_o f =
 (idxf_val_L2 (idxf_val_s2 s f_o f (0 : Int))).bind (thenX idxf_val_C2) := by kernel_rfl
theorem idxf_val_l2 (s : List Val) (f_o : Val → Prop) (f : Val → Bool) (v0 : Int) : idxf_val_L2 (idxf_val_s2 s f_o f v0) =
 cndO (decide (v0 < (↑s.length : Int)))
  (obO (0 ≤ v0 ∧ v0 < (↑s.length : Int))
   (obO (f_o (s.getD v0.toNat zeroVal))
    (cndO (f (s.getD v0.toNat zeroVal))
     (some (.ret, (idxf_val_e2_ret s f_o f v0 v0)))
     (idxf_val_L2 (idxf_val_s2 s f_o f (IntKind.i64.wrap (v0 + 1)))))))
  (some (.exit 0, (idxf_val_s2 s f_o f v0))) := (loopF_eq (N_idxf_val 2) idxf_val_B2 _).trans (by kernel_rfl)
theorem idxf_val_a2_ret (s : List Val) (f_o : Val → Prop) (f : Val → Bool) (v0 : Int) (v1 : Int) : idxf_val_C2 .ret (idxf_val_e2_ret s f_o f v0 v1) =
 some (R_idxf_val (v1)) := by kernel_rfl
theorem idxf_val_a2_x0 (s : List Val) (f_o : Val → Prop) (f : Val → Bool) (v0 : Int) : idxf_val_C2 (.exit 0) (idxf_val_s2 s f_o f v0) =
 some (R_idxf_val ((-1 : Int))) := by kernel_rfl
def allO_val (o : Val → Prop) (s : List Val) : Prop := ∀ x ∈ s, o x
def idxf_val (s : List Val) (_o : Val → Prop) (f : Val → Bool) : Int := match s.findIdx? f with | some i => (i : Int) | none => -1
theorem idxf_val_nonneg (s : List Val) (o : Val → Prop) (f : Val → Bool) : 0 ≤ idxf_val s o f ↔ s.any f = true := by
  unfold idxf_val
  cases h : s.findIdx? f with
  | none =>
    have := List.findIdx?_eq_none_iff.1 h
    simp only [List.any_eq_true]
    constructor
    · intro h1; exact absurd h1 (by decide)
    · rintro ⟨x, hx, hf⟩; rw [this x hx] at hf; simp at hf
  | some i =>
    obtain ⟨h1, h2, _⟩ := List.findIdx?_eq_some_iff_getElem.1 h
    simp only [List.any_eq_true]
    exact ⟨fun _ => ⟨s[i], List.getElem_mem h1, h2⟩, fun _ => by omega⟩
theorem idxf_val_spec (s : List Val) (o : Val → Prop) (f : Val → Bool) (hs : WL .val s) (ho : allO_val o s) : idxf_val_fn s o f = some (R_idxf_val (idxf_val s o f)) := by
  have key : ∀ (r : List Val) (i : Nat), s.drop i = r → i ≤ s.length → (idxf_val_L2 (idxf_val_s2 s o f i)).bind (thenX idxf_val_C2) = some (R_idxf_val (match r.findIdx? f with | some k => ((i + k : Nat) : Int) | none => -1)) := by
    intro r
    induction r with
    | nil =>
      intro i hr hi
      have : s.length ≤ i := by rw [← List.drop_eq_nil_iff]; exact hr
      have e : idxf_val_L2 (idxf_val_s2 s o f i) = some (.exit 0, idxf_val_s2 s o f i) := by rw [idxf_val_l2, cndO_eq, if_neg (by simp; omega)]
      rw [loop_end e, idxf_val_a2_x0]; rfl
    | cons x r ih =>
      intro i hr hi
      obtain ⟨a1, a2, a3, hm⟩ := drop_cons hr
      have hx : s.getD i zeroVal = x := a2 zeroVal
      by_cases hf : f x = true
      · have e : idxf_val_L2 (idxf_val_s2 s o f i) = some (.ret, idxf_val_e2_ret s o f i i) := by
          rw [idxf_val_l2, cndO_eq, if_pos (by simp; omega), obO_pos (by omega), Int.toNat_natCast, hx, obO_pos (ho x hm), cndO_eq, if_pos hf]
        rw [loop_end e, idxf_val_a2_ret]
        simp [List.findIdx?_cons, hf]
      · have e : idxf_val_L2 (idxf_val_s2 s o f i) = idxf_val_L2 (idxf_val_s2 s o f ((i + 1 : Nat) : Int)) := by
          rw [idxf_val_l2, cndO_eq, if_pos (by simp; omega), obO_pos (by omega), Int.toNat_natCast, hx, obO_pos (ho x hm), cndO_eq, if_neg hf, wrap_next a1 hs.len]
        rw [e, ih (i + 1) a3 (by omega)]
        congr 2
        simp only [List.findIdx?_cons, hf]
        cases r.findIdx? f with
        | none => rfl
        | some k => simp; omega
  rw [idxf_val_in]
  have := key s 0 rfl (Nat.zero_le _)
  refine Eq.trans this ?_
  unfold idxf_val
  cases s.findIdx? f <;> simp
def F_idxf_val : FnC Un := fun args => match args with
  | [x0, x1] => (dL .val x0).bind fun s => (dF x1).bind fun f => some ([f = (fvo_S_val_to_b (po_S_val_to_b f) (pf_S_val_to_b f)), allO_val (po_S_val_to_b f) s], A_idxf_val (idxf_val s (po_S_val_to_b f) (pf_S_val_to_b f)), O_idxf_val (idxf_val s (po_S_val_to_b f) (pf_S_val_to_b f)))
  | _ => none
theorem ok_idxf_val : FnOK 43 F_idxf_val := by
  intro args ob rs os h hob
  unfold F_idxf_val at h
  split at h
  · simp only [Option.bind_eq_some_iff, Option.some.injEq, Prod.mk.injEq] at h
    obtain ⟨s, e0, f, e1, rfl, rfl, rfl⟩ := h
    obtain rfl := dL_eq e0
    obtain rfl := dF_eq e1
    have hfv0 := hob _ (List.mem_of_getElem? (i := 0) rfl)
    generalize pf_S_val_to_b f = pp0 at *
    generalize po_S_val_to_b f = qq0 at *
    subst hfv0
    exact ⟨fn_contractF (M := M_idxf_val) rfl (tbl_ok (l1 := []) (l2 := []) (l3 := []) (l4 := []) (l5 := []) trivial trivial trivial trivial trivial) Tryd.func43 (by kernel_rfl) N_idxf_val 0 [.d] (fun hwf => (idxf_val_spec s qq0 pp0 (wfArg hwf (a := .d (.v (.dat (U := Un) Ty.val s))) (List.mem_of_getElem? (i := 0) rfl)) (hob _ (List.mem_of_getElem? (i := 1) rfl)))), hasBody_of Tryd.func43 (by kernel_rfl) (by kernel_rfl)⟩
  · simp at h
def M_conf_val : Mc Un := mach (tbl [(43, F_idxf_val)]) (tbl []) (tbl []) (tbl []) (tbl [])
def A_conf_val (r : Bool) : List (A Un) := [.c (.s (.bool r))]
def O_conf_val (_r : Bool) : List (Ob Un) := []
def R_conf_val (r : Bool) : RF Un := (A_conf_val r, O_conf_val r)
def N_conf_val : Nat → NS := fun l => (look l []).getD ⟨[], [], [], [], [], false⟩
def conf_val_fn (s : List Val) (f_o : Val → Prop) (f : Val → Bool) : Option (RF Un) := awf M_conf_val N_conf_val (bodyOf Tryd.f29) (entry Tryd.f29.ntmps 0 [.d (.v (.dat (U := Un) Ty.val s)), .fn (fvo_S_val_to_b f_o f)]) (retF M_conf_val Tryd.f29.results.toList [.d])
theorem conf_val_in (s : List Val) (f_o : Val → Prop) (f : Val → Bool) : conf_val_fn s f_o f =
 obO (fvo_S_val_to_b f_o f = fvo_S_val_to_b (po_S_val_to_b (fvo_S_val_to_b f_o f)) (pf_S_val_to_b (fvo_S_val_to_b f_o f)))
  (obO (allO_val (po_S_val_to_b (fvo_S_val_to_b f_o f)) s)
   (some (R_conf_val (decide (idxf_val s (po_S_val_to_b (fvo_S_val_to_b f_o f)) (pf_S_val_to_b (fvo_S_val_to_b f_o f)) ≥ 0))))) := by kernel_rfl
def conf_val (s : List Val) (_o : Val → Prop) (f : Val → Bool) : Bool := s.any f
theorem conf_val_spec (s : List Val) (o : Val → Prop) (f : Val → Bool) (_hs : WL .val s) (ho : allO_val o s) : conf_val_fn s o f = some (R_conf_val (conf_val s o f)) := by
  rw [conf_val_in]
  simp only [pofvo_S_val_to_b, pffvo_S_val_to_b]
  rw [obO_pos trivial, obO_pos ho]
  unfold conf_val
  congr 2
  have := idxf_val_nonneg s o f
  cases h : s.any f with
  | true => simp; exact this.2 h
  | false =>
    have : ¬ 0 ≤ idxf_val s o f := fun e => by rw [this.1 e] at h; simp at h
    simpa using this
def F_conf_val : FnC Un := fun args => match args with
  | [x0, x1] => (dL .val x0).bind fun s => (dF x1).bind fun f => some ([f = (fvo_S_val_to_b (po_S_val_to_b f) (pf_S_val_to_b f)), allO_val (po_S_val_to_b f) s], A_conf_val (conf_val s (po_S_val_to_b f) (pf_S_val_to_b f)), O_conf_val (conf_val s (po_S_val_to_b f) (pf_S_val_to_b f)))
  | _ => none
theorem ok_conf_val : FnOK 29 F_conf_val := by
  intro args ob rs os h hob
  unfold F_conf_val at h
  split at h
  · simp only [Option.bind_eq_some_iff, Option.some.injEq, Prod.mk.injEq] at h
    obtain ⟨s, e0, f, e1, rfl, rfl, rfl⟩ := h
    obtain rfl := dL_eq e0
    obtain rfl := dF_eq e1
    have hfv0 := hob _ (List.mem_of_getElem? (i := 0) rfl)
    generalize pf_S_val_to_b f = pp0 at *
    generalize po_S_val_to_b f = qq0 at *
    subst hfv0
    exact ⟨fn_contractF (M := M_conf_val) rfl (tbl_ok (l1 := [(43, F_idxf_val)]) (l2 := []) (l3 := []) (l4 := []) (l5 := []) ⟨ok_idxf_val, trivial⟩ trivial trivial trivial trivial) Tryd.func29 (by kernel_rfl) N_conf_val 0 [.d] (fun hwf => (conf_val_spec s qq0 pp0 (wfArg hwf (a := .d (.v (.dat (U := Un) Ty.val s))) (List.mem_of_getElem? (i := 0) rfl)) (hob _ (List.mem_of_getElem? (i := 1) rfl)))), hasBody_of Tryd.func29 (by kernel_rfl) (by kernel_rfl)⟩
  · simp at h
end
end Go.Proofs.YtcmfdbjdbbpomaaDoor.B
