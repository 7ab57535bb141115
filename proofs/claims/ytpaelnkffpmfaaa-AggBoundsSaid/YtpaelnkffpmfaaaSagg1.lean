/- Functions: agg1. (Printed by wip/tools/mkfn.py out of wip/src/agg1.src.) -/
import Derived.Test.YtpaelnkffpmfaaaBAwf
import Derived.Test.YtpaelnkffpmfaaaSspec
import Derived.Test.YtpaelnkffpmfaaaSnum
import Derived.Test.YtpaelnkffpmfaaaSvalue
import Derived.Test.YtpaelnkffpmfaaaSvcmp
import Derived.Test.YtpaelnkffpmfaaaSaggspec
namespace Go.Proofs.Ytpaelnkffpmfaaa.B
open Go Go.RowKit
set_option maxRecDepth 100000
noncomputable section
attribute [local irreducible] awp ctxK itersK iterK retQ retGQ awf ctxF loopF

/-! ### agg.Start -/
def M_agg_Start : Mc Un := mach (tbl []) (tbl []) (tbl []) (tbl []) (tbl [])
def A_agg_Start (r : Acc) : List (A Un) := [.agg (encC Ty.acc r)]
def O_agg_Start (_r : Acc) : List (Ob Un) := []
def R_agg_Start (r : Acc) : RF Un := (A_agg_Start r, O_agg_Start r)
def N_agg_Start : Nat → NS := fun l => (look l []).getD ⟨[], [], [], [], []⟩
def agg_Start_fn (a : Agg) : Option (RF Un) := awf M_agg_Start N_agg_Start (bodyOf Try.f15) (entry Try.f15.ntmps 0 [.d (.agg (enc Ty.agg a))]) (retF M_agg_Start Try.f15.results.toList [.d])
theorem agg_Start_in (a : Agg) : agg_Start_fn a =
 cndO (a.name.toList == (ByteArray.mk #[99, 111, 117, 110, 116]).toList)
  (cndO ((↑a.t.length : Int) == (0 : Int))
   (some (R_agg_Start ({ name := (ByteArray.mk #[114, 111, 119, 115]), distinct := false, n := (0 : Int), hi := (0 : Int), lo := (0 : Int), v := zeroVal, l := [] })))
   (some (R_agg_Start ({ name := a.name, distinct := a.distinct, n := (0 : Int), hi := (0 : Int), lo := (0 : Int), v := zeroVal, l := [] }))))
  (cndO (a.name.toList == (ByteArray.mk #[115, 117, 109]).toList)
   (cndO (a.name.toList == (ByteArray.mk #[115, 117, 109]).toList)
    (some (R_agg_Start ({ name := a.name, distinct := a.distinct, n := (0 : Int), hi := (0 : Int), lo := (0 : Int), v := zeroVal, l := [] })))
    (some (R_agg_Start ({ name := (ByteArray.mk #[]), distinct := a.distinct, n := (0 : Int), hi := (0 : Int), lo := (0 : Int), v := zeroVal, l := [] }))))
   (cndO (a.name.toList == (ByteArray.mk #[109, 105, 110]).toList)
    (cndO (a.name.toList == (ByteArray.mk #[109, 105, 110]).toList)
     (some (R_agg_Start ({ name := a.name, distinct := a.distinct, n := (0 : Int), hi := (0 : Int), lo := (0 : Int), v := zeroVal, l := [] })))
     (some (R_agg_Start ({ name := (ByteArray.mk #[]), distinct := a.distinct, n := (0 : Int), hi := (0 : Int), lo := (0 : Int), v := zeroVal, l := [] }))))
    (cndO (a.name.toList == (ByteArray.mk #[109, 97, 120]).toList)
     (some (R_agg_Start ({ name := a.name, distinct := a.distinct, n := (0 : Int), hi := (0 : Int), lo := (0 : Int), v := zeroVal, l := [] })))
     (some (R_agg_Start ({ name := (ByteArray.mk #[]), distinct := a.distinct, n := (0 : Int), hi := (0 : Int), lo := (0 : Int), v := zeroVal, l := [] })))))) := by kernel_rfl
def agg_Start (a : Agg) : Acc :=
  if (a.name.toList == (ByteArray.mk #[(99 : UInt8), (111 : UInt8), (117 : UInt8), (110 : UInt8), (116 : UInt8)]).toList) = true then
   if ((↑a.t.length : Int) == (0 : Int)) = true then
    ({ name := (ByteArray.mk #[(114 : UInt8), (111 : UInt8), (119 : UInt8), (115 : UInt8)]), distinct := false, n := (0 : Int), hi := (0 : Int), lo := (0 : Int), v := zeroVal, l := [] })
   else
    ({ name := a.name, distinct := a.distinct, n := (0 : Int), hi := (0 : Int), lo := (0 : Int), v := zeroVal, l := [] })
  else
   if (a.name.toList == (ByteArray.mk #[(115 : UInt8), (117 : UInt8), (109 : UInt8)]).toList) = true then
    if (a.name.toList == (ByteArray.mk #[(115 : UInt8), (117 : UInt8), (109 : UInt8)]).toList) = true then
     ({ name := a.name, distinct := a.distinct, n := (0 : Int), hi := (0 : Int), lo := (0 : Int), v := zeroVal, l := [] })
    else
     ({ name := (ByteArray.mk #[]), distinct := a.distinct, n := (0 : Int), hi := (0 : Int), lo := (0 : Int), v := zeroVal, l := [] })
   else
    if (a.name.toList == (ByteArray.mk #[(109 : UInt8), (105 : UInt8), (110 : UInt8)]).toList) = true then
     if (a.name.toList == (ByteArray.mk #[(109 : UInt8), (105 : UInt8), (110 : UInt8)]).toList) = true then
      ({ name := a.name, distinct := a.distinct, n := (0 : Int), hi := (0 : Int), lo := (0 : Int), v := zeroVal, l := [] })
     else
      ({ name := (ByteArray.mk #[]), distinct := a.distinct, n := (0 : Int), hi := (0 : Int), lo := (0 : Int), v := zeroVal, l := [] })
    else
     if (a.name.toList == (ByteArray.mk #[(109 : UInt8), (97 : UInt8), (120 : UInt8)]).toList) = true then
      ({ name := a.name, distinct := a.distinct, n := (0 : Int), hi := (0 : Int), lo := (0 : Int), v := zeroVal, l := [] })
     else
      ({ name := (ByteArray.mk #[]), distinct := a.distinct, n := (0 : Int), hi := (0 : Int), lo := (0 : Int), v := zeroVal, l := [] })
theorem agg_Start_eq (a : Agg) : agg_Start_fn a = some (R_agg_Start (agg_Start a)) := by rw [agg_Start_in]; unfold agg_Start; simp only [cndO_eq]; repeat (first | rfl | split)

def F_agg_Start : FnC Un := fun args => match args with
  | [x0] => (dS .agg x0).bind fun a => some ([], A_agg_Start (agg_Start a), O_agg_Start (agg_Start a))
  | _ => none

theorem ok_agg_Start : FnOK 15 F_agg_Start := by
  intro args ob rs os h hob
  unfold F_agg_Start at h
  split at h
  · simp only [Option.bind_eq_some_iff, Option.some.injEq, Prod.mk.injEq] at h
    obtain ⟨a, e0, rfl, rfl, rfl⟩ := h
    obtain rfl := dS_eq e0
    exact ⟨fn_contractF (M := M_agg_Start) rfl (tbl_ok (l1 := []) (l2 := []) (l3 := []) (l4 := []) (l5 := []) trivial trivial trivial trivial trivial) Try.func15 (by kernel_rfl) N_agg_Start 0 [.d] (fun hwf => (agg_Start_eq a)), hasBody_of Try.func15 (by kernel_rfl) (by kernel_rfl)⟩
  · simp at h

theorem len0 {α : Type} (l : List α) : ((l.length : Int) == 0) = true ↔ l = [] := by simp
@[simp] theorem agg_Start_spec (a : Agg) : agg_Start a = startA a := by
  unfold agg_Start startA
  simp only [nm_count, nm_sum, nm_min, nm_max, nm_rows, nm_none, name_eq, len0]
  by_cases h1 : a.name = nmCount
  · simp [h1]
  · by_cases h2 : a.name = nmSum
    · simp [h1, h2]
    · by_cases h3 : a.name = nmMin
      · rw [h3] at h1 h2; simp [h1, h2, h3]
      · simp [h1, h2, h3]


/-! ### agg.counts -/
def M_agg_counts : Mc Un := mach (tbl [(41, F_value_Right)]) (tbl []) (tbl []) (tbl []) (tbl [])
def A_agg_counts (r : Bool) : List (A Un) := [.c (.s (.bool r))]
def O_agg_counts (_r : Bool) : List (Ob Un) := []
def R_agg_counts (r : Bool) : RF Un := (A_agg_counts r, O_agg_counts r)
def N_agg_counts : Nat → NS := fun l => (look l []).getD ⟨[], [], [], [], []⟩
def agg_counts_fn (x : Acc) (v : Val) : Option (RF Un) := awf M_agg_counts N_agg_counts (bodyOf Try.f28) (entry Try.f28.ntmps 0 [.d (.agg (enc Ty.acc x)), .d (.agg (enc Ty.val v))]) (retF M_agg_counts Try.f28.results.toList [.d])
theorem agg_counts_in (x : Acc) (v : Val) : agg_counts_fn x v =
 cndO (x.name.toList == (ByteArray.mk #[114, 111, 119, 115]).toList)
  (some (R_agg_counts (true)))
  (cndO (v.kind != 0)
   (cndO (value_Right v)
    (cndO (!x.name.toList == (ByteArray.mk #[115, 117, 109]).toList)
     (some (R_agg_counts (true)))
     (some (R_agg_counts (v.kind == 2))))
    (some (R_agg_counts (false))))
   (some (R_agg_counts (false)))) := by kernel_rfl

def agg_counts (x : Acc) (v : Val) : Bool := countsA x.name v
@[simp] theorem agg_counts_eq (x : Acc) (v : Val) : agg_counts x v = countsA x.name v := by unfold agg_counts; rfl
theorem agg_counts_spec (x : Acc) (v : Val) (_hx : WS .acc x) (_hv : WS .val v) : agg_counts_fn x v = some (R_agg_counts (agg_counts x v)) := by
  rw [agg_counts_in]
  unfold agg_counts countsA cntV
  simp only [cndO_eq, nm_sum, nm_rows, name_eq, value_Right_eq, Bool.not_eq_true']
  by_cases h1 : x.name = nmRows
  · simp [h1]
  · by_cases h2 : v.kind = 0
    · simp [h1, h2]
    · by_cases h3 : rightV v = true
      · by_cases h4 : x.name = nmSum
        · have e : ¬ (x.name.toList == nmSum.toList) = false := by rw [(name_eq _ _).2 h4]; simp
          rw [if_neg h1, if_pos (by simpa using h2), if_pos h3, if_neg e]
          have : nmSum ≠ nmRows := nm_ne.2.2.2.2.2.2.1
          simp [h2, h3, h4, this]
          congr 1
        · have e : (x.name.toList == nmSum.toList) = false := by
            cases hh : (x.name.toList == nmSum.toList) with
            | false => rfl
            | true => exact (h4 ((name_eq _ _).1 hh)).elim
          rw [if_neg h1, if_pos (by simpa using h2), if_pos h3, if_pos e]
          simp [h1, h2, h3, h4]
      · simp [h1, h2, h3]

def F_agg_counts : FnC Un := fun args => match args with
  | [x0, x1] => (dS .acc x0).bind fun x => (dS .val x1).bind fun v => some ([], A_agg_counts (agg_counts x v), O_agg_counts (agg_counts x v))
  | _ => none

theorem ok_agg_counts : FnOK 28 F_agg_counts := by
  intro args ob rs os h hob
  unfold F_agg_counts at h
  split at h
  · simp only [Option.bind_eq_some_iff, Option.some.injEq, Prod.mk.injEq] at h
    obtain ⟨x, e0, v, e1, rfl, rfl, rfl⟩ := h
    obtain rfl := dS_eq e0
    obtain rfl := dS_eq e1
    exact ⟨fn_contractF (M := M_agg_counts) rfl (tbl_ok (l1 := [(41, F_value_Right)]) (l2 := []) (l3 := []) (l4 := []) (l5 := []) ⟨ok_value_Right, trivial⟩ trivial trivial trivial trivial) Try.func28 (by kernel_rfl) N_agg_counts 0 [.d] (fun hwf => (agg_counts_spec x v (wfArg hwf (a := .d (.agg (enc Ty.acc x))) (List.mem_of_getElem? (i := 0) rfl)) (wfArg hwf (a := .d (.agg (enc Ty.val v))) (List.mem_of_getElem? (i := 1) rfl)))), hasBody_of Try.func28 (by kernel_rfl) (by kernel_rfl)⟩
  · simp at h


/-! ### agg.carried -/
def M_agg_carried : Mc Un := mach (tbl []) (tbl []) (tbl []) (tbl []) (tbl [])
def A_agg_carried (r : Int × Int) : List (A Un) := [.c (.s (.int .i64 r.1)), .c (.s (.int .i64 r.2))]
def O_agg_carried (_r : Int × Int) : List (Ob Un) := []
def R_agg_carried (r : Int × Int) : RF Un := (A_agg_carried r, O_agg_carried r)
def N_agg_carried : Nat → NS := fun l => (look l []).getD ⟨[], [], [], [], []⟩
def agg_carried_fn (hi : Int) (lo : Int) : Option (RF Un) := awf M_agg_carried N_agg_carried (bodyOf Try.f24) (entry Try.f24.ntmps 0 [.d (.v (.s (.int .i64 hi))), .d (.v (.s (.int .i64 lo)))]) (retF M_agg_carried Try.f24.results.toList [.d, .d])
theorem agg_carried_in (hi : Int) (lo : Int) : agg_carried_fn hi lo =
 obO (¬(1000000000000000 : Int) = (0 : Int))
  (obO (¬(1000000000000000 : Int) = (0 : Int))
   (some (R_agg_carried (IntKind.i64.wrap (hi + IntKind.i64.wrap (lo.tdiv (1000000000000000 : Int))), lo.tmod (1000000000000000 : Int))))) := by kernel_rfl

def agg_carried (hi lo : Int) : Int × Int := (hi + lo.tdiv bigM, lo.tmod bigM)
theorem agg_carried_spec (hi lo : Int) (_h1 : WI hi) (_h2 : WI lo) (h : (-1000000000 ≤ hi ∧ hi ≤ 1000000000) ∧ -2000000000000000 ≤ lo ∧ lo ≤ 2000000000000000) : agg_carried_fn hi lo = some (R_agg_carried (agg_carried hi lo)) := by
  have h2 : -2 ≤ lo.tdiv bigM ∧ lo.tdiv bigM ≤ 2 := by
    have := div_mod_big (n := lo); have := tmod_big lo; unfold bigM at *; omega
  rw [agg_carried_in]
  unfold agg_carried
  unfold bigM at *
  rw [obO_pos (by decide), obO_pos (by decide), wrap_id (n := lo.tdiv 1000000000000000) (by omega), wrap_id (by omega)]

def F_agg_carried : FnC Un := fun args => match args with
  | [x0, x1] => (dI .i64 x0).bind fun hi => (dI .i64 x1).bind fun lo => some ([(-1000000000 ≤ hi ∧ hi ≤ 1000000000) ∧ -2000000000000000 ≤ lo ∧ lo ≤ 2000000000000000], A_agg_carried (agg_carried hi lo), O_agg_carried (agg_carried hi lo))
  | _ => none

theorem ok_agg_carried : FnOK 24 F_agg_carried := by
  intro args ob rs os h hob
  unfold F_agg_carried at h
  split at h
  · simp only [Option.bind_eq_some_iff, Option.some.injEq, Prod.mk.injEq] at h
    obtain ⟨hi, e0, lo, e1, rfl, rfl, rfl⟩ := h
    obtain rfl := dI_eq e0
    obtain rfl := dI_eq e1
    exact ⟨fn_contractF (M := M_agg_carried) rfl (tbl_ok (l1 := []) (l2 := []) (l3 := []) (l4 := []) (l5 := []) trivial trivial trivial trivial trivial) Try.func24 (by kernel_rfl) N_agg_carried 0 [.d, .d] (fun hwf => (agg_carried_spec hi lo (wfArg hwf (a := .d (.v (.s (.int .i64 hi)))) (List.mem_of_getElem? (i := 0) rfl)) (wfArg hwf (a := .d (.v (.s (.int .i64 lo)))) (List.mem_of_getElem? (i := 1) rfl)) (hob _ (List.mem_of_getElem? (i := 0) rfl)))), hasBody_of Try.func24 (by kernel_rfl) (by kernel_rfl)⟩
  · simp at h


/-! ### agg.taken -/
def M_agg_taken : Mc Un := mach (tbl [(24, F_agg_carried), (14, F_value_Order)]) (tbl []) (tbl []) (tbl []) (tbl [])
def A_agg_taken (r : Acc) : List (A Un) := [.agg (encC Ty.acc r)]
def O_agg_taken (_r : Acc) : List (Ob Un) := []
def R_agg_taken (r : Acc) : RF Un := (A_agg_taken r, O_agg_taken r)
def N_agg_taken : Nat → NS := fun l => (look l []).getD ⟨[], [], [], [], []⟩
def agg_taken_fn (x : Acc) (v : Val) : Option (RF Un) := awf M_agg_taken N_agg_taken (bodyOf Try.f21) (entry Try.f21.ntmps 0 [.d (.agg (enc Ty.acc x)), .d (.agg (enc Ty.val v))]) (retF M_agg_taken Try.f21.results.toList [.d])
theorem agg_taken_in (x : Acc) (v : Val) : agg_taken_fn x v =
 cndO (x.name.toList == (ByteArray.mk #[115, 117, 109]).toList)
  (obO (((-1000000000 : Int) ≤ x.hi ∧ x.hi ≤ 1000000000) ∧ (-2000000000000000 : Int) ≤ IntKind.i64.wrap (x.lo + v.n) ∧ IntKind.i64.wrap (x.lo + v.n) ≤ 2000000000000000)
   (some (R_agg_taken ({ name := x.name, distinct := x.distinct, n := IntKind.i64.wrap (x.n + 1), hi := (agg_carried x.hi (IntKind.i64.wrap (x.lo + v.n))).fst, lo := (agg_carried x.hi (IntKind.i64.wrap (x.lo + v.n))).snd, v := x.v, l := x.l }))))
  (cndO (x.name.toList == (ByteArray.mk #[109, 105, 110]).toList)
   (cndO (IntKind.i64.wrap (x.n + 1) == 1)
    (some (R_agg_taken ({ name := x.name, distinct := x.distinct, n := IntKind.i64.wrap (x.n + 1), hi := x.hi, lo := x.lo, v := v, l := x.l })))
    (cndO (decide (value_Order v x.v < 0))
     (some (R_agg_taken ({ name := x.name, distinct := x.distinct, n := IntKind.i64.wrap (x.n + 1), hi := x.hi, lo := x.lo, v := v, l := x.l })))
     (some (R_agg_taken ({ name := x.name, distinct := x.distinct, n := IntKind.i64.wrap (x.n + 1), hi := x.hi, lo := x.lo, v := x.v, l := x.l })))))
   (cndO (x.name.toList == (ByteArray.mk #[109, 97, 120]).toList)
    (cndO (IntKind.i64.wrap (x.n + 1) == 1)
     (some (R_agg_taken ({ name := x.name, distinct := x.distinct, n := IntKind.i64.wrap (x.n + 1), hi := x.hi, lo := x.lo, v := v, l := x.l })))
     (cndO (decide (value_Order v x.v > 0))
      (some (R_agg_taken ({ name := x.name, distinct := x.distinct, n := IntKind.i64.wrap (x.n + 1), hi := x.hi, lo := x.lo, v := v, l := x.l })))
      (some (R_agg_taken ({ name := x.name, distinct := x.distinct, n := IntKind.i64.wrap (x.n + 1), hi := x.hi, lo := x.lo, v := x.v, l := x.l })))))
    (some (R_agg_taken ({ name := x.name, distinct := x.distinct, n := IntKind.i64.wrap (x.n + 1), hi := x.hi, lo := x.lo, v := x.v, l := x.l }))))) := by kernel_rfl

def agg_taken (x : Acc) (v : Val) : Acc := takenA x v
@[simp] theorem agg_taken_eq (x : Acc) (v : Val) : agg_taken x v = takenA x v := by unfold agg_taken; rfl

/-- Within bounds. -/
def accOK (x : Acc) : Prop := (0 ≤ x.n ∧ x.n ≤ 1000000000) ∧ (-100000000 ≤ x.hi ∧ x.hi ≤ 100000000) ∧ -1000000000000000 < x.lo ∧ x.lo < 1000000000000000

theorem agg_taken_spec (x : Acc) (v : Val) (_hx : WS .acc x) (_hv : WS .val v) (h : accOK x ∧ (x.name = nmSum → -1000000000000000 ≤ v.n ∧ v.n ≤ 1000000000000000)) : agg_taken_fn x v = some (R_agg_taken (agg_taken x v)) := by
  obtain ⟨⟨h1, h2, h3⟩, h4⟩ := h
  rw [agg_taken_in]
  unfold agg_taken takenA
  simp only [cndO_eq, nm_sum, nm_min, nm_max, name_eq, value_Order_eq]
  rw [wrap_id (n := x.n + 1) (by omega)]
  by_cases hs : x.name = nmSum
  · have h4' := h4 hs
    rw [if_pos hs, if_pos hs]
    have e : IntKind.i64.wrap (x.lo + v.n) = x.lo + v.n := wrap_id (by omega)
    rw [e, obO_pos (by omega)]
    rfl
  · rw [if_neg hs, if_neg hs]
    by_cases hm : x.name = nmMin
    · rw [if_pos hm, if_pos hm]
      by_cases h5 : x.n + 1 = 1
      · simp [h5]
      · by_cases h6 : ordV v x.v < 0
        · simp [h5, h6]
        · simp [h5, h6]
    · rw [if_neg hm, if_neg hm]
      by_cases hx : x.name = nmMax
      · rw [if_pos hx, if_pos hx]
        by_cases h5 : x.n + 1 = 1
        · simp [h5]
        · by_cases h6 : ordV v x.v > 0
          · simp [h5, h6]
          · simp [h5, h6]
      · rw [if_neg hx, if_neg hx]

def F_agg_taken : FnC Un := fun args => match args with
  | [x0, x1] => (dS .acc x0).bind fun x => (dS .val x1).bind fun v => some ([accOK x ∧ (x.name = nmSum → -1000000000000000 ≤ v.n ∧ v.n ≤ 1000000000000000)], A_agg_taken (agg_taken x v), O_agg_taken (agg_taken x v))
  | _ => none

theorem ok_agg_taken : FnOK 21 F_agg_taken := by
  intro args ob rs os h hob
  unfold F_agg_taken at h
  split at h
  · simp only [Option.bind_eq_some_iff, Option.some.injEq, Prod.mk.injEq] at h
    obtain ⟨x, e0, v, e1, rfl, rfl, rfl⟩ := h
    obtain rfl := dS_eq e0
    obtain rfl := dS_eq e1
    exact ⟨fn_contractF (M := M_agg_taken) rfl (tbl_ok (l1 := [(24, F_agg_carried), (14, F_value_Order)]) (l2 := []) (l3 := []) (l4 := []) (l5 := []) ⟨ok_agg_carried, ok_value_Order, trivial⟩ trivial trivial trivial trivial) Try.func21 (by kernel_rfl) N_agg_taken 0 [.d] (fun hwf => (agg_taken_spec x v (wfArg hwf (a := .d (.agg (enc Ty.acc x))) (List.mem_of_getElem? (i := 0) rfl)) (wfArg hwf (a := .d (.agg (enc Ty.val v))) (List.mem_of_getElem? (i := 1) rfl)) (hob _ (List.mem_of_getElem? (i := 0) rfl)))), hasBody_of Try.func21 (by kernel_rfl) (by kernel_rfl)⟩
  · simp at h


/-! ### value.Num -/
def M_value_Num : Mc Un := mach (tbl []) (tbl []) (tbl []) (tbl []) (tbl [])
def A_value_Num (r : Val) : List (A Un) := [.agg (encC Ty.val r)]
def O_value_Num (_r : Val) : List (Ob Un) := []
def R_value_Num (r : Val) : RF Un := (A_value_Num r, O_value_Num r)
def N_value_Num : Nat → NS := fun l => (look l []).getD ⟨[], [], [], [], []⟩
def value_Num_fn (n : Int) : Option (RF Un) := awf M_value_Num N_value_Num (bodyOf Try.f22) (entry Try.f22.ntmps 0 [.d (.v (.s (.int .i64 n)))]) (retF M_value_Num Try.f22.results.toList [.d])
theorem value_Num_in (n : Int) : value_Num_fn n =
 some (R_value_Num ({ kind := (2 : Int), n := n, s := (ByteArray.mk #[]) })) := by kernel_rfl
def value_Num (n : Int) : Val :=
  ({ kind := (2 : Int), n := n, s := (ByteArray.mk #[]) })
theorem value_Num_eq (n : Int) : value_Num_fn n = some (R_value_Num (value_Num n)) := by rw [value_Num_in]; unfold value_Num; simp only [cndO_eq]; repeat (first | rfl | split)

def F_value_Num : FnC Un := fun args => match args with
  | [x0] => (dI .i64 x0).bind fun n => some ([], A_value_Num (value_Num n), O_value_Num (value_Num n))
  | _ => none

theorem ok_value_Num : FnOK 22 F_value_Num := by
  intro args ob rs os h hob
  unfold F_value_Num at h
  split at h
  · simp only [Option.bind_eq_some_iff, Option.some.injEq, Prod.mk.injEq] at h
    obtain ⟨n, e0, rfl, rfl, rfl⟩ := h
    obtain rfl := dI_eq e0
    exact ⟨fn_contractF (M := M_value_Num) rfl (tbl_ok (l1 := []) (l2 := []) (l3 := []) (l4 := []) (l5 := []) trivial trivial trivial trivial trivial) Try.func22 (by kernel_rfl) N_value_Num 0 [.d] (fun hwf => (value_Num_eq n)), hasBody_of Try.func22 (by kernel_rfl) (by kernel_rfl)⟩
  · simp at h

@[simp] theorem value_Num_spec (n : Int) : value_Num n = numV n := rfl


/-! ### agg.total -/
def M_agg_total : Mc Un := mach (tbl [(38, F_num_In), (22, F_value_Num)]) (tbl []) (tbl []) (tbl []) (tbl [])
def A_agg_total (r : Val) : List (A Un) := [.agg (encC Ty.val r)]
def O_agg_total (_r : Val) : List (Ob Un) := []
def R_agg_total (r : Val) : RF Un := (A_agg_total r, O_agg_total r)
def N_agg_total : Nat → NS := fun l => (look l []).getD ⟨[], [], [], [], []⟩
def agg_total_fn (x : Acc) : Option (RF Un) := awf M_agg_total N_agg_total (bodyOf Try.f23) (entry Try.f23.ntmps 0 [.d (.agg (enc Ty.acc x))]) (retF M_agg_total Try.f23.results.toList [.d])
theorem agg_total_in (x : Acc) : agg_total_fn x =
 cndO (x.n == 0)
  (some (R_agg_total (zeroVal)))
  (cndO (decide (x.hi < (-1 : Int)))
   (some (R_agg_total (zeroVal)))
   (cndO (decide (x.hi > 1))
    (some (R_agg_total (zeroVal)))
    (cndO (!num_In (IntKind.i64.wrap (IntKind.i64.wrap (x.hi * 1000000000000000) + x.lo)))
     (some (R_agg_total (zeroVal)))
     (some (R_agg_total (value_Num (IntKind.i64.wrap (IntKind.i64.wrap (x.hi * 1000000000000000) + x.lo)))))))) := by kernel_rfl

def agg_total (x : Acc) : Val := totalA x
theorem agg_total_spec (x : Acc) (_hx : WS .acc x) (h : accOK x) : agg_total_fn x = some (R_agg_total (agg_total x)) := by
  obtain ⟨h1, h2, h3⟩ := h
  rw [agg_total_in]
  unfold agg_total totalA
  simp only [cndO_eq, num_In_spec, value_Num_spec, beq_iff_eq, decide_eq_true_eq, Bool.not_eq_true']
  by_cases e1 : x.n = 0
  · simp [e1]
  · by_cases e2 : x.hi < -1
    · simp [e1, e2]
    · by_cases e3 : x.hi > 1
      · simp [e1, e2, e3]
      · have e4 : IntKind.i64.wrap (IntKind.i64.wrap (x.hi * 1000000000000000) + x.lo) = x.hi * bigM + x.lo := by
          unfold bigM; rw [wrap_id (n := x.hi * 1000000000000000) (by omega), wrap_id (by omega)]
        rw [e4]
        cases h : inN (x.hi * bigM + x.lo) <;> simp [e1, e2, e3]

def F_agg_total : FnC Un := fun args => match args with
  | [x0] => (dS .acc x0).bind fun x => some ([accOK x], A_agg_total (agg_total x), O_agg_total (agg_total x))
  | _ => none

theorem ok_agg_total : FnOK 23 F_agg_total := by
  intro args ob rs os h hob
  unfold F_agg_total at h
  split at h
  · simp only [Option.bind_eq_some_iff, Option.some.injEq, Prod.mk.injEq] at h
    obtain ⟨x, e0, rfl, rfl, rfl⟩ := h
    obtain rfl := dS_eq e0
    exact ⟨fn_contractF (M := M_agg_total) rfl (tbl_ok (l1 := [(38, F_num_In), (22, F_value_Num)]) (l2 := []) (l3 := []) (l4 := []) (l5 := []) ⟨ok_num_In, ok_value_Num, trivial⟩ trivial trivial trivial trivial) Try.func23 (by kernel_rfl) N_agg_total 0 [.d] (fun hwf => (agg_total_spec x (wfArg hwf (a := .d (.agg (enc Ty.acc x))) (List.mem_of_getElem? (i := 0) rfl)) (hob _ (List.mem_of_getElem? (i := 0) rfl)))), hasBody_of Try.func23 (by kernel_rfl) (by kernel_rfl)⟩
  · simp at h


end
end Go.Proofs.Ytpaelnkffpmfaaa.B
