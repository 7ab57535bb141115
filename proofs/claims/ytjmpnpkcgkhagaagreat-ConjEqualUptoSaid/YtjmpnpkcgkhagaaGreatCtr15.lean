/- Part 15 of the proof: Snum2 Stri Lindexb. -/
import Derived.Test.YtjmpnpkcgkhagaaGreatCtr14
namespace Go.Proofs.YtjmpnpkcgkhagaaGreat.B
open Go Go.RowKit
set_option maxRecDepth 100000
noncomputable section
attribute [local irreducible] awp ctxK itersK iterK retQ retGQ awf ctxF loopF
def M_num_told : Mc Un := mach (tbl [(80, F_num_In)]) (tbl []) (tbl []) (tbl []) (tbl [])
def A_num_told (r : Int × Bool) : List (A Un) := [.c (.s (.int .i64 r.1)), .c (.s (.bool r.2))]
def O_num_told (_r : Int × Bool) : List (Ob Un) := []
def R_num_told (r : Int × Bool) : RF Un := (A_num_told r, O_num_told r)
def N_num_told : Nat → NS := fun l => (look l []).getD ⟨[], [], [], [], [], false⟩
def num_told_fn (a : Int) (b : Int) (n : Int) : Option (RF Un) := awf M_num_told N_num_told (bodyOf Tryz.f96) (entry Tryz.f96.ntmps 0 [.d (.v (.s (.int .i64 a))), .d (.v (.s (.int .i64 b))), .d (.v (.s (.int .i64 n)))]) (retF M_num_told Tryz.f96.results.toList [.d, .d])
theorem num_told_in (a : Int) (b : Int) (n : Int) : num_told_fn a b n =
 cndO (!num_In a)
  (some (R_num_told ((0 : Int), false)))
  (cndO (!num_In b)
   (some (R_num_told ((0 : Int), false)))
   (cndO (!num_In n)
    (some (R_num_told ((0 : Int), false)))
    (some (R_num_told (n, true))))) := by kernel_rfl
def num_told (a : Int) (b : Int) (n : Int) : Int × Bool :=
  if (!num_In a) = true then
   ((0 : Int), false)
  else
   if (!num_In b) = true then
    ((0 : Int), false)
   else
    if (!num_In n) = true then
     ((0 : Int), false)
    else
     (n, true)
theorem num_told_eq (a : Int) (b : Int) (n : Int) : num_told_fn a b n = some (R_num_told (num_told a b n)) := by rw [num_told_in]; unfold num_told; simp only [cndO_eq]; repeat (first | rfl | split)
def F_num_told : FnC Un := fun args => match args with
  | [x0, x1, x2] => (dI .i64 x0).bind fun a => (dI .i64 x1).bind fun b => (dI .i64 x2).bind fun n => some ([], A_num_told (num_told a b n), O_num_told (num_told a b n))
  | _ => none
theorem ok_num_told : FnOK 96 F_num_told := by
  intro args ob rs os h hob
  unfold F_num_told at h
  split at h
  · simp only [Option.bind_eq_some_iff, Option.some.injEq, Prod.mk.injEq] at h
    obtain ⟨a, e0, b, e1, n, e2, rfl, rfl, rfl⟩ := h
    obtain rfl := dI_eq e0
    obtain rfl := dI_eq e1
    obtain rfl := dI_eq e2
    exact ⟨fn_contractF (M := M_num_told) rfl (tbl_ok (l1 := [(80, F_num_In)]) (l2 := []) (l3 := []) (l4 := []) (l5 := []) ⟨ok_num_In, trivial⟩ trivial trivial trivial trivial) Tryz.func96 (by kernel_rfl) N_num_told 0 [.d, .d] (fun hwf => (num_told_eq a b n)), hasBody_of Tryz.func96 (by kernel_rfl) (by kernel_rfl)⟩
  · simp at h
def M_num_Add : Mc Un := mach (tbl [(80, F_num_In), (96, F_num_told)]) (tbl []) (tbl []) (tbl []) (tbl [])
def A_num_Add (r : Int × Bool) : List (A Un) := [.c (.s (.int .i64 r.1)), .c (.s (.bool r.2))]
def O_num_Add (_r : Int × Bool) : List (Ob Un) := []
def R_num_Add (r : Int × Bool) : RF Un := (A_num_Add r, O_num_Add r)
def N_num_Add : Nat → NS := fun l => (look l []).getD ⟨[], [], [], [], [], false⟩
def num_Add_fn (a : Int) (b : Int) : Option (RF Un) := awf M_num_Add N_num_Add (bodyOf Tryz.f70) (entry Tryz.f70.ntmps 0 [.d (.v (.s (.int .i64 a))), .d (.v (.s (.int .i64 b)))]) (retF M_num_Add Tryz.f70.results.toList [.d, .d])
theorem num_Add_in (a : Int) (b : Int) : num_Add_fn a b =
 cndO (!num_In a)
  (some (R_num_Add ((0 : Int), false)))
  (cndO (!num_In b)
   (some (R_num_Add ((0 : Int), false)))
   (some (R_num_Add ((num_told a b (IntKind.i64.wrap (a + b))).fst, (num_told a b (IntKind.i64.wrap (a + b))).snd)))) := by kernel_rfl
def num_Add (a : Int) (b : Int) : Int × Bool :=
  if (!num_In a) = true then
   ((0 : Int), false)
  else
   if (!num_In b) = true then
    ((0 : Int), false)
   else
    ((num_told a b (IntKind.i64.wrap (a + b))).fst, (num_told a b (IntKind.i64.wrap (a + b))).snd)
theorem num_Add_eq (a : Int) (b : Int) : num_Add_fn a b = some (R_num_Add (num_Add a b)) := by rw [num_Add_in]; unfold num_Add; simp only [cndO_eq]; repeat (first | rfl | split)
def F_num_Add : FnC Un := fun args => match args with
  | [x0, x1] => (dI .i64 x0).bind fun a => (dI .i64 x1).bind fun b => some ([], A_num_Add (num_Add a b), O_num_Add (num_Add a b))
  | _ => none
theorem ok_num_Add : FnOK 70 F_num_Add := by
  intro args ob rs os h hob
  unfold F_num_Add at h
  split at h
  · simp only [Option.bind_eq_some_iff, Option.some.injEq, Prod.mk.injEq] at h
    obtain ⟨a, e0, b, e1, rfl, rfl, rfl⟩ := h
    obtain rfl := dI_eq e0
    obtain rfl := dI_eq e1
    exact ⟨fn_contractF (M := M_num_Add) rfl (tbl_ok (l1 := [(80, F_num_In), (96, F_num_told)]) (l2 := []) (l3 := []) (l4 := []) (l5 := []) ⟨ok_num_In, ok_num_told, trivial⟩ trivial trivial trivial trivial) Tryz.func70 (by kernel_rfl) N_num_Add 0 [.d, .d] (fun hwf => (num_Add_eq a b)), hasBody_of Tryz.func70 (by kernel_rfl) (by kernel_rfl)⟩
  · simp at h
def M_num_Sub : Mc Un := mach (tbl [(80, F_num_In), (96, F_num_told)]) (tbl []) (tbl []) (tbl []) (tbl [])
def A_num_Sub (r : Int × Bool) : List (A Un) := [.c (.s (.int .i64 r.1)), .c (.s (.bool r.2))]
def O_num_Sub (_r : Int × Bool) : List (Ob Un) := []
def R_num_Sub (r : Int × Bool) : RF Un := (A_num_Sub r, O_num_Sub r)
def N_num_Sub : Nat → NS := fun l => (look l []).getD ⟨[], [], [], [], [], false⟩
def num_Sub_fn (a : Int) (b : Int) : Option (RF Un) := awf M_num_Sub N_num_Sub (bodyOf Tryz.f67) (entry Tryz.f67.ntmps 0 [.d (.v (.s (.int .i64 a))), .d (.v (.s (.int .i64 b)))]) (retF M_num_Sub Tryz.f67.results.toList [.d, .d])
theorem num_Sub_in (a : Int) (b : Int) : num_Sub_fn a b =
 cndO (!num_In a)
  (some (R_num_Sub ((0 : Int), false)))
  (cndO (!num_In b)
   (some (R_num_Sub ((0 : Int), false)))
   (some (R_num_Sub ((num_told a b (IntKind.i64.wrap (a - b))).fst, (num_told a b (IntKind.i64.wrap (a - b))).snd)))) := by kernel_rfl
def num_Sub (a : Int) (b : Int) : Int × Bool :=
  if (!num_In a) = true then
   ((0 : Int), false)
  else
   if (!num_In b) = true then
    ((0 : Int), false)
   else
    ((num_told a b (IntKind.i64.wrap (a - b))).fst, (num_told a b (IntKind.i64.wrap (a - b))).snd)
theorem num_Sub_eq (a : Int) (b : Int) : num_Sub_fn a b = some (R_num_Sub (num_Sub a b)) := by rw [num_Sub_in]; unfold num_Sub; simp only [cndO_eq]; repeat (first | rfl | split)
def F_num_Sub : FnC Un := fun args => match args with
  | [x0, x1] => (dI .i64 x0).bind fun a => (dI .i64 x1).bind fun b => some ([], A_num_Sub (num_Sub a b), O_num_Sub (num_Sub a b))
  | _ => none
theorem ok_num_Sub : FnOK 67 F_num_Sub := by
  intro args ob rs os h hob
  unfold F_num_Sub at h
  split at h
  · simp only [Option.bind_eq_some_iff, Option.some.injEq, Prod.mk.injEq] at h
    obtain ⟨a, e0, b, e1, rfl, rfl, rfl⟩ := h
    obtain rfl := dI_eq e0
    obtain rfl := dI_eq e1
    exact ⟨fn_contractF (M := M_num_Sub) rfl (tbl_ok (l1 := [(80, F_num_In), (96, F_num_told)]) (l2 := []) (l3 := []) (l4 := []) (l5 := []) ⟨ok_num_In, ok_num_told, trivial⟩ trivial trivial trivial trivial) Tryz.func67 (by kernel_rfl) N_num_Sub 0 [.d, .d] (fun hwf => (num_Sub_eq a b)), hasBody_of Tryz.func67 (by kernel_rfl) (by kernel_rfl)⟩
  · simp at h
def M_num_Neg : Mc Un := mach (tbl [(67, F_num_Sub)]) (tbl []) (tbl []) (tbl []) (tbl [])
def A_num_Neg (r : Int × Bool) : List (A Un) := [.c (.s (.int .i64 r.1)), .c (.s (.bool r.2))]
def O_num_Neg (_r : Int × Bool) : List (Ob Un) := []
def R_num_Neg (r : Int × Bool) : RF Un := (A_num_Neg r, O_num_Neg r)
def N_num_Neg : Nat → NS := fun l => (look l []).getD ⟨[], [], [], [], [], false⟩
def num_Neg_fn (a : Int) : Option (RF Un) := awf M_num_Neg N_num_Neg (bodyOf Tryz.f34) (entry Tryz.f34.ntmps 0 [.d (.v (.s (.int .i64 a)))]) (retF M_num_Neg Tryz.f34.results.toList [.d, .d])
theorem num_Neg_in (a : Int) : num_Neg_fn a =
 some (R_num_Neg ((num_Sub (0 : Int) a).fst, (num_Sub (0 : Int) a).snd)) := by kernel_rfl
def num_Neg (a : Int) : Int × Bool :=
  ((num_Sub (0 : Int) a).fst, (num_Sub (0 : Int) a).snd)
theorem num_Neg_eq (a : Int) : num_Neg_fn a = some (R_num_Neg (num_Neg a)) := by rw [num_Neg_in]; unfold num_Neg; simp only [cndO_eq]; repeat (first | rfl | split)
def F_num_Neg : FnC Un := fun args => match args with
  | [x0] => (dI .i64 x0).bind fun a => some ([], A_num_Neg (num_Neg a), O_num_Neg (num_Neg a))
  | _ => none
theorem ok_num_Neg : FnOK 34 F_num_Neg := by
  intro args ob rs os h hob
  unfold F_num_Neg at h
  split at h
  · simp only [Option.bind_eq_some_iff, Option.some.injEq, Prod.mk.injEq] at h
    obtain ⟨a, e0, rfl, rfl, rfl⟩ := h
    obtain rfl := dI_eq e0
    exact ⟨fn_contractF (M := M_num_Neg) rfl (tbl_ok (l1 := [(67, F_num_Sub)]) (l2 := []) (l3 := []) (l4 := []) (l5 := []) ⟨ok_num_Sub, trivial⟩ trivial trivial trivial trivial) Tryz.func34 (by kernel_rfl) N_num_Neg 0 [.d, .d] (fun hwf => (num_Neg_eq a)), hasBody_of Tryz.func34 (by kernel_rfl) (by kernel_rfl)⟩
  · simp at h
def M_num_Mul : Mc Un := mach (tbl [(80, F_num_In), (96, F_num_told)]) (tbl []) (tbl []) (tbl []) (tbl [])
def A_num_Mul (r : Int × Bool) : List (A Un) := [.c (.s (.int .i64 r.1)), .c (.s (.bool r.2))]
def O_num_Mul (_r : Int × Bool) : List (Ob Un) := []
def R_num_Mul (r : Int × Bool) : RF Un := (A_num_Mul r, O_num_Mul r)
def N_num_Mul : Nat → NS := fun l => (look l []).getD ⟨[], [], [], [], [], false⟩
def num_Mul_fn (a : Int) (b : Int) : Option (RF Un) := awf M_num_Mul N_num_Mul (bodyOf Tryz.f71) (entry Tryz.f71.ntmps 0 [.d (.v (.s (.int .i64 a))), .d (.v (.s (.int .i64 b)))]) (retF M_num_Mul Tryz.f71.results.toList [.d, .d])
theorem num_Mul_in (a : Int) (b : Int) : num_Mul_fn a b =
 cndO (!num_In a)
  (some (R_num_Mul ((0 : Int), false)))
  (cndO (!num_In b)
   (some (R_num_Mul ((0 : Int), false)))
   (cndO (a == 0)
    (some (R_num_Mul ((0 : Int), true)))
    (cndO (b == 0)
     (some (R_num_Mul ((0 : Int), true)))
     (obO (¬List.foldl (fun a b => if a < b then b else a) b [IntKind.i64.wrap ((0 : Int) - b)] = 0)
      (cndO (decide (List.foldl (fun a b => if a < b then b else a) a [IntKind.i64.wrap ((0 : Int) - a)] > IntKind.i64.wrap (Int.tdiv (1000000000000000 : Int) (List.foldl (fun a b => if a < b then b else a) b [IntKind.i64.wrap ((0 : Int) - b)]))))
       (some (R_num_Mul ((0 : Int), false)))
       (some (R_num_Mul ((num_told a b (IntKind.i64.wrap (a * b))).fst, (num_told a b (IntKind.i64.wrap (a * b))).snd)))))))) := by kernel_rfl
def mxI (a : Int) : Int := List.foldl (fun a b => if a < b then b else a) a [IntKind.i64.wrap ((0 : Int) - a)]
def num_Mul (a b : Int) : Int × Bool :=
  if num_In a = true then (if num_In b = true then (if a = 0 then (0, true) else if b = 0 then (0, true) else if mxI a > IntKind.i64.wrap (Int.tdiv 1000000000000000 (mxI b)) then (0, false) else num_told a b (IntKind.i64.wrap (a * b))) else (0, false)) else (0, false)
theorem inN_iff (n : Int) : inN n = true ↔ -1000000000000000 ≤ n ∧ n ≤ 1000000000000000 := by unfold inN; exact decide_eq_true_iff
theorem num_Mul_spec (a b : Int) (_ha : WI a) (_hb : WI b) : num_Mul_fn a b = some (R_num_Mul (num_Mul a b)) := by
  rw [num_Mul_in]
  unfold num_Mul
  simp only [cndO_eq, Bool.not_eq_true', beq_iff_eq, decide_eq_true_eq]
  by_cases h1 : num_In a = true
  · by_cases h2 : num_In b = true
    · rw [if_neg (by rw [h1]; decide), if_neg (by rw [h2]; decide), if_pos h1, if_pos h2]
      by_cases h3 : a = 0
      · rw [if_pos h3, if_pos h3]
      · by_cases h4 : b = 0
        · rw [if_neg h3, if_pos h4, if_neg h3, if_pos h4]
        · have hb := h2
          rw [num_In_spec, inN_iff] at hb
          have hm : mxI b ≠ 0 := by
            unfold mxI
            simp only [List.foldl_cons, List.foldl_nil]
            rw [wrap_id (by omega)]
            split <;> omega
          rw [if_neg h3, if_neg h4, if_neg h3, if_neg h4]
          refine (obO_pos hm).trans ?_
          show (if mxI a > IntKind.i64.wrap (Int.tdiv 1000000000000000 (mxI b)) then _ else _) = _
          by_cases h5 : mxI a > IntKind.i64.wrap (Int.tdiv 1000000000000000 (mxI b))
          · rw [if_pos h5, if_pos h5]
          · rw [if_neg h5, if_neg h5]
    · rw [if_neg (by rw [h1]; decide), if_pos (by simpa using h2), if_pos h1, if_neg h2]
  · rw [if_pos (by simpa using h1), if_neg h1]
def F_num_Mul : FnC Un := fun args => match args with
  | [x0, x1] => (dI .i64 x0).bind fun a => (dI .i64 x1).bind fun b => some ([], A_num_Mul (num_Mul a b), O_num_Mul (num_Mul a b))
  | _ => none
theorem ok_num_Mul : FnOK 71 F_num_Mul := by
  intro args ob rs os h hob
  unfold F_num_Mul at h
  split at h
  · simp only [Option.bind_eq_some_iff, Option.some.injEq, Prod.mk.injEq] at h
    obtain ⟨a, e0, b, e1, rfl, rfl, rfl⟩ := h
    obtain rfl := dI_eq e0
    obtain rfl := dI_eq e1
    exact ⟨fn_contractF (M := M_num_Mul) rfl (tbl_ok (l1 := [(80, F_num_In), (96, F_num_told)]) (l2 := []) (l3 := []) (l4 := []) (l5 := []) ⟨ok_num_In, ok_num_told, trivial⟩ trivial trivial trivial trivial) Tryz.func71 (by kernel_rfl) N_num_Mul 0 [.d, .d] (fun hwf => (num_Mul_spec a b (wfArg hwf (a := .d (.v (.s (.int .i64 a)))) (List.mem_of_getElem? (i := 0) rfl)) (wfArg hwf (a := .d (.v (.s (.int .i64 b)))) (List.mem_of_getElem? (i := 1) rfl)))), hasBody_of Tryz.func71 (by kernel_rfl) (by kernel_rfl)⟩
  · simp at h
def M_num_Div : Mc Un := mach (tbl [(80, F_num_In), (96, F_num_told)]) (tbl []) (tbl []) (tbl []) (tbl [])
def A_num_Div (r : Int × Bool) : List (A Un) := [.c (.s (.int .i64 r.1)), .c (.s (.bool r.2))]
def O_num_Div (_r : Int × Bool) : List (Ob Un) := []
def R_num_Div (r : Int × Bool) : RF Un := (A_num_Div r, O_num_Div r)
def N_num_Div : Nat → NS := fun l => (look l []).getD ⟨[], [], [], [], [], false⟩
def num_Div_fn (a : Int) (b : Int) : Option (RF Un) := awf M_num_Div N_num_Div (bodyOf Tryz.f72) (entry Tryz.f72.ntmps 0 [.d (.v (.s (.int .i64 a))), .d (.v (.s (.int .i64 b)))]) (retF M_num_Div Tryz.f72.results.toList [.d, .d])
theorem num_Div_in (a : Int) (b : Int) : num_Div_fn a b =
 cndO (!num_In a)
  (some (R_num_Div ((0 : Int), false)))
  (cndO (!num_In b)
   (some (R_num_Div ((0 : Int), false)))
   (cndO (b == 0)
    (some (R_num_Div ((0 : Int), false)))
    (obO (¬b = 0)
     (some (R_num_Div ((num_told a b (IntKind.i64.wrap (a.tdiv b))).fst, (num_told a b (IntKind.i64.wrap (a.tdiv b))).snd)))))) := by kernel_rfl
def num_Div (a b : Int) : Int × Bool :=
  if num_In a = true then (if num_In b = true then (if b = 0 then (0, false) else num_told a b (IntKind.i64.wrap (a.tdiv b))) else (0, false)) else (0, false)
theorem num_Div_spec (a b : Int) (_ha : WI a) (_hb : WI b) : num_Div_fn a b = some (R_num_Div (num_Div a b)) := by
  rw [num_Div_in]
  unfold num_Div
  simp only [cndO_eq, Bool.not_eq_true', beq_iff_eq]
  by_cases h1 : num_In a = true
  · by_cases h2 : num_In b = true
    · by_cases h3 : b = 0
      · rw [if_neg (by rw [h1]; decide), if_neg (by rw [h2]; decide), if_pos h3, if_pos h1, if_pos h2, if_pos h3]
      · rw [if_neg (by rw [h1]; decide), if_neg (by rw [h2]; decide), if_neg h3, if_pos h1, if_pos h2, if_neg h3, obO_pos h3]
    · rw [if_neg (by rw [h1]; decide), if_pos (by simpa using h2), if_pos h1, if_neg h2]
  · rw [if_pos (by simpa using h1), if_neg h1]
def F_num_Div : FnC Un := fun args => match args with
  | [x0, x1] => (dI .i64 x0).bind fun a => (dI .i64 x1).bind fun b => some ([], A_num_Div (num_Div a b), O_num_Div (num_Div a b))
  | _ => none
theorem ok_num_Div : FnOK 72 F_num_Div := by
  intro args ob rs os h hob
  unfold F_num_Div at h
  split at h
  · simp only [Option.bind_eq_some_iff, Option.some.injEq, Prod.mk.injEq] at h
    obtain ⟨a, e0, b, e1, rfl, rfl, rfl⟩ := h
    obtain rfl := dI_eq e0
    obtain rfl := dI_eq e1
    exact ⟨fn_contractF (M := M_num_Div) rfl (tbl_ok (l1 := [(80, F_num_In), (96, F_num_told)]) (l2 := []) (l3 := []) (l4 := []) (l5 := []) ⟨ok_num_In, ok_num_told, trivial⟩ trivial trivial trivial trivial) Tryz.func72 (by kernel_rfl) N_num_Div 0 [.d, .d] (fun hwf => (num_Div_spec a b (wfArg hwf (a := .d (.v (.s (.int .i64 a)))) (List.mem_of_getElem? (i := 0) rfl)) (wfArg hwf (a := .d (.v (.s (.int .i64 b)))) (List.mem_of_getElem? (i := 1) rfl)))), hasBody_of Tryz.func72 (by kernel_rfl) (by kernel_rfl)⟩
  · simp at h
def M_num_Mod : Mc Un := mach (tbl [(80, F_num_In), (96, F_num_told)]) (tbl []) (tbl []) (tbl []) (tbl [])
def A_num_Mod (r : Int × Bool) : List (A Un) := [.c (.s (.int .i64 r.1)), .c (.s (.bool r.2))]
def O_num_Mod (_r : Int × Bool) : List (Ob Un) := []
def R_num_Mod (r : Int × Bool) : RF Un := (A_num_Mod r, O_num_Mod r)
def N_num_Mod : Nat → NS := fun l => (look l []).getD ⟨[], [], [], [], [], false⟩
def num_Mod_fn (a : Int) (b : Int) : Option (RF Un) := awf M_num_Mod N_num_Mod (bodyOf Tryz.f73) (entry Tryz.f73.ntmps 0 [.d (.v (.s (.int .i64 a))), .d (.v (.s (.int .i64 b)))]) (retF M_num_Mod Tryz.f73.results.toList [.d, .d])
theorem num_Mod_in (a : Int) (b : Int) : num_Mod_fn a b =
 cndO (!num_In a)
  (some (R_num_Mod ((0 : Int), false)))
  (cndO (!num_In b)
   (some (R_num_Mod ((0 : Int), false)))
   (cndO (b == 0)
    (some (R_num_Mod ((0 : Int), false)))
    (obO (¬b = 0)
     (some (R_num_Mod ((num_told a b (a.tmod b)).fst, (num_told a b (a.tmod b)).snd)))))) := by kernel_rfl
def num_Mod (a b : Int) : Int × Bool :=
  if num_In a = true then (if num_In b = true then (if b = 0 then (0, false) else num_told a b (a.tmod b)) else (0, false)) else (0, false)
theorem num_Mod_spec (a b : Int) (_ha : WI a) (_hb : WI b) : num_Mod_fn a b = some (R_num_Mod (num_Mod a b)) := by
  rw [num_Mod_in]
  unfold num_Mod
  simp only [cndO_eq, Bool.not_eq_true', beq_iff_eq]
  by_cases h1 : num_In a = true
  · by_cases h2 : num_In b = true
    · by_cases h3 : b = 0
      · rw [if_neg (by rw [h1]; decide), if_neg (by rw [h2]; decide), if_pos h3, if_pos h1, if_pos h2, if_pos h3]
      · rw [if_neg (by rw [h1]; decide), if_neg (by rw [h2]; decide), if_neg h3, if_pos h1, if_pos h2, if_neg h3, obO_pos h3]
    · rw [if_neg (by rw [h1]; decide), if_pos (by simpa using h2), if_pos h1, if_neg h2]
  · rw [if_pos (by simpa using h1), if_neg h1]
def F_num_Mod : FnC Un := fun args => match args with
  | [x0, x1] => (dI .i64 x0).bind fun a => (dI .i64 x1).bind fun b => some ([], A_num_Mod (num_Mod a b), O_num_Mod (num_Mod a b))
  | _ => none
theorem ok_num_Mod : FnOK 73 F_num_Mod := by
  intro args ob rs os h hob
  unfold F_num_Mod at h
  split at h
  · simp only [Option.bind_eq_some_iff, Option.some.injEq, Prod.mk.injEq] at h
    obtain ⟨a, e0, b, e1, rfl, rfl, rfl⟩ := h
    obtain rfl := dI_eq e0
    obtain rfl := dI_eq e1
    exact ⟨fn_contractF (M := M_num_Mod) rfl (tbl_ok (l1 := [(80, F_num_In), (96, F_num_told)]) (l2 := []) (l3 := []) (l4 := []) (l5 := []) ⟨ok_num_In, ok_num_told, trivial⟩ trivial trivial trivial trivial) Tryz.func73 (by kernel_rfl) N_num_Mod 0 [.d, .d] (fun hwf => (num_Mod_spec a b (wfArg hwf (a := .d (.v (.s (.int .i64 a)))) (List.mem_of_getElem? (i := 0) rfl)) (wfArg hwf (a := .d (.v (.s (.int .i64 b)))) (List.mem_of_getElem? (i := 1) rfl)))), hasBody_of Tryz.func73 (by kernel_rfl) (by kernel_rfl)⟩
  · simp at h
end
end Go.Proofs.YtjmpnpkcgkhagaaGreat.B
namespace Go.Proofs.YtjmpnpkcgkhagaaGreat.B
open Go Go.RowKit
set_option maxRecDepth 100000
noncomputable section
attribute [local irreducible] awp ctxK itersK iterK retQ retGQ awf ctxF loopF
def M_tri_Is : Mc Un := mach (tbl []) (tbl []) (tbl []) (tbl []) (tbl [])
def A_tri_Is (r : Bool) : List (A Un) := [.c (.s (.bool r))]
def O_tri_Is (_r : Bool) : List (Ob Un) := []
def R_tri_Is (r : Bool) : RF Un := (A_tri_Is r, O_tri_Is r)
def N_tri_Is : Nat → NS := fun l => (look l []).getD ⟨[], [], [], [], [], false⟩
def tri_Is_fn (a : Int) : Option (RF Un) := awf M_tri_Is N_tri_Is (bodyOf Tryz.f97) (entry Tryz.f97.ntmps 0 [.d (.v (.s (.int .i64 a)))]) (retF M_tri_Is Tryz.f97.results.toList [.d])
theorem tri_Is_in (a : Int) : tri_Is_fn a =
 cndO (a == 0)
  (some (R_tri_Is (true)))
  (cndO (a == 1)
   (some (R_tri_Is (true)))
   (some (R_tri_Is (a == 2)))) := by kernel_rfl
def tri_Is (a : Int) : Bool :=
  if (a == (0 : Int)) = true then
   (true)
  else
   if (a == (1 : Int)) = true then
    (true)
   else
    (a == (2 : Int))
theorem tri_Is_eq (a : Int) : tri_Is_fn a = some (R_tri_Is (tri_Is a)) := by rw [tri_Is_in]; unfold tri_Is; simp only [cndO_eq]; repeat (first | rfl | split)
def F_tri_Is : FnC Un := fun args => match args with
  | [x0] => (dI .i64 x0).bind fun a => some ([], A_tri_Is (tri_Is a), O_tri_Is (tri_Is a))
  | _ => none
theorem ok_tri_Is : FnOK 97 F_tri_Is := by
  intro args ob rs os h hob
  unfold F_tri_Is at h
  split at h
  · simp only [Option.bind_eq_some_iff, Option.some.injEq, Prod.mk.injEq] at h
    obtain ⟨a, e0, rfl, rfl, rfl⟩ := h
    obtain rfl := dI_eq e0
    exact ⟨fn_contractF (M := M_tri_Is) rfl (tbl_ok (l1 := []) (l2 := []) (l3 := []) (l4 := []) (l5 := []) trivial trivial trivial trivial trivial) Tryz.func97 (by kernel_rfl) N_tri_Is 0 [.d] (fun hwf => (tri_Is_eq a)), hasBody_of Tryz.func97 (by kernel_rfl) (by kernel_rfl)⟩
  · simp at h
def M_tri_one : Mc Un := mach (tbl [(97, F_tri_Is)]) (tbl []) (tbl []) (tbl []) (tbl [])
def A_tri_one (r : Int) : List (A Un) := [.c (.s (.int .i64 r))]
def O_tri_one (_r : Int) : List (Ob Un) := []
def R_tri_one (r : Int) : RF Un := (A_tri_one r, O_tri_one r)
def N_tri_one : Nat → NS := fun l => (look l []).getD ⟨[], [], [], [], [], false⟩
def tri_one_fn (a : Int) : Option (RF Un) := awf M_tri_one N_tri_one (bodyOf Tryz.f68) (entry Tryz.f68.ntmps 0 [.d (.v (.s (.int .i64 a)))]) (retF M_tri_one Tryz.f68.results.toList [.d])
theorem tri_one_in (a : Int) : tri_one_fn a =
 cndO (tri_Is a)
  (some (R_tri_one (a)))
  (some (R_tri_one ((1 : Int)))) := by kernel_rfl
def tri_one (a : Int) : Int :=
  if (tri_Is a) = true then
   (a)
  else
   ((1 : Int))
theorem tri_one_eq (a : Int) : tri_one_fn a = some (R_tri_one (tri_one a)) := by rw [tri_one_in]; unfold tri_one; simp only [cndO_eq]; repeat (first | rfl | split)
def F_tri_one : FnC Un := fun args => match args with
  | [x0] => (dI .i64 x0).bind fun a => some ([], A_tri_one (tri_one a), O_tri_one (tri_one a))
  | _ => none
theorem ok_tri_one : FnOK 68 F_tri_one := by
  intro args ob rs os h hob
  unfold F_tri_one at h
  split at h
  · simp only [Option.bind_eq_some_iff, Option.some.injEq, Prod.mk.injEq] at h
    obtain ⟨a, e0, rfl, rfl, rfl⟩ := h
    obtain rfl := dI_eq e0
    exact ⟨fn_contractF (M := M_tri_one) rfl (tbl_ok (l1 := [(97, F_tri_Is)]) (l2 := []) (l3 := []) (l4 := []) (l5 := []) ⟨ok_tri_Is, trivial⟩ trivial trivial trivial trivial) Tryz.func68 (by kernel_rfl) N_tri_one 0 [.d] (fun hwf => (tri_one_eq a)), hasBody_of Tryz.func68 (by kernel_rfl) (by kernel_rfl)⟩
  · simp at h
def triN (a : Int) : Int := if a = 0 ∨ a = 1 ∨ a = 2 then a else 1
theorem tri_one_N (a : Int) : tri_one a = triN a := by
  unfold tri_one tri_Is triN
  by_cases h0 : a = 0
  · subst h0; rfl
  · by_cases h1 : a = 1
    · subst h1; rfl
    · by_cases h2 : a = 2
      · subst h2; rfl
      · simp [h0, h1, h2]
def M_tri_Of : Mc Un := mach (tbl []) (tbl []) (tbl []) (tbl []) (tbl [])
def A_tri_Of (r : Int) : List (A Un) := [.c (.s (.int .i64 r))]
def O_tri_Of (_r : Int) : List (Ob Un) := []
def R_tri_Of (r : Int) : RF Un := (A_tri_Of r, O_tri_Of r)
def N_tri_Of : Nat → NS := fun l => (look l []).getD ⟨[], [], [], [], [], false⟩
def tri_Of_fn (b : Bool) : Option (RF Un) := awf M_tri_Of N_tri_Of (bodyOf Tryz.f69) (entry Tryz.f69.ntmps 0 [.d (.v (cb b))]) (retF M_tri_Of Tryz.f69.results.toList [.d])
theorem tri_Of_in (b : Bool) : tri_Of_fn b =
 cndO (b)
  (some (R_tri_Of ((2 : Int))))
  (some (R_tri_Of ((0 : Int)))) := by kernel_rfl
def tri_Of (b : Bool) : Int :=
  if (b) = true then
   ((2 : Int))
  else
   ((0 : Int))
theorem tri_Of_eq (b : Bool) : tri_Of_fn b = some (R_tri_Of (tri_Of b)) := by rw [tri_Of_in]; unfold tri_Of; simp only [cndO_eq]; repeat (first | rfl | split)
def F_tri_Of : FnC Un := fun args => match args with
  | [x0] => (dB x0).bind fun b => some ([], A_tri_Of (tri_Of b), O_tri_Of (tri_Of b))
  | _ => none
theorem ok_tri_Of : FnOK 69 F_tri_Of := by
  intro args ob rs os h hob
  unfold F_tri_Of at h
  split at h
  · simp only [Option.bind_eq_some_iff, Option.some.injEq, Prod.mk.injEq] at h
    obtain ⟨b, e0, rfl, rfl, rfl⟩ := h
    obtain rfl := dB_eq e0
    exact ⟨fn_contractF (M := M_tri_Of) rfl (tbl_ok (l1 := []) (l2 := []) (l3 := []) (l4 := []) (l5 := []) trivial trivial trivial trivial trivial) Tryz.func69 (by kernel_rfl) N_tri_Of 0 [.d] (fun hwf => (tri_Of_eq b)), hasBody_of Tryz.func69 (by kernel_rfl) (by kernel_rfl)⟩
  · simp at h
def M_tri_Not : Mc Un := mach (tbl [(68, F_tri_one)]) (tbl []) (tbl []) (tbl []) (tbl [])
def A_tri_Not (r : Int) : List (A Un) := [.c (.s (.int .i64 r))]
def O_tri_Not (_r : Int) : List (Ob Un) := []
def R_tri_Not (r : Int) : RF Un := (A_tri_Not r, O_tri_Not r)
def N_tri_Not : Nat → NS := fun l => (look l []).getD ⟨[], [], [], [], [], false⟩
def tri_Not_fn (a : Int) : Option (RF Un) := awf M_tri_Not N_tri_Not (bodyOf Tryz.f36) (entry Tryz.f36.ntmps 0 [.d (.v (.s (.int .i64 a)))]) (retF M_tri_Not Tryz.f36.results.toList [.d])
theorem tri_Not_in (a : Int) : tri_Not_fn a =
 some (R_tri_Not (IntKind.i64.wrap ((2 : Int) - tri_one a))) := by kernel_rfl
def tri_Not (a : Int) : Int :=
  (IntKind.i64.wrap ((2 : Int) - tri_one a))
theorem tri_Not_eq (a : Int) : tri_Not_fn a = some (R_tri_Not (tri_Not a)) := by rw [tri_Not_in]; unfold tri_Not; simp only [cndO_eq]; repeat (first | rfl | split)
def F_tri_Not : FnC Un := fun args => match args with
  | [x0] => (dI .i64 x0).bind fun a => some ([], A_tri_Not (tri_Not a), O_tri_Not (tri_Not a))
  | _ => none
theorem ok_tri_Not : FnOK 36 F_tri_Not := by
  intro args ob rs os h hob
  unfold F_tri_Not at h
  split at h
  · simp only [Option.bind_eq_some_iff, Option.some.injEq, Prod.mk.injEq] at h
    obtain ⟨a, e0, rfl, rfl, rfl⟩ := h
    obtain rfl := dI_eq e0
    exact ⟨fn_contractF (M := M_tri_Not) rfl (tbl_ok (l1 := [(68, F_tri_one)]) (l2 := []) (l3 := []) (l4 := []) (l5 := []) ⟨ok_tri_one, trivial⟩ trivial trivial trivial trivial) Tryz.func36 (by kernel_rfl) N_tri_Not 0 [.d] (fun hwf => (tri_Not_eq a)), hasBody_of Tryz.func36 (by kernel_rfl) (by kernel_rfl)⟩
  · simp at h
def M_tri_And : Mc Un := mach (tbl [(68, F_tri_one)]) (tbl []) (tbl []) (tbl []) (tbl [])
def A_tri_And (r : Int) : List (A Un) := [.c (.s (.int .i64 r))]
def O_tri_And (_r : Int) : List (Ob Un) := []
def R_tri_And (r : Int) : RF Un := (A_tri_And r, O_tri_And r)
def N_tri_And : Nat → NS := fun l => (look l []).getD ⟨[], [], [], [], [], false⟩
def tri_And_fn (a : Int) (b : Int) : Option (RF Un) := awf M_tri_And N_tri_And (bodyOf Tryz.f42) (entry Tryz.f42.ntmps 0 [.d (.v (.s (.int .i64 a))), .d (.v (.s (.int .i64 b)))]) (retF M_tri_And Tryz.f42.results.toList [.d])
theorem tri_And_in (a : Int) (b : Int) : tri_And_fn a b =
 some (R_tri_And (List.foldl (fun a b => if b < a then b else a) (tri_one a) [tri_one b])) := by kernel_rfl
def tri_And (a : Int) (b : Int) : Int :=
  (List.foldl (fun a b => if b < a then b else a) (tri_one a) [tri_one b])
theorem tri_And_eq (a : Int) (b : Int) : tri_And_fn a b = some (R_tri_And (tri_And a b)) := by rw [tri_And_in]; unfold tri_And; simp only [cndO_eq]; repeat (first | rfl | split)
def F_tri_And : FnC Un := fun args => match args with
  | [x0, x1] => (dI .i64 x0).bind fun a => (dI .i64 x1).bind fun b => some ([], A_tri_And (tri_And a b), O_tri_And (tri_And a b))
  | _ => none
theorem ok_tri_And : FnOK 42 F_tri_And := by
  intro args ob rs os h hob
  unfold F_tri_And at h
  split at h
  · simp only [Option.bind_eq_some_iff, Option.some.injEq, Prod.mk.injEq] at h
    obtain ⟨a, e0, b, e1, rfl, rfl, rfl⟩ := h
    obtain rfl := dI_eq e0
    obtain rfl := dI_eq e1
    exact ⟨fn_contractF (M := M_tri_And) rfl (tbl_ok (l1 := [(68, F_tri_one)]) (l2 := []) (l3 := []) (l4 := []) (l5 := []) ⟨ok_tri_one, trivial⟩ trivial trivial trivial trivial) Tryz.func42 (by kernel_rfl) N_tri_And 0 [.d] (fun hwf => (tri_And_eq a b)), hasBody_of Tryz.func42 (by kernel_rfl) (by kernel_rfl)⟩
  · simp at h
def M_tri_Or : Mc Un := mach (tbl [(68, F_tri_one)]) (tbl []) (tbl []) (tbl []) (tbl [])
def A_tri_Or (r : Int) : List (A Un) := [.c (.s (.int .i64 r))]
def O_tri_Or (_r : Int) : List (Ob Un) := []
def R_tri_Or (r : Int) : RF Un := (A_tri_Or r, O_tri_Or r)
def N_tri_Or : Nat → NS := fun l => (look l []).getD ⟨[], [], [], [], [], false⟩
def tri_Or_fn (a : Int) (b : Int) : Option (RF Un) := awf M_tri_Or N_tri_Or (bodyOf Tryz.f43) (entry Tryz.f43.ntmps 0 [.d (.v (.s (.int .i64 a))), .d (.v (.s (.int .i64 b)))]) (retF M_tri_Or Tryz.f43.results.toList [.d])
theorem tri_Or_in (a : Int) (b : Int) : tri_Or_fn a b =
 some (R_tri_Or (List.foldl (fun a b => if a < b then b else a) (tri_one a) [tri_one b])) := by kernel_rfl
def tri_Or (a : Int) (b : Int) : Int :=
  (List.foldl (fun a b => if a < b then b else a) (tri_one a) [tri_one b])
theorem tri_Or_eq (a : Int) (b : Int) : tri_Or_fn a b = some (R_tri_Or (tri_Or a b)) := by rw [tri_Or_in]; unfold tri_Or; simp only [cndO_eq]; repeat (first | rfl | split)
def F_tri_Or : FnC Un := fun args => match args with
  | [x0, x1] => (dI .i64 x0).bind fun a => (dI .i64 x1).bind fun b => some ([], A_tri_Or (tri_Or a b), O_tri_Or (tri_Or a b))
  | _ => none
theorem ok_tri_Or : FnOK 43 F_tri_Or := by
  intro args ob rs os h hob
  unfold F_tri_Or at h
  split at h
  · simp only [Option.bind_eq_some_iff, Option.some.injEq, Prod.mk.injEq] at h
    obtain ⟨a, e0, b, e1, rfl, rfl, rfl⟩ := h
    obtain rfl := dI_eq e0
    obtain rfl := dI_eq e1
    exact ⟨fn_contractF (M := M_tri_Or) rfl (tbl_ok (l1 := [(68, F_tri_one)]) (l2 := []) (l3 := []) (l4 := []) (l5 := []) ⟨ok_tri_one, trivial⟩ trivial trivial trivial trivial) Tryz.func43 (by kernel_rfl) N_tri_Or 0 [.d] (fun hwf => (tri_Or_eq a b)), hasBody_of Tryz.func43 (by kernel_rfl) (by kernel_rfl)⟩
  · simp at h
def V_tri_And : FV Un := fv_i_i64_i_i64_to_i_i64 (fun a b => tri_And a b)
theorem okV_tri_And : FvOK 42 V_tri_And := by
  refine ⟨hasBody_of Tryz.func42 (by kernel_rfl) (by kernel_rfl), fun args ob rs h hob => ?_⟩
  unfold V_tri_And fv_i_i64_i_i64_to_i_i64 at h
  split at h
  · simp only [Option.bind_eq_some_iff, Option.some.injEq, Prod.mk.injEq] at h
    obtain ⟨a, e0, b, e1, rfl, rfl⟩ := h
    simp only [List.map_cons, List.map_nil]
    rw [dI_eq e0]
    rw [dI_eq e1]
    refine Contract.data (ok_tri_And _ ([]) _ _ (?_ : F_tri_And _ = some _) (by simp)).1
    unfold F_tri_And
    simp only [dI_mk]
    rfl
  · simp at h
def V_tri_Or : FV Un := fv_i_i64_i_i64_to_i_i64 (fun a b => tri_Or a b)
theorem okV_tri_Or : FvOK 43 V_tri_Or := by
  refine ⟨hasBody_of Tryz.func43 (by kernel_rfl) (by kernel_rfl), fun args ob rs h hob => ?_⟩
  unfold V_tri_Or fv_i_i64_i_i64_to_i_i64 at h
  split at h
  · simp only [Option.bind_eq_some_iff, Option.some.injEq, Prod.mk.injEq] at h
    obtain ⟨a, e0, b, e1, rfl, rfl⟩ := h
    simp only [List.map_cons, List.map_nil]
    rw [dI_eq e0]
    rw [dI_eq e1]
    refine Contract.data (ok_tri_Or _ ([]) _ _ (?_ : F_tri_Or _ = some _) (by simp)).1
    unfold F_tri_Or
    simp only [dI_mk]
    rfl
  · simp at h
def M_tri_Value : Mc Un := mach (tbl [(68, F_tri_one)]) (tbl []) (tbl []) (tbl []) (tbl [])
def A_tri_Value (r : Val) : List (A Un) := [.agg (encC Ty.val r)]
def O_tri_Value (_r : Val) : List (Ob Un) := []
def R_tri_Value (r : Val) : RF Un := (A_tri_Value r, O_tri_Value r)
def N_tri_Value : Nat → NS := fun l => (look l []).getD ⟨[], [], [], [], [], false⟩
def tri_Value_fn (a : Int) : Option (RF Un) := awf M_tri_Value N_tri_Value (bodyOf Tryz.f35) (entry Tryz.f35.ntmps 0 [.d (.v (.s (.int .i64 a)))]) (retF M_tri_Value Tryz.f35.results.toList [.d])
theorem tri_Value_in (a : Int) : tri_Value_fn a =
 cndO (tri_one a == 0)
  (some (R_tri_Value ({ kind := (1 : Int), n := (0 : Int), s := (ByteArray.mk #[]) })))
  (cndO (tri_one a == 2)
   (some (R_tri_Value ({ kind := (1 : Int), n := (1 : Int), s := (ByteArray.mk #[]) })))
   (some (R_tri_Value (zeroVal)))) := by kernel_rfl
def tri_Value (a : Int) : Val :=
  if (tri_one a == (0 : Int)) = true then
   ({ kind := (1 : Int), n := (0 : Int), s := (ByteArray.mk #[]) })
  else
   if (tri_one a == (2 : Int)) = true then
    ({ kind := (1 : Int), n := (1 : Int), s := (ByteArray.mk #[]) })
   else
    (zeroVal)
theorem tri_Value_eq (a : Int) : tri_Value_fn a = some (R_tri_Value (tri_Value a)) := by rw [tri_Value_in]; unfold tri_Value; simp only [cndO_eq]; repeat (first | rfl | split)
def F_tri_Value : FnC Un := fun args => match args with
  | [x0] => (dI .i64 x0).bind fun a => some ([], A_tri_Value (tri_Value a), O_tri_Value (tri_Value a))
  | _ => none
theorem ok_tri_Value : FnOK 35 F_tri_Value := by
  intro args ob rs os h hob
  unfold F_tri_Value at h
  split at h
  · simp only [Option.bind_eq_some_iff, Option.some.injEq, Prod.mk.injEq] at h
    obtain ⟨a, e0, rfl, rfl, rfl⟩ := h
    obtain rfl := dI_eq e0
    exact ⟨fn_contractF (M := M_tri_Value) rfl (tbl_ok (l1 := [(68, F_tri_one)]) (l2 := []) (l3 := []) (l4 := []) (l5 := []) ⟨ok_tri_one, trivial⟩ trivial trivial trivial trivial) Tryz.func35 (by kernel_rfl) N_tri_Value 0 [.d] (fun hwf => (tri_Value_eq a)), hasBody_of Tryz.func35 (by kernel_rfl) (by kernel_rfl)⟩
  · simp at h
def M_tri_From : Mc Un := mach (tbl [(69, F_tri_Of)]) (tbl []) (tbl []) (tbl []) (tbl [])
def A_tri_From (r : Int) : List (A Un) := [.c (.s (.int .i64 r))]
def O_tri_From (_r : Int) : List (Ob Un) := []
def R_tri_From (r : Int) : RF Un := (A_tri_From r, O_tri_From r)
def N_tri_From : Nat → NS := fun l => (look l []).getD ⟨[], [], [], [], [], false⟩
def tri_From_fn (v : Val) : Option (RF Un) := awf M_tri_From N_tri_From (bodyOf Tryz.f37) (entry Tryz.f37.ntmps 0 [.d (.agg (enc Ty.val v))]) (retF M_tri_From Tryz.f37.results.toList [.d])
theorem tri_From_in (v : Val) : tri_From_fn v =
 cndO (v.kind != 1)
  (some (R_tri_From ((1 : Int))))
  (some (R_tri_From (tri_Of (v.n != 0)))) := by kernel_rfl
def tri_From (v : Val) : Int :=
  if (v.kind != (1 : Int)) = true then
   ((1 : Int))
  else
   (tri_Of (v.n != (0 : Int)))
theorem tri_From_eq (v : Val) : tri_From_fn v = some (R_tri_From (tri_From v)) := by rw [tri_From_in]; unfold tri_From; simp only [cndO_eq]; repeat (first | rfl | split)
def F_tri_From : FnC Un := fun args => match args with
  | [x0] => (dS .val x0).bind fun v => some ([], A_tri_From (tri_From v), O_tri_From (tri_From v))
  | _ => none
theorem ok_tri_From : FnOK 37 F_tri_From := by
  intro args ob rs os h hob
  unfold F_tri_From at h
  split at h
  · simp only [Option.bind_eq_some_iff, Option.some.injEq, Prod.mk.injEq] at h
    obtain ⟨v, e0, rfl, rfl, rfl⟩ := h
    obtain rfl := dS_eq e0
    exact ⟨fn_contractF (M := M_tri_From) rfl (tbl_ok (l1 := [(69, F_tri_Of)]) (l2 := []) (l3 := []) (l4 := []) (l5 := []) ⟨ok_tri_Of, trivial⟩ trivial trivial trivial trivial) Tryz.func37 (by kernel_rfl) N_tri_From 0 [.d] (fun hwf => (tri_From_eq v)), hasBody_of Tryz.func37 (by kernel_rfl) (by kernel_rfl)⟩
  · simp at h
def M_tri_Any : Mc Un := mach (tbl [(43, F_tri_Or)]) (tbl []) (tbl []) (tbl []) (tbl [])
def A_tri_Any (r : Int) : List (A Un) := [.c (.s (.int .i64 r))]
def O_tri_Any (_r : Int) : List (Ob Un) := []
def R_tri_Any (r : Int) : RF Un := (A_tri_Any r, O_tri_Any r)
def N_tri_Any : Nat → NS := fun l => (look l [(3, { ts := bl 17 456, bs := bl 17 0, nm := [] })]).getD ⟨[], [], [], [], [], false⟩
def tri_Any_s3 (l : List Int) (v0 : Int) (v1 : Int) : S Un := (st 17 17 68 0 [(3, ai v0), (6, al .int l), (7, ai (↑l.length : Int)), (8, ai v1)] [] [])
def tri_Any_B3 : Code := sub (bodyOf Tryz.f77) [1, 1, 0, 1, 2, 2]
def tri_Any_L3 : S Un → Option (EX Un) := loopF (N_tri_Any 3) (fun s Q => awf M_tri_Any N_tri_Any tri_Any_B3 s Q)
def tri_Any_C3 : Exit → S Un → Option (RF Un) := ctxF M_tri_Any N_tri_Any (bodyOf Tryz.f77) [1, 1, 0, 1, 2] (retF M_tri_Any Tryz.f77.results.toList [.d])
def tri_Any_fn (l : List Int) : Option (RF Un) := awf M_tri_Any N_tri_Any (bodyOf Tryz.f77) (entry Tryz.f77.ntmps 0 [.d (.v (.dat (U := Un) Ty.int l))]) (retF M_tri_Any Tryz.f77.results.toList [.d])
theorem tri_Any_in (l : List Int) : tri_Any_fn l =
 (tri_Any_L3 (tri_Any_s3 l (0 : Int) (0 : Int))).bind (thenX tri_Any_C3) := by kernel_rfl
theorem tri_Any_l3 (l : List Int) (v0 : Int) (v1 : Int) : tri_Any_L3 (tri_Any_s3 l v0 v1) =
 cndO (decide (v1 < (↑l.length : Int)))
  (obO (0 ≤ v1 ∧ v1 < (↑l.length : Int))
   (tri_Any_L3 (tri_Any_s3 l (tri_Or v0 (l.getD v1.toNat (0 : Int))) (IntKind.i64.wrap (v1 + 1)))))
  (some (.exit 0, (tri_Any_s3 l v0 v1))) := (loopF_eq (N_tri_Any 3) tri_Any_B3 _).trans (by kernel_rfl)
theorem tri_Any_a3_x0 (l : List Int) (v0 : Int) (v1 : Int) : tri_Any_C3 (.exit 0) (tri_Any_s3 l v0 v1) =
 some (R_tri_Any (v0)) := by kernel_rfl
def tri_Any (l : List Int) : Int := l.foldl (fun m a => tri_Or m a) 0
theorem tri_Any_spec (l : List Int) (hl : WL .int l) : tri_Any_fn l = some (R_tri_Any (tri_Any l)) := by
  obtain ⟨lp, _⟩ := loop_fold (e := .exit 0) (L := tri_Any_L3) (st := fun (m : Int) i => tri_Any_s3 l m i) (l := l) (d := 0) (g := fun m a => tri_Or m a) (fun _ _ => True) hl.len
    (fun m i x hi hx _ => by
      refine ⟨trivial, ?_⟩
      rw [tri_Any_l3]
      simp only [cndO_eq, hi, decide_true, if_true, and_true, Int.toNat_natCast, hx]
      rw [obO_pos (by omega)])
    (fun m _ => by rw [tri_Any_l3]; simp [cndO_eq]) 0 trivial
  rw [tri_Any_in, loop_end lp, tri_Any_a3_x0]
  rfl
def F_tri_Any : FnC Un := fun args => match args with
  | [x0] => (dL .int x0).bind fun l => some ([], A_tri_Any (tri_Any l), O_tri_Any (tri_Any l))
  | _ => none
theorem ok_tri_Any : FnOK 77 F_tri_Any := by
  intro args ob rs os h hob
  unfold F_tri_Any at h
  split at h
  · simp only [Option.bind_eq_some_iff, Option.some.injEq, Prod.mk.injEq] at h
    obtain ⟨l, e0, rfl, rfl, rfl⟩ := h
    obtain rfl := dL_eq e0
    exact ⟨fn_contractF (M := M_tri_Any) rfl (tbl_ok (l1 := [(43, F_tri_Or)]) (l2 := []) (l3 := []) (l4 := []) (l5 := []) ⟨ok_tri_Or, trivial⟩ trivial trivial trivial trivial) Tryz.func77 (by kernel_rfl) N_tri_Any 0 [.d] (fun hwf => (tri_Any_spec l (wfArg hwf (a := .d (.v (.dat (U := Un) Ty.int l))) (List.mem_of_getElem? (i := 0) rfl)))), hasBody_of Tryz.func77 (by kernel_rfl) (by kernel_rfl)⟩
  · simp at h
def M_tri_All : Mc Un := mach (tbl [(42, F_tri_And)]) (tbl []) (tbl []) (tbl []) (tbl [])
def A_tri_All (r : Int) : List (A Un) := [.c (.s (.int .i64 r))]
def O_tri_All (_r : Int) : List (Ob Un) := []
def R_tri_All (r : Int) : RF Un := (A_tri_All r, O_tri_All r)
def N_tri_All : Nat → NS := fun l => (look l [(3, { ts := bl 17 456, bs := bl 17 0, nm := [] })]).getD ⟨[], [], [], [], [], false⟩
def tri_All_s3 (l : List Int) (v0 : Int) (v1 : Int) : S Un := (st 17 17 68 0 [(3, ai v0), (6, al .int l), (7, ai (↑l.length : Int)), (8, ai v1)] [] [])
def tri_All_B3 : Code := sub (bodyOf Tryz.f14) [1, 1, 0, 1, 2, 2]
def tri_All_L3 : S Un → Option (EX Un) := loopF (N_tri_All 3) (fun s Q => awf M_tri_All N_tri_All tri_All_B3 s Q)
def tri_All_C3 : Exit → S Un → Option (RF Un) := ctxF M_tri_All N_tri_All (bodyOf Tryz.f14) [1, 1, 0, 1, 2] (retF M_tri_All Tryz.f14.results.toList [.d])
def tri_All_fn (l : List Int) : Option (RF Un) := awf M_tri_All N_tri_All (bodyOf Tryz.f14) (entry Tryz.f14.ntmps 0 [.d (.v (.dat (U := Un) Ty.int l))]) (retF M_tri_All Tryz.f14.results.toList [.d])
theorem tri_All_in (l : List Int) : tri_All_fn l =
 (tri_All_L3 (tri_All_s3 l (2 : Int) (0 : Int))).bind (thenX tri_All_C3) := by kernel_rfl
theorem tri_All_l3 (l : List Int) (v0 : Int) (v1 : Int) : tri_All_L3 (tri_All_s3 l v0 v1) =
 cndO (decide (v1 < (↑l.length : Int)))
  (obO (0 ≤ v1 ∧ v1 < (↑l.length : Int))
   (tri_All_L3 (tri_All_s3 l (tri_And v0 (l.getD v1.toNat (0 : Int))) (IntKind.i64.wrap (v1 + 1)))))
  (some (.exit 0, (tri_All_s3 l v0 v1))) := (loopF_eq (N_tri_All 3) tri_All_B3 _).trans (by kernel_rfl)
theorem tri_All_a3_x0 (l : List Int) (v0 : Int) (v1 : Int) : tri_All_C3 (.exit 0) (tri_All_s3 l v0 v1) =
 some (R_tri_All (v0)) := by kernel_rfl
def tri_All (l : List Int) : Int := l.foldl (fun m a => tri_And m a) 2
theorem tri_All_spec (l : List Int) (hl : WL .int l) : tri_All_fn l = some (R_tri_All (tri_All l)) := by
  obtain ⟨lp, _⟩ := loop_fold (e := .exit 0) (L := tri_All_L3) (st := fun (m : Int) i => tri_All_s3 l m i) (l := l) (d := 0) (g := fun m a => tri_And m a) (fun _ _ => True) hl.len
    (fun m i x hi hx _ => by
      refine ⟨trivial, ?_⟩
      rw [tri_All_l3]
      simp only [cndO_eq, hi, decide_true, if_true, and_true, Int.toNat_natCast, hx]
      rw [obO_pos (by omega)])
    (fun m _ => by rw [tri_All_l3]; simp [cndO_eq]) 2 trivial
  rw [tri_All_in, loop_end lp, tri_All_a3_x0]
  rfl
def F_tri_All : FnC Un := fun args => match args with
  | [x0] => (dL .int x0).bind fun l => some ([], A_tri_All (tri_All l), O_tri_All (tri_All l))
  | _ => none
theorem ok_tri_All : FnOK 14 F_tri_All := by
  intro args ob rs os h hob
  unfold F_tri_All at h
  split at h
  · simp only [Option.bind_eq_some_iff, Option.some.injEq, Prod.mk.injEq] at h
    obtain ⟨l, e0, rfl, rfl, rfl⟩ := h
    obtain rfl := dL_eq e0
    exact ⟨fn_contractF (M := M_tri_All) rfl (tbl_ok (l1 := [(42, F_tri_And)]) (l2 := []) (l3 := []) (l4 := []) (l5 := []) ⟨ok_tri_And, trivial⟩ trivial trivial trivial trivial) Tryz.func14 (by kernel_rfl) N_tri_All 0 [.d] (fun hwf => (tri_All_spec l (wfArg hwf (a := .d (.v (.dat (U := Un) Ty.int l))) (List.mem_of_getElem? (i := 0) rfl)))), hasBody_of Tryz.func14 (by kernel_rfl) (by kernel_rfl)⟩
  · simp at h
end
end Go.Proofs.YtjmpnpkcgkhagaaGreat.B
namespace Go.Proofs.YtjmpnpkcgkhagaaGreat.B
open Go Go.RowKit
set_option maxRecDepth 1000000
def idxB (s : ByteArray) (c : Int) : Int := Lib.indexByte s.data.toList c.toNat.toUInt8
theorem indexByte_le : ∀ (l : List UInt8) (c : UInt8), Lib.indexByte l c ≤ l.length
  | [], _ => by simp [Lib.indexByte]
  | b :: l, c => by
    have := indexByte_le l c
    unfold Lib.indexByte
    rw [List.length_cons]
    repeat' split
    all_goals omega
theorem idxB_range (s : ByteArray) (c : Int) : -1 ≤ idxB s c ∧ idxB s c ≤ s.size := by
  unfold idxB
  have h1 := Lib.indexByte_ge s.data.toList c.toNat.toUInt8
  have h2 := indexByte_le s.data.toList c.toNat.toUInt8
  rw [Array.length_toList] at h2
  exact ⟨h1, h2⟩
def F_strings_IndexByte : FnC Un := fun args => match args with
  | [x0, x1] => (dStr x0).bind fun s => (dI .u8 x1).bind fun c => some ([], [.c (.s (.int .i64 (idxB s c)))], [])
  | _ => none
theorem ok_strings_IndexByte : FnOK 101 F_strings_IndexByte := by
  intro args ob rs os h hob
  unfold F_strings_IndexByte at h
  split at h
  · rename_i x0 x1
    simp only [Option.bind_eq_some_iff, Option.some.injEq, Prod.mk.injEq] at h
    obtain ⟨s, e0, c, e1, rfl, rfl, rfl⟩ := h
    obtain rfl := dStr_eq e0
    obtain rfl := dI_eq e1
    refine ⟨?_, hasBody_of Tryz.func101 (by kernel_rfl) (by kernel_rfl)⟩
    have hx := idxB_range s c
    by_cases hr : s.size ≤ 9223372036854775807
    · refine contract_scalar (oneC_i64.2 (by omega)) fun w vs St hvs => ?_
      match vs, hvs with
      | [v0, v1], ⟨h0, h1, _⟩ =>
        obtain ⟨rfl, -⟩ := drel_str h0
        obtain ⟨rfl, -⟩ := drel_int h1
        exact Tryz.strings_IndexByte s c w
    · intro w St vs hbd hvs
      match vs, hvs with
      | [v0, v1], ⟨h0, h1, _⟩ =>
        obtain ⟨rfl, g0⟩ := drel_str h0
        exact absurd g0 hr
  · simp at h
end Go.Proofs.YtjmpnpkcgkhagaaGreat.B
