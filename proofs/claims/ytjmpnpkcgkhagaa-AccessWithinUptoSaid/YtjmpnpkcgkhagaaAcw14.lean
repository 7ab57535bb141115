/- Part 14 of the proof: Sscal1 Sscal2n Sevalg. -/
import Derived.Test.YtjmpnpkcgkhagaaAcw13
namespace Go.Proofs.Ytjmpnpkcgkhagaa.B
open Go Go.RowKit
set_option maxRecDepth 100000
noncomputable section
attribute [local irreducible] awp ctxK itersK iterK retQ retGQ awf ctxF loopF
def M_value_Str : Mc Un := mach (tbl []) (tbl []) (tbl []) (tbl []) (tbl [])
def A_value_Str (r : Val) : List (A Un) := [.agg (encC Ty.val r)]
def O_value_Str (_r : Val) : List (Ob Un) := []
def R_value_Str (r : Val) : RF Un := (A_value_Str r, O_value_Str r)
def N_value_Str : Nat → NS := fun l => (look l []).getD ⟨[], [], [], [], [], false⟩
def value_Str_fn (s : ByteArray) : Option (RF Un) := awf M_value_Str N_value_Str (bodyOf Try.f43) (entry Try.f43.ntmps 0 [.d (.v (cs s))]) (retF M_value_Str Try.f43.results.toList [.d])
theorem value_Str_in (s : ByteArray) : value_Str_fn s =
 some (R_value_Str ({ kind := (3 : Int), n := (0 : Int), s := s })) := by kernel_rfl
def value_Str (s : ByteArray) : Val :=
  ({ kind := (3 : Int), n := (0 : Int), s := s })
theorem value_Str_eq (s : ByteArray) : value_Str_fn s = some (R_value_Str (value_Str s)) := by rw [value_Str_in]; unfold value_Str; simp only [cndO_eq]; repeat (first | rfl | split)
def F_value_Str : FnC Un := fun args => match args with
  | [x0] => (dStr x0).bind fun s => some ([], A_value_Str (value_Str s), O_value_Str (value_Str s))
  | _ => none
theorem ok_value_Str : FnOK 43 F_value_Str := by
  intro args ob rs os h hob
  unfold F_value_Str at h
  split at h
  · simp only [Option.bind_eq_some_iff, Option.some.injEq, Prod.mk.injEq] at h
    obtain ⟨s, e0, rfl, rfl, rfl⟩ := h
    obtain rfl := dStr_eq e0
    exact ⟨fn_contractF (M := M_value_Str) rfl (tbl_ok (l1 := []) (l2 := []) (l3 := []) (l4 := []) (l5 := []) trivial trivial trivial trivial trivial) Try.func43 (by kernel_rfl) N_value_Str 0 [.d] (fun hwf => (value_Str_eq s)), hasBody_of Try.func43 (by kernel_rfl) (by kernel_rfl)⟩
  · simp at h
def M_kinds1 : Mc Un := mach (tbl []) (tbl []) (tbl []) (tbl []) (tbl [])
def A_kinds1 (r : Bool) : List (A Un) := [.c (.s (.bool r))]
def O_kinds1 (_r : Bool) : List (Ob Un) := []
def R_kinds1 (r : Bool) : RF Un := (A_kinds1 r, O_kinds1 r)
def N_kinds1 : Nat → NS := fun l => (look l []).getD ⟨[], [], [], [], [], false⟩
def kinds1_fn (v : Val) (kind : Int) : Option (RF Un) := awf M_kinds1 N_kinds1 (bodyOf Try.f55) (entry Try.f55.ntmps 0 [.d (.agg (enc Ty.val v)), .box [.v (.s (.int .i64 kind))]]) (retF M_kinds1 Try.f55.results.toList [.d])
theorem kinds1_in (v : Val) (kind : Int) : kinds1_fn v kind =
 some (R_kinds1 (v.kind != kind)) := by kernel_rfl
def kinds1 (v : Val) (kind : Int) : Bool := v.kind != kind
theorem kinds1_spec (v : Val) (kind : Int) (_hv : WS .val v) (_hk : WI kind) (_h : True) : kinds1_fn v kind = some (R_kinds1 (kinds1 v kind)) := by
  rw [kinds1_in]; rfl
def L_kinds1 : List (List (DC Un)) → Option (FV Un) := fun dl => match dl with
  | [b0] => (bI .i64 b0).bind fun kind => some (fvo_S_val_to_b (fun v => True) (fun v => kinds1 v kind))
  | _ => none
theorem okL_kinds1 : ClOK 55 L_kinds1 := by
  refine ⟨hasBody_of Try.func55 (by kernel_rfl) (by kernel_rfl), fun dl φ args ob rs hF hφ hob => ?_⟩
  unfold L_kinds1 at hF
  split at hF
  · simp only [Option.bind_eq_some_iff, Option.some.injEq] at hF
    obtain ⟨kind, g0, hE⟩ := hF
    subst hE
    obtain rfl := bI_eq g0
    unfold fvo_S_val_to_b at hφ
    split at hφ
    · simp only [Option.bind_eq_some_iff, Option.some.injEq, Prod.mk.injEq] at hφ
      obtain ⟨v, e0, rfl, rfl⟩ := hφ
      simp only [List.map_cons, List.map_nil, List.cons_append, List.nil_append]
      rw [dS_eq e0]
      exact Contract.data (fn_contractF (M := M_kinds1) rfl (tbl_ok (l1 := []) (l2 := []) (l3 := []) (l4 := []) (l5 := []) trivial trivial trivial trivial trivial) Try.func55 (by kernel_rfl) N_kinds1 0 [.d] (fun hwf => (kinds1_spec v kind (wfArg hwf (a := .d (.agg (enc Ty.val v))) (List.mem_of_getElem? (i := 0) rfl)) (wfArg hwf (a := .box [.v (.s (.int .i64 kind))]) (List.mem_of_getElem? (i := 1) rfl)) (hob _ (List.mem_of_getElem? (i := 0) rfl)))))
    · simp at hφ
  · simp at hF
def M_scalar_kinds : Mc Un := mach (tbl [(54, F_conf_vals)]) (tbl []) (tbl [(55, L_kinds1)]) (tbl []) (tbl [])
def A_scalar_kinds (r : Bool) : List (A Un) := [.c (.s (.bool r))]
def O_scalar_kinds (_r : Bool) : List (Ob Un) := []
def R_scalar_kinds (r : Bool) : RF Un := (A_scalar_kinds r, O_scalar_kinds r)
def N_scalar_kinds : Nat → NS := fun l => (look l []).getD ⟨[], [], [], [], [], false⟩
def scalar_kinds_fn (l : List Val) (kind : Int) : Option (RF Un) := awf M_scalar_kinds N_scalar_kinds (bodyOf Try.f36) (entry Try.f36.ntmps 0 [.d (.v (.dat (U := Un) Ty.val l)), .d (.v (.s (.int .i64 kind)))]) (retF M_scalar_kinds Try.f36.results.toList [.d])
theorem scalar_kinds_in (l : List Val) (kind : Int) : scalar_kinds_fn l kind =
 obO ((fvo_S_val_to_b (fun v => True) fun v => kinds1 v kind) = fvo_S_val_to_b (po_S_val_to_b (fvo_S_val_to_b (fun v => True) fun v => kinds1 v kind)) (pf_S_val_to_b (fvo_S_val_to_b (fun v => True) fun v => kinds1 v kind)))
  (obO (allO_vals (po_S_val_to_b (fvo_S_val_to_b (fun v => True) fun v => kinds1 v kind)) l)
   (some (R_scalar_kinds (!conf_vals l (po_S_val_to_b (fvo_S_val_to_b (fun v => True) fun v => kinds1 v kind)) (pf_S_val_to_b (fvo_S_val_to_b (fun v => True) fun v => kinds1 v kind)))))) := by kernel_rfl
def scalar_kinds (l : List Val) (kind : Int) : Bool := l.all fun v => v.kind == kind
theorem scalar_kinds_spec (l : List Val) (kind : Int) (_hl : WL .val l) (_hk : WI kind) : scalar_kinds_fn l kind = some (R_scalar_kinds (scalar_kinds l kind)) := by
  rw [scalar_kinds_in]
  simp only [pofvo_S_val_to_b, pffvo_S_val_to_b]
  rw [obO_pos trivial, obO_pos (show allO_vals _ l from fun _ _ => trivial)]
  unfold scalar_kinds conf_vals kinds1
  congr 2
  clear _hl
  induction l with
  | nil => rfl
  | cons x l ih => rw [List.any_cons, List.all_cons, Bool.not_or, ih]; simp [bne]
def F_scalar_kinds : FnC Un := fun args => match args with
  | [x0, x1] => (dL .val x0).bind fun l => (dI .i64 x1).bind fun kind => some ([], A_scalar_kinds (scalar_kinds l kind), O_scalar_kinds (scalar_kinds l kind))
  | _ => none
theorem ok_scalar_kinds : FnOK 36 F_scalar_kinds := by
  intro args ob rs os h hob
  unfold F_scalar_kinds at h
  split at h
  · simp only [Option.bind_eq_some_iff, Option.some.injEq, Prod.mk.injEq] at h
    obtain ⟨l, e0, kind, e1, rfl, rfl, rfl⟩ := h
    obtain rfl := dL_eq e0
    obtain rfl := dI_eq e1
    exact ⟨fn_contractF (M := M_scalar_kinds) rfl (tbl_ok (l1 := [(54, F_conf_vals)]) (l2 := []) (l3 := [(55, L_kinds1)]) (l4 := []) (l5 := []) ⟨ok_conf_vals, trivial⟩ trivial ⟨okL_kinds1, trivial⟩ trivial trivial) Try.func36 (by kernel_rfl) N_scalar_kinds 0 [.d] (fun hwf => (scalar_kinds_spec l kind (wfArg hwf (a := .d (.v (.dat (U := Un) Ty.val l))) (List.mem_of_getElem? (i := 0) rfl)) (wfArg hwf (a := .d (.v (.s (.int .i64 kind)))) (List.mem_of_getElem? (i := 1) rfl)))), hasBody_of Try.func36 (by kernel_rfl) (by kernel_rfl)⟩
  · simp at h
def M_scalar_told : Mc Un := mach (tbl [(12, F_value_Num)]) (tbl []) (tbl []) (tbl []) (tbl [])
def A_scalar_told (r : Val) : List (A Un) := [.agg (encC Ty.val r)]
def O_scalar_told (_r : Val) : List (Ob Un) := []
def R_scalar_told (r : Val) : RF Un := (A_scalar_told r, O_scalar_told r)
def N_scalar_told : Nat → NS := fun l => (look l []).getD ⟨[], [], [], [], [], false⟩
def scalar_told_fn (n : Int) (ok : Bool) : Option (RF Un) := awf M_scalar_told N_scalar_told (bodyOf Try.f37) (entry Try.f37.ntmps 0 [.d (.v (.s (.int .i64 n))), .d (.v (cb ok))]) (retF M_scalar_told Try.f37.results.toList [.d])
theorem scalar_told_in (n : Int) (ok : Bool) : scalar_told_fn n ok =
 cndO (!ok)
  (some (R_scalar_told (zeroVal)))
  (some (R_scalar_told (value_Num n))) := by kernel_rfl
def scalar_told (n : Int) (ok : Bool) : Val :=
  if (!ok) = true then
   (zeroVal)
  else
   (value_Num n)
theorem scalar_told_eq (n : Int) (ok : Bool) : scalar_told_fn n ok = some (R_scalar_told (scalar_told n ok)) := by rw [scalar_told_in]; unfold scalar_told; simp only [cndO_eq]; repeat (first | rfl | split)
def F_scalar_told : FnC Un := fun args => match args with
  | [x0, x1] => (dI .i64 x0).bind fun n => (dB x1).bind fun ok => some ([], A_scalar_told (scalar_told n ok), O_scalar_told (scalar_told n ok))
  | _ => none
theorem ok_scalar_told : FnOK 37 F_scalar_told := by
  intro args ob rs os h hob
  unfold F_scalar_told at h
  split at h
  · simp only [Option.bind_eq_some_iff, Option.some.injEq, Prod.mk.injEq] at h
    obtain ⟨n, e0, ok, e1, rfl, rfl, rfl⟩ := h
    obtain rfl := dI_eq e0
    obtain rfl := dB_eq e1
    exact ⟨fn_contractF (M := M_scalar_told) rfl (tbl_ok (l1 := [(12, F_value_Num)]) (l2 := []) (l3 := []) (l4 := []) (l5 := []) ⟨ok_value_Num, trivial⟩ trivial trivial trivial trivial) Try.func37 (by kernel_rfl) N_scalar_told 0 [.d] (fun hwf => (scalar_told_eq n ok)), hasBody_of Try.func37 (by kernel_rfl) (by kernel_rfl)⟩
  · simp at h
def M_scalar_both : Mc Un := mach (tbl [(19, F_tri_From), (39, F_tri_Value)]) (tbl []) (tbl []) (tbl []) (tbl [])
def A_scalar_both (r : Val) : List (A Un) := [.agg (encC Ty.val r)]
def O_scalar_both (_r : Val) : List (Ob Un) := []
def R_scalar_both (r : Val) : RF Un := (A_scalar_both r, O_scalar_both r)
def N_scalar_both : Nat → NS := fun l => (look l []).getD ⟨[], [], [], [], [], false⟩
def scalar_both_fn (f : Int → Int → Int) (a : Val) (b : Val) : Option (RF Un) := awf M_scalar_both N_scalar_both (bodyOf Try.f45) (entry Try.f45.ntmps 0 [.fn (fv_i_i64_i_i64_to_i_i64 f), .d (.agg (enc Ty.val a)), .d (.agg (enc Ty.val b))]) (retF M_scalar_both Try.f45.results.toList [.d])
theorem scalar_both_in (f : Int → Int → Int) (a : Val) (b : Val) : scalar_both_fn f a b =
 some (R_scalar_both (tri_Value (f (tri_From a) (tri_From b)))) := by kernel_rfl
def scalar_both (f : Int → Int → Int) (a b : Val) : Val := tri_Value (f (tri_From a) (tri_From b))
theorem scalar_both_spec (f : Int → Int → Int) (a b : Val) (_ha : WS .val a) (_hb : WS .val b) : scalar_both_fn f a b = some (R_scalar_both (scalar_both f a b)) := by
  rw [scalar_both_in]; rfl
def F_scalar_both : FnC Un := fun args => match args with
  | [x0, x1, x2] => (dF x0).bind fun f => (dS .val x1).bind fun a => (dS .val x2).bind fun b => some ([f = (fv_i_i64_i_i64_to_i_i64 (pf_i_i64_i_i64_to_i_i64 f))], A_scalar_both (scalar_both (pf_i_i64_i_i64_to_i_i64 f) a b), O_scalar_both (scalar_both (pf_i_i64_i_i64_to_i_i64 f) a b))
  | _ => none
theorem ok_scalar_both : FnOK 45 F_scalar_both := by
  intro args ob rs os h hob
  unfold F_scalar_both at h
  split at h
  · simp only [Option.bind_eq_some_iff, Option.some.injEq, Prod.mk.injEq] at h
    obtain ⟨f, e0, a, e1, b, e2, rfl, rfl, rfl⟩ := h
    obtain rfl := dF_eq e0
    obtain rfl := dS_eq e1
    obtain rfl := dS_eq e2
    have hfv0 := hob _ (List.mem_of_getElem? (i := 0) rfl)
    generalize pf_i_i64_i_i64_to_i_i64 f = pp0 at *
    subst hfv0
    exact ⟨fn_contractF (M := M_scalar_both) rfl (tbl_ok (l1 := [(19, F_tri_From), (39, F_tri_Value)]) (l2 := []) (l3 := []) (l4 := []) (l5 := []) ⟨ok_tri_From, ok_tri_Value, trivial⟩ trivial trivial trivial trivial) Try.func45 (by kernel_rfl) N_scalar_both 0 [.d] (fun hwf => (scalar_both_spec pp0 a b (wfArg hwf (a := .d (.agg (enc Ty.val a))) (List.mem_of_getElem? (i := 1) rfl)) (wfArg hwf (a := .d (.agg (enc Ty.val b))) (List.mem_of_getElem? (i := 2) rfl)))), hasBody_of Try.func45 (by kernel_rfl) (by kernel_rfl)⟩
  · simp at h
def M_scalar_among : Mc Un := mach (tbl [(44, F_scalar_compared), (19, F_tri_From), (65, F_tri_Any), (39, F_tri_Value)]) (tbl []) (tbl []) (tbl []) (tbl [])
def A_scalar_among (r : Val) : List (A Un) := [.agg (encC Ty.val r)]
def O_scalar_among (_r : Val) : List (Ob Un) := []
def R_scalar_among (r : Val) : RF Un := (A_scalar_among r, O_scalar_among r)
def N_scalar_among : Nat → NS := fun l => (look l [(3, { ts := bl 25 1844, bs := bl 25 20, nm := [(.sl 5, 100)] })]).getD ⟨[], [], [], [], [], false⟩
def scalar_among_s3 (v : Val) (l : List Val) (v0 : Int) (v1 : List Int) : S Un := (st 25 25 101 0 [(2, ax 2), (4, ax 4), (5, ao 100), (8, al .val l), (9, ai (↑l.length : Int)), (10, ai v0)] [(2, bg .val v), (4, bg .val zeroVal)] [(100, some ⟨(0 : Nat), Ty.int, v1, some (0 : Nat), true⟩)])
def scalar_among_B3 : Code := sub (bodyOf Try.f49) [1, 1, 0, 1, 2, 2]
def scalar_among_L3 : S Un → Option (EX Un) := loopF (N_scalar_among 3) (fun s Q => awf M_scalar_among N_scalar_among scalar_among_B3 s Q)
def scalar_among_C3 : Exit → S Un → Option (RF Un) := ctxF M_scalar_among N_scalar_among (bodyOf Try.f49) [1, 1, 0, 1, 2] (retF M_scalar_among Try.f49.results.toList [.d])
def scalar_among_fn (v : Val) (l : List Val) : Option (RF Un) := awf M_scalar_among N_scalar_among (bodyOf Try.f49) (entry Try.f49.ntmps 1 [.d (.agg (enc Ty.val v)), .d (.v (.dat (U := Un) Ty.val l))]) (retF M_scalar_among Try.f49.results.toList [.d])
theorem scalar_among_in (v : Val) (l : List Val) : scalar_among_fn v l =
 (scalar_among_L3 (scalar_among_s3 v l (0 : Int) ([]))).bind (thenX scalar_among_C3) := by kernel_rfl
theorem scalar_among_l3 (v : Val) (l : List Val) (v0 : Int) (v1 : List Int) : scalar_among_L3 (scalar_among_s3 v l v0 v1) =
 cndO (decide (v0 < (↑l.length : Int)))
  (obO (0 ≤ v0 ∧ v0 < (↑l.length : Int))
   (obO ((11 : Int) ≤ (11 : Int) ∧ (11 : Int) ≤ (16 : Int))
    (obO ((v1.length + [tri_From (cmpO (11 : Int) v (l.getD v0.toNat zeroVal))].length) * (8 : Nat) ≤ roomB)
     (scalar_among_L3 (scalar_among_s3 v l (IntKind.i64.wrap (v0 + 1)) (v1 ++ [tri_From (cmpO (11 : Int) v (l.getD v0.toNat zeroVal))]))))))
  (some (.exit 0, (scalar_among_s3 v l v0 v1))) := (loopF_eq (N_scalar_among 3) scalar_among_B3 _).trans (by kernel_rfl)
theorem scalar_among_a3_x0 (v : Val) (l : List Val) (v0 : Int) (v1 : List Int) : scalar_among_C3 (.exit 0) (scalar_among_s3 v l v0 v1) =
 some (R_scalar_among (tri_Value (tri_Any v1))) := by kernel_rfl
def scalar_among (v : Val) (l : List Val) : Val := tri_Value (tri_Any (l.map fun x => tri_From (cmpO 11 v x)))
theorem snoc_fold {α β : Type} (f : α → β) : ∀ (l : List α) (o : List β), l.foldl (fun o x => o ++ [f x]) o = o ++ l.map f
  | [], o => by simp
  | x :: l, o => by rw [List.foldl_cons, snoc_fold f l]; simp
theorem scalar_among_spec (v : Val) (l : List Val) (_hv : WS .val v) (hl : WL .val l) (h : l.length ≤ 2000000) : scalar_among_fn v l = some (R_scalar_among (scalar_among v l)) := by
  obtain ⟨lp, _⟩ := loop_fold (e := .exit 0) (L := scalar_among_L3) (st := fun (o : List Int) i => scalar_among_s3 v l i o) (l := l) (d := zeroVal) (g := fun o x => o ++ [tri_From (cmpO 11 v x)]) (fun i o => o.length = i) hl.len
    (fun o i x hi hx hI => by
      have hI' : o.length = i := hI
      refine ⟨by show (o ++ [_]).length = i + 1; rw [List.length_append, List.length_singleton]; omega, ?_⟩
      rw [scalar_among_l3]
      simp only [cndO_eq, hi, decide_true, if_true, and_true, Int.toNat_natCast, hx]
      rw [obO_pos (by omega), obO_pos (by omega), obO_pos (by unfold roomB; rw [List.length_singleton]; omega)])
    (fun o _ => by rw [scalar_among_l3]; simp [cndO_eq]) [] rfl
  rw [snoc_fold, List.nil_append] at lp
  rw [scalar_among_in]
  refine (loop_end lp).trans ?_
  rw [scalar_among_a3_x0]
  rfl
def F_scalar_among : FnC Un := fun args => match args with
  | [x0, x1] => (dS .val x0).bind fun v => (dL .val x1).bind fun l => some ([l.length ≤ 2000000], A_scalar_among (scalar_among v l), O_scalar_among (scalar_among v l))
  | _ => none
theorem ok_scalar_among : FnOK 49 F_scalar_among := by
  intro args ob rs os h hob
  unfold F_scalar_among at h
  split at h
  · simp only [Option.bind_eq_some_iff, Option.some.injEq, Prod.mk.injEq] at h
    obtain ⟨v, e0, l, e1, rfl, rfl, rfl⟩ := h
    obtain rfl := dS_eq e0
    obtain rfl := dL_eq e1
    exact ⟨fn_contractF (M := M_scalar_among) rfl (tbl_ok (l1 := [(44, F_scalar_compared), (19, F_tri_From), (65, F_tri_Any), (39, F_tri_Value)]) (l2 := []) (l3 := []) (l4 := []) (l5 := []) ⟨ok_scalar_compared, ok_tri_From, ok_tri_Any, ok_tri_Value, trivial⟩ trivial trivial trivial trivial) Try.func49 (by kernel_rfl) N_scalar_among 1 [.d] (fun hwf => (scalar_among_spec v l (wfArg hwf (a := .d (.agg (enc Ty.val v))) (List.mem_of_getElem? (i := 0) rfl)) (wfArg hwf (a := .d (.v (.dat (U := Un) Ty.val l))) (List.mem_of_getElem? (i := 1) rfl)) (hob _ (List.mem_of_getElem? (i := 0) rfl)))), hasBody_of Try.func49 (by kernel_rfl) (by kernel_rfl)⟩
  · simp at h
def M_scalar_cases : Mc Un := mach (tbl [(19, F_tri_From)]) (tbl []) (tbl []) (tbl []) (tbl [])
def A_scalar_cases (r : Val) : List (A Un) := [.agg (encC Ty.val r)]
def O_scalar_cases (_r : Val) : List (Ob Un) := []
def R_scalar_cases (r : Val) : RF Un := (A_scalar_cases r, O_scalar_cases r)
def N_scalar_cases : Nat → NS := fun l => (look l [(1, { ts := bl 23 5, bs := bl 23 4, nm := [], gb := [2] })]).getD ⟨[], [], [], [], [], false⟩
def scalar_cases_s1 (b2 : Val) (v0 : List Val) : S Un := (st 23 23 92 0 [(0, al .val v0), (2, ax 2)] [(2, bg .val b2)] [])
def scalar_cases_B1 : Code := sub (bodyOf Try.f50) [1, 0, 2, 2]
def scalar_cases_L1 : S Un → Option (EX Un) := loopF (N_scalar_cases 1) (fun s Q => awf M_scalar_cases N_scalar_cases scalar_cases_B1 s Q)
def scalar_cases_C1 : Exit → S Un → Option (RF Un) := ctxF M_scalar_cases N_scalar_cases (bodyOf Try.f50) [1, 0, 2] (retF M_scalar_cases Try.f50.results.toList [.d])
def scalar_cases_fn (l : List Val) : Option (RF Un) := awf M_scalar_cases N_scalar_cases (bodyOf Try.f50) (entry Try.f50.ntmps 0 [.d (.v (.dat (U := Un) Ty.val l))]) (retF M_scalar_cases Try.f50.results.toList [.d])
theorem scalar_cases_in (l : List Val) : scalar_cases_fn l =
 (scalar_cases_L1 (scalar_cases_s1 zeroVal l)).bind (thenX scalar_cases_C1) := by kernel_rfl
theorem scalar_cases_l1 (b2 : Val) (v0 : List Val) : scalar_cases_L1 (scalar_cases_s1 b2 v0) =
 cndO (decide ((↑v0.length : Int) > (1 : Int)))
  (obO ((0 : Int) ≤ (0 : Int) ∧ (0 : Int) < (↑v0.length : Int))
   (cndO (tri_From (v0.getD 0 zeroVal) == 2)
    (obO ((0 : Int) ≤ (1 : Int) ∧ (1 : Int) < (↑v0.length : Int))
     (some (.ret, (scalar_cases_s1 (v0.getD 1 zeroVal) v0))))
    (obO ((0 : Int) ≤ (2 : Int) ∧ (2 : Int) ≤ (↑v0.length : Int))
     (scalar_cases_L1 (scalar_cases_s1 b2 (List.drop 2 v0))))))
  (some (.exit 0, (scalar_cases_s1 b2 v0))) := (loopF_eq (N_scalar_cases 1) scalar_cases_B1 _).trans (by kernel_rfl)
theorem scalar_cases_a1_ret (b2 : Val) (v0 : List Val) : scalar_cases_C1 .ret (scalar_cases_s1 b2 v0) =
 some (R_scalar_cases (b2)) := by kernel_rfl
theorem scalar_cases_a1_x0 (b2 : Val) (v0 : List Val) : scalar_cases_C1 (.exit 0) (scalar_cases_s1 b2 v0) =
 cndO ((↑v0.length : Int) == (1 : Int))
  (obO ((0 : Int) ≤ (0 : Int) ∧ (0 : Int) < (↑v0.length : Int))
   (some (R_scalar_cases (v0.getD 0 zeroVal))))
  (some (R_scalar_cases (zeroVal))) := by kernel_rfl
def casesL : List Val → Val
  | [] => zeroVal
  | [x] => x
  | c :: v :: r => if tri_From c = 2 then v else casesL r
def scalar_cases (l : List Val) : Val := casesL l
theorem cases_loop : ∀ (n : Nat) (l : List Val), l.length ≤ n → (scalar_cases_L1 (scalar_cases_s1 zeroVal l)).bind (thenX scalar_cases_C1) = some (R_scalar_cases (casesL l)) := by
  intro n
  induction n using Nat.strongRecOn with
  | ind n ih =>
    intro l hn
    match l, hn with
    | [], _ =>
      have e : scalar_cases_L1 (scalar_cases_s1 zeroVal []) = some (.exit 0, scalar_cases_s1 zeroVal []) := by rw [scalar_cases_l1]; rfl
      rw [loop_end e, scalar_cases_a1_x0]; rfl
    | [x], _ =>
      have e : scalar_cases_L1 (scalar_cases_s1 zeroVal [x]) = some (.exit 0, scalar_cases_s1 zeroVal [x]) := by rw [scalar_cases_l1]; rfl
      rw [loop_end e, scalar_cases_a1_x0, cndO_eq, if_pos (by simp), obO_pos (by simp)]; rfl
    | c :: v :: r, hn =>
      simp only [List.length_cons] at hn
      have hg0 : (c :: v :: r).getD 0 zeroVal = c := rfl
      have hg1 : (c :: v :: r).getD 1 zeroVal = v := rfl
      have hd : List.drop 2 (c :: v :: r) = r := rfl
      have hl : ((c :: v :: r).length : Int) = (r.length : Int) + 2 := by simp only [List.length_cons]; omega
      by_cases h : tri_From c = 2
      · have e : scalar_cases_L1 (scalar_cases_s1 zeroVal (c :: v :: r)) = some (.ret, scalar_cases_s1 v (c :: v :: r)) := by
          rw [scalar_cases_l1, hg0, hg1, hl, cndO_eq, if_pos (by simp; omega), obO_pos (by omega), cndO_eq, if_pos (by simpa using h), obO_pos (by omega)]
        rw [loop_end e, scalar_cases_a1_ret]
        simp only [casesL]
        rw [if_pos h]
      · have e : scalar_cases_L1 (scalar_cases_s1 zeroVal (c :: v :: r)) = scalar_cases_L1 (scalar_cases_s1 zeroVal r) := by
          rw [scalar_cases_l1, hg0, hg1, hl, hd, cndO_eq, if_pos (by simp; omega), obO_pos (by omega), cndO_eq, if_neg (by simpa using h), obO_pos (by omega)]
        rw [e, ih r.length (by omega) r (Nat.le_refl _)]
        simp only [casesL]
        rw [if_neg h]
theorem scalar_cases_spec (l : List Val) (_hl : WL .val l) : scalar_cases_fn l = some (R_scalar_cases (scalar_cases l)) := by
  rw [scalar_cases_in]
  exact cases_loop _ l (Nat.le_refl _)
def F_scalar_cases : FnC Un := fun args => match args with
  | [x0] => (dL .val x0).bind fun l => some ([], A_scalar_cases (scalar_cases l), O_scalar_cases (scalar_cases l))
  | _ => none
theorem ok_scalar_cases : FnOK 50 F_scalar_cases := by
  intro args ob rs os h hob
  unfold F_scalar_cases at h
  split at h
  · simp only [Option.bind_eq_some_iff, Option.some.injEq, Prod.mk.injEq] at h
    obtain ⟨l, e0, rfl, rfl, rfl⟩ := h
    obtain rfl := dL_eq e0
    exact ⟨fn_contractF (M := M_scalar_cases) rfl (tbl_ok (l1 := [(19, F_tri_From)]) (l2 := []) (l3 := []) (l4 := []) (l5 := []) ⟨ok_tri_From, trivial⟩ trivial trivial trivial trivial) Try.func50 (by kernel_rfl) N_scalar_cases 0 [.d] (fun hwf => (scalar_cases_spec l (wfArg hwf (a := .d (.v (.dat (U := Un) Ty.val l))) (List.mem_of_getElem? (i := 0) rfl)))), hasBody_of Try.func50 (by kernel_rfl) (by kernel_rfl)⟩
  · simp at h
def M_called1 : Mc Un := mach (tbl []) (tbl []) (tbl []) (tbl []) (tbl [])
def A_called1 (r : Bool) : List (A Un) := [.c (.s (.bool r))]
def O_called1 (_r : Bool) : List (Ob Un) := []
def R_called1 (r : Bool) : RF Un := (A_called1 r, O_called1 r)
def N_called1 : Nat → NS := fun l => (look l []).getD ⟨[], [], [], [], [], false⟩
def called1_fn (v : Val) : Option (RF Un) := awf M_called1 N_called1 (bodyOf Try.f67) (entry Try.f67.ntmps 0 [.d (.agg (enc Ty.val v))]) (retF M_called1 Try.f67.results.toList [.d])
theorem called1_in (v : Val) : called1_fn v =
 some (R_called1 (v.kind != 0)) := by kernel_rfl
def called1 (v : Val) : Bool :=
  (v.kind != (0 : Int))
theorem called1_eq (v : Val) : called1_fn v = some (R_called1 (called1 v)) := by rw [called1_in]; unfold called1; simp only [cndO_eq]; repeat (first | rfl | split)
def F_called1 : FnC Un := fun args => match args with
  | [x0] => (dS .val x0).bind fun v => some ([], A_called1 (called1 v), O_called1 (called1 v))
  | _ => none
theorem ok_called1 : FnOK 67 F_called1 := by
  intro args ob rs os h hob
  unfold F_called1 at h
  split at h
  · simp only [Option.bind_eq_some_iff, Option.some.injEq, Prod.mk.injEq] at h
    obtain ⟨v, e0, rfl, rfl, rfl⟩ := h
    obtain rfl := dS_eq e0
    exact ⟨fn_contractF (M := M_called1) rfl (tbl_ok (l1 := []) (l2 := []) (l3 := []) (l4 := []) (l5 := []) trivial trivial trivial trivial trivial) Try.func67 (by kernel_rfl) N_called1 0 [.d] (fun hwf => (called1_eq v)), hasBody_of Try.func67 (by kernel_rfl) (by kernel_rfl)⟩
  · simp at h
def V_called1 : FV Un := fvo_S_val_to_b (fun v => True) (fun v => called1 v)
theorem okV_called1 : FvOK 67 V_called1 := by
  refine ⟨hasBody_of Try.func67 (by kernel_rfl) (by kernel_rfl), fun args ob rs h hob => ?_⟩
  unfold V_called1 fvo_S_val_to_b at h
  split at h
  · simp only [Option.bind_eq_some_iff, Option.some.injEq, Prod.mk.injEq] at h
    obtain ⟨v, e0, rfl, rfl⟩ := h
    simp only [List.map_cons, List.map_nil]
    rw [dS_eq e0]
    refine Contract.data (ok_called1 _ ([]) _ _ (?_ : F_called1 _ = some _) (by simp)).1
    unfold F_called1
    simp only [dSk_mk]
    rfl
  · simp at h
def M_scalar_called : Mc Un := mach (tbl [(66, F_idxf_vals), (62, F_value_Compare), (38, F_num_Neg), (37, F_scalar_told), (28, F_num_In), (12, F_value_Num), (68, F_scalar_turned), (43, F_value_Str)]) (tbl [(67, V_called1)]) (tbl []) (tbl []) (tbl [])
def A_scalar_called (r : Val) : List (A Un) := [.agg (encC Ty.val r)]
def O_scalar_called (_r : Val) : List (Ob Un) := []
def R_scalar_called (r : Val) : RF Un := (A_scalar_called r, O_scalar_called r)
def N_scalar_called : Nat → NS := fun l => (look l []).getD ⟨[], [], [], [], [], false⟩
def scalar_called_fn (name : ByteArray) (l : List Val) : Option (RF Un) := awf M_scalar_called N_scalar_called (bodyOf Try.f51) (entry Try.f51.ntmps 0 [.d (.v (cs name)), .d (.v (.dat (U := Un) Ty.val l))]) (retF M_scalar_called Try.f51.results.toList [.d])
def scalar_called_t1 (name : ByteArray) (l : List Val) : Option (RF Un) :=
 obO ((0 : Int) ≤ (0 : Int) ∧ (0 : Int) < (↑l.length : Int))
  (cndO ((l.getD 0 zeroVal).kind != 3)
   (some (R_scalar_called (zeroVal)))
   (cndO (name.toList == (ByteArray.mk #[108, 101, 110, 103, 116, 104]).toList)
    (obO ((0 : Int) ≤ (0 : Int) ∧ (0 : Int) < (↑l.length : Int))
     (some (R_scalar_called (value_Num (↑(l.getD 0 zeroVal).s.size : Int)))))
    (cndO (name.toList == (ByteArray.mk #[108, 111, 119, 101, 114]).toList)
     (obO ((0 : Int) ≤ (0 : Int) ∧ (0 : Int) < (↑l.length : Int))
      (obO ((l.getD 0 zeroVal).s.size ≤ (2000000 : Nat))
       (some (R_scalar_called (value_Str (turnS (l.getD 0 zeroVal).s (65 : Int) (32 : Int)))))))
     (cndO (name.toList == (ByteArray.mk #[117, 112, 112, 101, 114]).toList)
      (obO ((0 : Int) ≤ (0 : Int) ∧ (0 : Int) < (↑l.length : Int))
       (obO ((l.getD 0 zeroVal).s.size ≤ (2000000 : Nat))
        (some (R_scalar_called (value_Str (turnS (l.getD 0 zeroVal).s (97 : Int) (-32 : Int)))))))
      (some (R_scalar_called (zeroVal)))))))
def scalar_called_t2 (name : ByteArray) (l : List Val) : Option (RF Un) :=
 cndO ((↑l.length : Int) != (1 : Int))
  (some (R_scalar_called (zeroVal)))
  (cndO (name.toList == (ByteArray.mk #[97, 98, 115]).toList)
   (obO ((0 : Int) ≤ (0 : Int) ∧ (0 : Int) < (↑l.length : Int))
    (cndO ((l.getD 0 zeroVal).kind == 2)
     (obO ((0 : Int) ≤ (0 : Int) ∧ (0 : Int) < (↑l.length : Int))
      (cndO (decide ((l.getD 0 zeroVal).n < 0))
       (some (R_scalar_called (scalar_told (num_Neg (l.getD 0 zeroVal).n).fst (num_Neg (l.getD 0 zeroVal).n).snd)))
       (some (R_scalar_called (scalar_told (l.getD 0 zeroVal).n (num_In (l.getD 0 zeroVal).n))))))
     (scalar_called_t1 name l)))
   (scalar_called_t1 name l))
theorem scalar_called_in (name : ByteArray) (l : List Val) : scalar_called_fn name l =
 cndO (name.toList == (ByteArray.mk #[99, 111, 97, 108, 101, 115, 99, 101]).toList)
  (obO (V_called1 = fvo_S_val_to_b (po_S_val_to_b V_called1) (pf_S_val_to_b V_called1))
   (obO (allO_vals (po_S_val_to_b V_called1) l)
    (cndO (decide (idxf_vals l (po_S_val_to_b V_called1) (pf_S_val_to_b V_called1) ≥ 0))
     (obO (0 ≤ idxf_vals l (po_S_val_to_b V_called1) (pf_S_val_to_b V_called1) ∧ idxf_vals l (po_S_val_to_b V_called1) (pf_S_val_to_b V_called1) < (↑l.length : Int))
      (some (R_scalar_called (l.getD (idxf_vals l (po_S_val_to_b V_called1) (pf_S_val_to_b V_called1)).toNat zeroVal))))
     (some (R_scalar_called (zeroVal))))))
  (cndO (name.toList == (ByteArray.mk #[110, 117, 108, 108, 105, 102]).toList)
   (cndO ((↑l.length : Int) == (2 : Int))
    (obO ((0 : Int) ≤ (0 : Int) ∧ (0 : Int) < (↑l.length : Int))
     (obO ((0 : Int) ≤ (1 : Int) ∧ (1 : Int) < (↑l.length : Int))
      (cndO (!(value_Compare (l.getD 0 zeroVal) (l.getD 1 zeroVal)).snd)
       (obO ((0 : Int) ≤ (0 : Int) ∧ (0 : Int) < (↑l.length : Int))
        (some (R_scalar_called (l.getD 0 zeroVal))))
       (cndO ((value_Compare (l.getD 0 zeroVal) (l.getD 1 zeroVal)).fst != 0)
        (obO ((0 : Int) ≤ (0 : Int) ∧ (0 : Int) < (↑l.length : Int))
         (some (R_scalar_called (l.getD 0 zeroVal))))
        (some (R_scalar_called (zeroVal)))))))
    (scalar_called_t2 name l))
   (scalar_called_t2 name l)) := by kernel_rfl
def txts (l : List Val) : Prop := l.length ≤ 2000000 ∧ ∀ x ∈ l, x.s.size ≤ 2000000
def nmB (name : ByteArray) (x : ByteArray) : Bool := name.toList == x.toList
def called2 (name : ByteArray) (x : Val) : Val :=
  if x.kind ≠ 3 then zeroVal
  else if nmB name ⟨#[108, 101, 110, 103, 116, 104]⟩ = true then value_Num (x.s.size : Int)
  else if nmB name ⟨#[108, 111, 119, 101, 114]⟩ = true then value_Str (turnS x.s 65 32)
  else if nmB name ⟨#[117, 112, 112, 101, 114]⟩ = true then value_Str (turnS x.s 97 (-32))
  else zeroVal
def called3 (name : ByteArray) (l : List Val) : Val :=
  if l.length ≠ 1 then zeroVal
  else if nmB name ⟨#[97, 98, 115]⟩ = true ∧ (l.getD 0 zeroVal).kind = 2 then (if (l.getD 0 zeroVal).n < 0 then scalar_told (num_Neg (l.getD 0 zeroVal).n).1 (num_Neg (l.getD 0 zeroVal).n).2 else scalar_told (l.getD 0 zeroVal).n (num_In (l.getD 0 zeroVal).n))
  else called2 name (l.getD 0 zeroVal)
def firstV (l : List Val) : Val := if 0 ≤ idxf_vals l (fun _ => True) called1 then l.getD (idxf_vals l (fun _ => True) called1).toNat zeroVal else zeroVal
def scalar_called (name : ByteArray) (l : List Val) : Val :=
  if nmB name ⟨#[99, 111, 97, 108, 101, 115, 99, 101]⟩ = true then firstV l
  else if nmB name ⟨#[110, 117, 108, 108, 105, 102]⟩ = true ∧ l.length = 2 then (if (value_Compare (l.getD 0 zeroVal) (l.getD 1 zeroVal)).2 = true ∧ (value_Compare (l.getD 0 zeroVal) (l.getD 1 zeroVal)).1 = 0 then zeroVal else l.getD 0 zeroVal)
  else called3 name l
theorem idxf_vals_lt (s : List Val) (o : Val → Prop) (f : Val → Bool) : idxf_vals s o f < (s.length : Int) ∨ idxf_vals s o f = -1 := by
  unfold idxf_vals
  cases h : s.findIdx? f with
  | none => exact .inr rfl
  | some i =>
    obtain ⟨h1, _, _⟩ := List.findIdx?_eq_some_iff_getElem.1 h
    exact .inl (by show (i : Int) < _; omega)
theorem cndO_0 {β : Type} (x y : Option β) : cndO false x y = y := rfl
theorem cndO_1 {β : Type} (x y : Option β) : cndO true x y = x := rfl
theorem called_t1 (name : ByteArray) (l : List Val) (hl : l.length = 1) (h : txts l) : scalar_called_t1 name l = some (R_scalar_called (called2 name (l.getD 0 zeroVal))) := by
  have hm : (l.getD 0 zeroVal).s.size ≤ 2000000 := h.2 _ (by rw [List.getD_eq_getElem?_getD, List.getElem?_eq_getElem (by omega)]; exact List.getElem_mem _)
  unfold scalar_called_t1 called2 nmB
  generalize l.getD 0 zeroVal = x at hm
  have p0 : ∀ y : Option (RF Un), obO ((0 : Int) ≤ (0 : Int) ∧ (0 : Int) < (l.length : Int)) y = y := fun y => obO_pos (by omega)
  have p1 : ∀ y : Option (RF Un), obO (x.s.size ≤ 2000000) y = y := fun y => obO_pos hm
  simp only [p0, p1]
  generalize (name.toList == (ByteArray.mk #[108, 101, 110, 103, 116, 104]).toList) = q1
  generalize (name.toList == (ByteArray.mk #[108, 111, 119, 101, 114]).toList) = q2
  generalize (name.toList == (ByteArray.mk #[117, 112, 112, 101, 114]).toList) = q3
  by_cases h3 : x.kind = 3
  · have e3 : (x.kind != 3) = false := by simp [h3]
    rw [e3, cndO_0, if_neg (fun e => e h3)]
    cases q1 <;> cases q2 <;> cases q3 <;> rfl
  · have e3 : (x.kind != 3) = true := by simp [h3]
    rw [e3, cndO_1, if_pos h3]
theorem called_t2 (name : ByteArray) (l : List Val) (h : txts l) : scalar_called_t2 name l = some (R_scalar_called (called3 name l)) := by
  unfold scalar_called_t2 called3
  by_cases hl : l.length = 1
  · have e0 : ((l.length : Int) != 1) = false := by rw [hl]; rfl
    rw [e0, cndO_0, if_neg (fun e => e hl), called_t1 name l hl h]
    have hb : (name.toList == (ByteArray.mk #[97, 98, 115]).toList) = nmB name ⟨#[97, 98, 115]⟩ := rfl
    rw [hb]
    cases nmB name ⟨#[97, 98, 115]⟩
    · rw [cndO_0, if_neg (fun e => by simp at e)]
    · rw [cndO_1, obO_pos (by omega)]
      by_cases hk : (l.getD 0 zeroVal).kind = 2
      · have ek : ((l.getD 0 zeroVal).kind == 2) = true := by rw [hk]; rfl
        rw [ek, cndO_1, obO_pos (by omega), if_pos ⟨rfl, hk⟩, cndO_eq]
        by_cases hn : (l.getD 0 zeroVal).n < 0
        · rw [if_pos (decide_eq_true hn), if_pos hn]
        · rw [if_neg (fun e => hn (of_decide_eq_true e)), if_neg hn]
      · have ek : ((l.getD 0 zeroVal).kind == 2) = false := by rw [beq_eq_false_iff_ne]; exact hk
        rw [ek, cndO_0, if_neg (fun e => hk e.2)]
  · have e0 : ((l.length : Int) != 1) = true := by simp; omega
    rw [e0, cndO_1, if_pos hl]
theorem scalar_called_spec (name : ByteArray) (l : List Val) (_hn : WStr name) (_hl : WL .val l) (h : txts l) : scalar_called_fn name l = some (R_scalar_called (scalar_called name l)) := by
  have o1 : po_S_val_to_b V_called1 = fun _ => True := by unfold V_called1; exact pofvo_S_val_to_b _ _
  have o2 : pf_S_val_to_b V_called1 = called1 := by unfold V_called1; exact pffvo_S_val_to_b _ _
  have o3 : V_called1 = fvo_S_val_to_b (po_S_val_to_b V_called1) (pf_S_val_to_b V_called1) := by rw [o1, o2]; rfl
  rw [scalar_called_in, obO_pos o3, o1, o2, obO_pos (show allO_vals _ l from fun _ _ => trivial), called_t2 name l h]
  unfold scalar_called firstV
  have hb : (name.toList == (ByteArray.mk #[99, 111, 97, 108, 101, 115, 99, 101]).toList) = nmB name ⟨#[99, 111, 97, 108, 101, 115, 99, 101]⟩ := rfl
  have hb2 : (name.toList == (ByteArray.mk #[110, 117, 108, 108, 105, 102]).toList) = nmB name ⟨#[110, 117, 108, 108, 105, 102]⟩ := rfl
  rw [hb, hb2]
  generalize nmB name ⟨#[99, 111, 97, 108, 101, 115, 99, 101]⟩ = q1
  generalize nmB name ⟨#[110, 117, 108, 108, 105, 102]⟩ = q2
  cases q1
  · rw [cndO_eq, if_neg (by decide), if_neg (by decide)]
    cases q2
    · rw [cndO_eq, if_neg (by decide), if_neg (fun e => by simp at e)]
    · rw [cndO_eq, if_pos rfl, cndO_eq]
      by_cases h2 : l.length = 2
      · rw [if_pos (by simp; omega), if_pos ⟨rfl, h2⟩, obO_pos (by omega), obO_pos (by omega), obO_pos (by omega)]
        cases (value_Compare (l.getD 0 zeroVal) (l.getD 1 zeroVal)).2
        · rw [if_neg (fun e => by simp at e)]; rfl
        · simp only [cndO_eq, Bool.not_true, bne_iff_ne, ne_eq]
          by_cases h5 : (value_Compare (l.getD 0 zeroVal) (l.getD 1 zeroVal)).1 = 0
          · rw [if_neg (by decide), if_neg (fun e => e h5), if_pos ⟨trivial, h5⟩]
          · rw [if_neg (by decide), if_pos h5, if_neg (fun e => h5 e.2)]
      · rw [if_neg (by simp; omega), if_neg (fun e => h2 e.2)]
  · rw [cndO_eq, if_pos rfl, if_pos rfl, cndO_eq]
    have hlt := idxf_vals_lt l (fun _ => True) called1
    by_cases h3 : 0 ≤ idxf_vals l (fun _ => True) called1
    · rw [if_pos (decide_eq_true h3), if_pos h3, obO_pos (by omega)]
    · rw [if_neg (fun e => h3 (of_decide_eq_true e)), if_neg h3]
def F_scalar_called : FnC Un := fun args => match args with
  | [x0, x1] => (dStr x0).bind fun name => (dL .val x1).bind fun l => some ([txts l], A_scalar_called (scalar_called name l), O_scalar_called (scalar_called name l))
  | _ => none
theorem ok_scalar_called : FnOK 51 F_scalar_called := by
  intro args ob rs os h hob
  unfold F_scalar_called at h
  split at h
  · simp only [Option.bind_eq_some_iff, Option.some.injEq, Prod.mk.injEq] at h
    obtain ⟨name, e0, l, e1, rfl, rfl, rfl⟩ := h
    obtain rfl := dStr_eq e0
    obtain rfl := dL_eq e1
    exact ⟨fn_contractF (M := M_scalar_called) rfl (tbl_ok (l1 := [(66, F_idxf_vals), (62, F_value_Compare), (38, F_num_Neg), (37, F_scalar_told), (28, F_num_In), (12, F_value_Num), (68, F_scalar_turned), (43, F_value_Str)]) (l2 := [(67, V_called1)]) (l3 := []) (l4 := []) (l5 := []) ⟨ok_idxf_vals, ok_value_Compare, ok_num_Neg, ok_scalar_told, ok_num_In, ok_value_Num, ok_scalar_turned, ok_value_Str, trivial⟩ ⟨okV_called1, trivial⟩ trivial trivial trivial) Try.func51 (by kernel_rfl) N_scalar_called 0 [.d] (fun hwf => (scalar_called_spec name l (wfArg hwf (a := .d (.v (cs name))) (List.mem_of_getElem? (i := 0) rfl)) (wfArg hwf (a := .d (.v (.dat (U := Un) Ty.val l))) (List.mem_of_getElem? (i := 1) rfl)) (hob _ (List.mem_of_getElem? (i := 0) rfl)))), hasBody_of Try.func51 (by kernel_rfl) (by kernel_rfl)⟩
  · simp at h
end
end Go.Proofs.Ytjmpnpkcgkhagaa.B
namespace Go.Proofs.Ytjmpnpkcgkhagaa.B
open Go Go.RowKit
set_option maxRecDepth 100000
noncomputable section
attribute [local irreducible] awp ctxK itersK iterK retQ retGQ awf ctxF loopF
theorem cndO_or {β : Type} (a b : Bool) (x y : Option β) : cndO a x (cndO b x y) = cndO (a || b) x y := by cases a <;> rfl
def applyB (op : Int) (name : ByteArray) (l : List Val) : Val :=
  if op = 3 then (if scalar_kinds l 2 = true then scalar_told (num_Neg (l.getD 0 zeroVal).n).1 (num_Neg (l.getD 0 zeroVal).n).2 else zeroVal)
  else if op = 4 then tri_Value (tri_Not (tri_From (l.getD 0 zeroVal)))
  else if op = 19 then value_Bool ((l.getD 0 zeroVal).kind == 0)
  else if op = 5 ∨ op = 6 ∨ op = 7 ∨ op = 8 ∨ op = 9 then (if scalar_kinds l 2 = true then scalar_told (twoN op (l.getD 0 zeroVal).n (l.getD 1 zeroVal).n).1 (twoN op (l.getD 0 zeroVal).n (l.getD 1 zeroVal).n).2 else zeroVal)
  else if op = 10 then (if scalar_kinds l 3 = true then (if (l.getD 0 zeroVal).s.size + (l.getD 1 zeroVal).s.size ≤ 100 then value_Str ((l.getD 0 zeroVal).s ++ (l.getD 1 zeroVal).s) else zeroVal) else zeroVal)
  else if op = 11 ∨ op = 12 ∨ op = 13 ∨ op = 14 ∨ op = 15 ∨ op = 16 then cmpO op (l.getD 0 zeroVal) (l.getD 1 zeroVal)
  else if op = 17 then scalar_both tri_And (l.getD 0 zeroVal) (l.getD 1 zeroVal)
  else if op = 18 then scalar_both tri_Or (l.getD 0 zeroVal) (l.getD 1 zeroVal)
  else if op = 20 then (if scalar_kinds l 3 = true then value_Bool (like_Match (l.getD 0 zeroVal).s (l.getD 1 zeroVal).s) else zeroVal)
  else if op = 21 then scalar_among (l.getD 0 zeroVal) (l.drop 1)
  else if op = 22 then scalar_both tri_And (cmpO 16 (l.getD 0 zeroVal) (l.getD 1 zeroVal)) (cmpO 14 (l.getD 0 zeroVal) (l.getD 2 zeroVal))
  else if op = 23 then scalar_cases l
  else if op = 24 then scalar_called name l
  else zeroVal
def cntN (op : Int) : Int × Bool := if op = 3 ∨ op = 4 ∨ op = 19 then (1, false) else if op = 22 then (3, false) else if op = 21 ∨ op = 23 then (2, true) else if op = 24 then (0, true) else (2, false)
def M_scalar_count : Mc Un := mach (tbl []) (tbl []) (tbl []) (tbl []) (tbl [])
def A_scalar_count (r : Int × Bool) : List (A Un) := [.c (.s (.int .i64 r.1)), .c (.s (.bool r.2))]
def O_scalar_count (_r : Int × Bool) : List (Ob Un) := []
def R_scalar_count (r : Int × Bool) : RF Un := (A_scalar_count r, O_scalar_count r)
def N_scalar_count : Nat → NS := fun l => (look l []).getD ⟨[], [], [], [], [], true⟩
def scalar_count_fn (op : Int) : Option (RF Un) := awf M_scalar_count N_scalar_count (bodyOf Try.f35) (entry Try.f35.ntmps 0 [.d (.v (.s (.int .i64 op)))]) (retF M_scalar_count Try.f35.results.toList [.d, .d])
theorem scalar_count_in (op : Int) : scalar_count_fn op =
 cndO (op == 3)
  (some (R_scalar_count ((1 : Int), false)))
  (cndO (op == 4)
   (some (R_scalar_count ((1 : Int), false)))
   (cndO (op == 19)
    (some (R_scalar_count ((1 : Int), false)))
    (cndO (op == 22)
     (some (R_scalar_count ((3 : Int), false)))
     (cndO (op == 21)
      (some (R_scalar_count ((2 : Int), true)))
      (cndO (op == 23)
       (some (R_scalar_count ((2 : Int), true)))
       (cndO (op == 24)
        (some (R_scalar_count ((0 : Int), true)))
        (some (R_scalar_count ((2 : Int), false))))))))) := by kernel_rfl
def scalar_count (op : Int) : Int × Bool := cntN op
theorem scalar_count_spec (op : Int) (_h : WI op) : scalar_count_fn op = some (R_scalar_count (scalar_count op)) := by
  rw [scalar_count_in]
  unfold scalar_count cntN
  simp only [cndO_or]
  simp only [cndO_eq, Bool.or_eq_true, beq_iff_eq]
  by_cases h1 : op = 3 ∨ op = 4 ∨ op = 19
  · rw [if_pos (by omega), if_pos h1]
  rw [if_neg (by omega), if_neg h1]
  by_cases h2 : op = 22
  · rw [if_pos h2, if_pos h2]
  rw [if_neg h2, if_neg h2]
  by_cases h3 : op = 21 ∨ op = 23
  · rw [if_pos (by omega), if_pos h3]
  rw [if_neg (by omega), if_neg h3]
  by_cases h4 : op = 24
  · rw [if_pos h4, if_pos h4]
  rw [if_neg h4, if_neg h4]
def F_scalar_count : FnC Un := fun args => match args with
  | [x0] => (dI .i64 x0).bind fun op => some ([], A_scalar_count (scalar_count op), O_scalar_count (scalar_count op))
  | _ => none
theorem ok_scalar_count : FnOK 35 F_scalar_count := by
  intro args ob rs os h hob
  unfold F_scalar_count at h
  split at h
  · simp only [Option.bind_eq_some_iff, Option.some.injEq, Prod.mk.injEq] at h
    obtain ⟨op, e0, rfl, rfl, rfl⟩ := h
    obtain rfl := dI_eq e0
    exact ⟨fn_contractF (M := M_scalar_count) rfl (tbl_ok (l1 := []) (l2 := []) (l3 := []) (l4 := []) (l5 := []) trivial trivial trivial trivial trivial) Try.func35 (by kernel_rfl) N_scalar_count 0 [.d, .d] (fun hwf => (scalar_count_spec op (wfArg hwf (a := .d (.v (.s (.int .i64 op)))) (List.mem_of_getElem? (i := 0) rfl)))), hasBody_of Try.func35 (by kernel_rfl) (by kernel_rfl)⟩
  · simp at h
def M_scalar_Apply : Mc Un := mach (tbl [(35, F_scalar_count), (36, F_scalar_kinds), (38, F_num_Neg), (37, F_scalar_told), (19, F_tri_From), (40, F_tri_Not), (39, F_tri_Value), (41, F_value_Bool), (42, F_scalar_two), (43, F_value_Str), (44, F_scalar_compared), (45, F_scalar_both), (48, F_like_Match), (49, F_scalar_among), (50, F_scalar_cases), (51, F_scalar_called)]) (tbl [(46, V_tri_And), (47, V_tri_Or)]) (tbl []) (tbl []) (tbl [])
def A_scalar_Apply (r : Val) : List (A Un) := [.agg (encC Ty.val r)]
def O_scalar_Apply (_r : Val) : List (Ob Un) := []
def R_scalar_Apply (r : Val) : RF Un := (A_scalar_Apply r, O_scalar_Apply r)
def N_scalar_Apply : Nat → NS := fun l => (look l []).getD ⟨[], [], [], [], [], true⟩
def scalar_Apply_c1 (op : Int) (l : List Val) := scalar_told (twoN op (l.getD 0 zeroVal).n (l.getD 1 zeroVal).n).fst (twoN op (l.getD 0 zeroVal).n (l.getD 1 zeroVal).n).snd
def scalar_Apply_c2 (l : List Val) := scalar_both (pf_i_i64_i_i64_to_i_i64 V_tri_And) (l.getD 0 zeroVal) (l.getD 1 zeroVal)
def scalar_Apply_c3 (l : List Val) := scalar_both (pf_i_i64_i_i64_to_i_i64 V_tri_Or) (l.getD 0 zeroVal) (l.getD 1 zeroVal)
def scalar_Apply_c4 (l : List Val) := scalar_both (pf_i_i64_i_i64_to_i_i64 V_tri_And) (cmpO (16 : Int) (l.getD 0 zeroVal) (l.getD 1 zeroVal)) (cmpO (14 : Int) (l.getD 0 zeroVal) (l.getD 2 zeroVal))
def scalar_Apply_fn (op : Int) (name : ByteArray) (l : List Val) : Option (RF Un) := awf M_scalar_Apply N_scalar_Apply (bodyOf Try.f30) (entry Try.f30.ntmps 0 [.d (.v (.s (.int .i64 op))), .d (.v (cs name)), .d (.v (.dat (U := Un) Ty.val l))]) (retF M_scalar_Apply Try.f30.results.toList [.d])
def scalar_Apply_t1 (op : Int) (l : List Val) : Option (RF Un) :=
 cndO (scalar_kinds l (2 : Int))
  (obO (5 ≤ op ∧ op ≤ 9)
   (obO ((0 : Int) ≤ (0 : Int) ∧ (0 : Int) < (↑l.length : Int))
    (obO ((0 : Int) ≤ (1 : Int) ∧ (1 : Int) < (↑l.length : Int))
     (some (R_scalar_Apply (scalar_Apply_c1 op l))))))
  (some (R_scalar_Apply (zeroVal)))
def scalar_Apply_t2 (op : Int) (l : List Val) : Option (RF Un) :=
 obO ((0 : Int) ≤ (0 : Int) ∧ (0 : Int) < (↑l.length : Int))
  (obO ((0 : Int) ≤ (1 : Int) ∧ (1 : Int) < (↑l.length : Int))
   (obO (11 ≤ op ∧ op ≤ 16)
    (some (R_scalar_Apply (cmpO op (l.getD 0 zeroVal) (l.getD 1 zeroVal))))))
def scalar_Apply_t3 (op : Int) (name : ByteArray) (l : List Val) : Option (RF Un) :=
 cndO (op == 3)
  (cndO (scalar_kinds l (2 : Int))
   (obO ((0 : Int) ≤ (0 : Int) ∧ (0 : Int) < (↑l.length : Int))
    (some (R_scalar_Apply (scalar_told (num_Neg (l.getD 0 zeroVal).n).fst (num_Neg (l.getD 0 zeroVal).n).snd))))
   (some (R_scalar_Apply (zeroVal))))
  (cndO (op == 4)
   (obO ((0 : Int) ≤ (0 : Int) ∧ (0 : Int) < (↑l.length : Int))
    (some (R_scalar_Apply (tri_Value (tri_Not (tri_From (l.getD 0 zeroVal)))))))
   (cndO (op == 19)
    (obO ((0 : Int) ≤ (0 : Int) ∧ (0 : Int) < (↑l.length : Int))
     (some (R_scalar_Apply (value_Bool ((l.getD 0 zeroVal).kind == 0)))))
    (cndO (op == 5)
     (scalar_Apply_t1 op l)
     (cndO (op == 6)
      (scalar_Apply_t1 op l)
      (cndO (op == 7)
       (scalar_Apply_t1 op l)
       (cndO (op == 8)
        (scalar_Apply_t1 op l)
        (cndO (op == 9)
         (scalar_Apply_t1 op l)
         (cndO (op == 10)
          (cndO (scalar_kinds l (3 : Int))
           (obO ((0 : Int) ≤ (0 : Int) ∧ (0 : Int) < (↑l.length : Int))
            (obO ((0 : Int) ≤ (1 : Int) ∧ (1 : Int) < (↑l.length : Int))
             (cndO (decide (IntKind.i64.wrap ((↑(l.getD 0 zeroVal).s.size : Int) + (↑(l.getD 1 zeroVal).s.size : Int)) ≤ 100))
              (obO ((0 : Int) ≤ (0 : Int) ∧ (0 : Int) < (↑l.length : Int))
               (obO ((0 : Int) ≤ (1 : Int) ∧ (1 : Int) < (↑l.length : Int))
                (obO ((l.getD 0 zeroVal).s.size + (l.getD 1 zeroVal).s.size ≤ (9223372036854775807 : Nat))
                 (some (R_scalar_Apply (value_Str ((l.getD 0 zeroVal).s ++ (l.getD 1 zeroVal).s)))))))
              (some (R_scalar_Apply (zeroVal))))))
           (some (R_scalar_Apply (zeroVal))))
          (cndO (op == 11)
           (scalar_Apply_t2 op l)
           (cndO (op == 12)
            (scalar_Apply_t2 op l)
            (cndO (op == 13)
             (scalar_Apply_t2 op l)
             (cndO (op == 14)
              (scalar_Apply_t2 op l)
              (cndO (op == 15)
               (scalar_Apply_t2 op l)
               (cndO (op == 16)
                (scalar_Apply_t2 op l)
                (cndO (op == 17)
                 (obO ((0 : Int) ≤ (0 : Int) ∧ (0 : Int) < (↑l.length : Int))
                  (obO ((0 : Int) ≤ (1 : Int) ∧ (1 : Int) < (↑l.length : Int))
                   (obO (V_tri_And = fv_i_i64_i_i64_to_i_i64 (pf_i_i64_i_i64_to_i_i64 V_tri_And))
                    (some (R_scalar_Apply (scalar_Apply_c2 l))))))
                 (cndO (op == 18)
                  (obO ((0 : Int) ≤ (0 : Int) ∧ (0 : Int) < (↑l.length : Int))
                   (obO ((0 : Int) ≤ (1 : Int) ∧ (1 : Int) < (↑l.length : Int))
                    (obO (V_tri_Or = fv_i_i64_i_i64_to_i_i64 (pf_i_i64_i_i64_to_i_i64 V_tri_Or))
                     (some (R_scalar_Apply (scalar_Apply_c3 l))))))
                  (cndO (op == 20)
                   (cndO (scalar_kinds l (3 : Int))
                    (obO ((0 : Int) ≤ (0 : Int) ∧ (0 : Int) < (↑l.length : Int))
                     (obO ((0 : Int) ≤ (1 : Int) ∧ (1 : Int) < (↑l.length : Int))
                      (obO ((l.getD 0 zeroVal).s.size ≤ (2000000 : Nat))
                       (obO ((l.getD 1 zeroVal).s.size ≤ (2000000 : Nat))
                        (some (R_scalar_Apply (value_Bool (like_Match (l.getD 0 zeroVal).s (l.getD 1 zeroVal).s))))))))
                    (some (R_scalar_Apply (zeroVal))))
                   (cndO (op == 21)
                    (obO ((0 : Int) ≤ (0 : Int) ∧ (0 : Int) < (↑l.length : Int))
                     (obO ((0 : Int) ≤ (1 : Int) ∧ (1 : Int) ≤ (↑l.length : Int))
                      (obO ((List.drop 1 l).length ≤ (2000000 : Nat))
                       (some (R_scalar_Apply (scalar_among (l.getD 0 zeroVal) (List.drop 1 l)))))))
                    (cndO (op == 22)
                     (obO ((0 : Int) ≤ (0 : Int) ∧ (0 : Int) < (↑l.length : Int))
                      (obO ((0 : Int) ≤ (1 : Int) ∧ (1 : Int) < (↑l.length : Int))
                       (obO ((11 : Int) ≤ (16 : Int) ∧ (16 : Int) ≤ (16 : Int))
                        (obO ((0 : Int) ≤ (0 : Int) ∧ (0 : Int) < (↑l.length : Int))
                         (obO ((0 : Int) ≤ (2 : Int) ∧ (2 : Int) < (↑l.length : Int))
                          (obO ((11 : Int) ≤ (14 : Int) ∧ (14 : Int) ≤ (16 : Int))
                           (obO (V_tri_And = fv_i_i64_i_i64_to_i_i64 (pf_i_i64_i_i64_to_i_i64 V_tri_And))
                            (some (R_scalar_Apply (scalar_Apply_c4 l))))))))))
                     (cndO (op == 23)
                      (some (R_scalar_Apply (scalar_cases l)))
                      (cndO (op == 24)
                       (obO (txts l)
                        (some (R_scalar_Apply (scalar_called name l))))
                       (some (R_scalar_Apply (zeroVal))))))))))))))))))))))))
theorem scalar_Apply_in (op : Int) (name : ByteArray) (l : List Val) : scalar_Apply_fn op name l =
 cndO (decide ((↑l.length : Int) < (scalar_count op).fst))
  (some (R_scalar_Apply (zeroVal)))
  (cndO (!(scalar_count op).snd)
   (cndO (decide ((↑l.length : Int) > (scalar_count op).fst))
    (some (R_scalar_Apply (zeroVal)))
    (scalar_Apply_t3 op name l))
   (scalar_Apply_t3 op name l)) := by kernel_rfl
def scalar_Apply (op : Int) (name : ByteArray) (l : List Val) : Val := if (l.length : Int) < (cntN op).1 ∨ ((cntN op).2 = false ∧ (l.length : Int) > (cntN op).1) then zeroVal else applyB op name l
theorem scalar_Apply_t3_eq (op : Int) (name : ByteArray) (l : List Val) (h : txts l) (hn : ¬ ((l.length : Int) < (cntN op).1 ∨ ((cntN op).2 = false ∧ (l.length : Int) > (cntN op).1))) : scalar_Apply_t3 op name l = some (R_scalar_Apply (applyB op name l)) := by
  have hlen := h.1
  have ht : ∀ i, i < l.length → (l.getD i zeroVal).s.size ≤ 2000000 := fun i hi => h.2 _ (by rw [List.getD_eq_getElem?_getD, List.getElem?_eq_getElem hi]; exact List.getElem_mem _)
  have hvA : V_tri_And = fv_i_i64_i_i64_to_i_i64 (pf_i_i64_i_i64_to_i_i64 V_tri_And) := by unfold V_tri_And; rw [pfv_i_i64_i_i64_to_i_i64]
  have hfA : pf_i_i64_i_i64_to_i_i64 V_tri_And = tri_And := by unfold V_tri_And; exact pfv_i_i64_i_i64_to_i_i64 _
  have hvO : V_tri_Or = fv_i_i64_i_i64_to_i_i64 (pf_i_i64_i_i64_to_i_i64 V_tri_Or) := by unfold V_tri_Or; rw [pfv_i_i64_i_i64_to_i_i64]
  have hfO : pf_i_i64_i_i64_to_i_i64 V_tri_Or = tri_Or := by unfold V_tri_Or; exact pfv_i_i64_i_i64_to_i_i64 _
  unfold scalar_Apply_t3 applyB
  simp only [cndO_or]
  simp only [cndO_eq, Bool.or_eq_true, beq_iff_eq]
  by_cases h3 : op = 3
  · have hc : l.length = 1 := by subst h3; have : cntN 3 = (1, false) := rfl; rw [this] at hn; simp only [true_and] at hn; omega
    rw [if_pos h3, if_pos h3]
    split
    · rw [obO_pos (by omega)]
    · rfl
  rw [if_neg h3, if_neg h3]
  by_cases h4 : op = 4
  · have hc : l.length = 1 := by subst h4; have : cntN 4 = (1, false) := rfl; rw [this] at hn; simp only [true_and] at hn; omega
    rw [if_pos h4, if_pos h4, obO_pos (by omega)]
  rw [if_neg h4, if_neg h4]
  by_cases h19 : op = 19
  · have hc : l.length = 1 := by subst h19; have : cntN 19 = (1, false) := rfl; rw [this] at hn; simp only [true_and] at hn; omega
    rw [if_pos h19, if_pos h19, obO_pos (by omega)]
  rw [if_neg h19, if_neg h19]
  by_cases h5 : op = 5 ∨ op = 6 ∨ op = 7 ∨ op = 8 ∨ op = 9
  · have hc : l.length = 2 := by
      have : cntN op = (2, false) := by unfold cntN; rw [if_neg (by omega), if_neg (by omega), if_neg (by omega), if_neg (by omega)]
      rw [this] at hn; simp only [true_and] at hn; omega
    rw [if_pos (by omega), if_pos h5]
    unfold scalar_Apply_t1 scalar_Apply_c1
    rw [cndO_eq]
    split
    · rw [obO_pos (by omega), obO_pos (by omega), obO_pos (by omega)]
    · rfl
  rw [if_neg (by omega), if_neg h5]
  by_cases h10 : op = 10
  · have hc : l.length = 2 := by subst h10; have : cntN 10 = (2, false) := rfl; rw [this] at hn; simp only [true_and] at hn; omega
    have a0 := ht 0 (by omega)
    have a1 := ht 1 (by omega)
    rw [if_pos h10, if_pos h10]
    split
    · rw [obO_pos (by omega), obO_pos (by omega), wrap_id (by omega)]
      by_cases hs : (l.getD 0 zeroVal).s.size + (l.getD 1 zeroVal).s.size ≤ 100
      · rw [if_pos (by rw [decide_eq_true_eq]; omega), if_pos hs, obO_pos (by omega), obO_pos (by omega), obO_pos (by omega)]
      · rw [if_neg (by rw [decide_eq_true_eq]; omega), if_neg hs]
    · rfl
  rw [if_neg h10, if_neg h10]
  by_cases h11 : op = 11 ∨ op = 12 ∨ op = 13 ∨ op = 14 ∨ op = 15 ∨ op = 16
  · have hc : l.length = 2 := by
      have : cntN op = (2, false) := by unfold cntN; rw [if_neg (by omega), if_neg (by omega), if_neg (by omega), if_neg (by omega)]
      rw [this] at hn; simp only [true_and] at hn; omega
    rw [if_pos (by omega), if_pos h11]
    unfold scalar_Apply_t2
    rw [obO_pos (by omega), obO_pos (by omega), obO_pos (by omega)]
  rw [if_neg (by omega), if_neg h11]
  by_cases h17 : op = 17
  · have hc : l.length = 2 := by subst h17; have : cntN 17 = (2, false) := rfl; rw [this] at hn; simp only [true_and] at hn; omega
    rw [if_pos h17, if_pos h17, obO_pos (by omega), obO_pos (by omega), obO_pos hvA]
    unfold scalar_Apply_c2
    rw [hfA]
  rw [if_neg h17, if_neg h17]
  by_cases h18 : op = 18
  · have hc : l.length = 2 := by subst h18; have : cntN 18 = (2, false) := rfl; rw [this] at hn; simp only [true_and] at hn; omega
    rw [if_pos h18, if_pos h18, obO_pos (by omega), obO_pos (by omega), obO_pos hvO]
    unfold scalar_Apply_c3
    rw [hfO]
  rw [if_neg h18, if_neg h18]
  by_cases h20 : op = 20
  · have hc : l.length = 2 := by subst h20; have : cntN 20 = (2, false) := rfl; rw [this] at hn; simp only [true_and] at hn; omega
    have a0 := ht 0 (by omega)
    have a1 := ht 1 (by omega)
    rw [if_pos h20, if_pos h20]
    split
    · rw [obO_pos (by omega), obO_pos (by omega), obO_pos a0, obO_pos a1]
    · rfl
  rw [if_neg h20, if_neg h20]
  by_cases h21 : op = 21
  · have hc : 2 ≤ l.length := by subst h21; have : cntN 21 = (2, true) := rfl; rw [this] at hn; simp only [true_and] at hn; omega
    rw [if_pos h21, if_pos h21]
    repeat rw [obO_pos (by first | omega | (rw [List.length_drop]; omega))]
  rw [if_neg h21, if_neg h21]
  by_cases h22 : op = 22
  · have hc : l.length = 3 := by subst h22; have : cntN 22 = (3, false) := rfl; rw [this] at hn; simp only [true_and] at hn; omega
    rw [if_pos h22, if_pos h22, obO_pos (by omega), obO_pos (by omega), obO_pos (by omega), obO_pos (by omega), obO_pos (by omega)]
    refine (obO_pos (by first | exact hvA | omega)).trans ?_
    try refine (obO_pos (by first | exact hvA | omega)).trans ?_
    unfold scalar_Apply_c4
    rw [hfA]
  rw [if_neg h22, if_neg h22]
  by_cases h23 : op = 23
  · rw [if_pos h23, if_pos h23]
  rw [if_neg h23, if_neg h23]
  by_cases h24 : op = 24
  · rw [if_pos h24, if_pos h24, obO_pos h]
  rw [if_neg h24, if_neg h24]
theorem scalar_Apply_spec (op : Int) (name : ByteArray) (l : List Val) (_ho : WI op) (_hn : WStr name) (_hl : WL .val l) (h : txts l) : scalar_Apply_fn op name l = some (R_scalar_Apply (scalar_Apply op name l)) := by
  rw [scalar_Apply_in]
  unfold scalar_Apply scalar_count
  by_cases h1 : (l.length : Int) < (cntN op).1
  · rw [cndO_eq, if_pos (decide_eq_true h1), if_pos (.inl h1)]
  rw [cndO_eq, if_neg (by simpa using h1)]
  by_cases h2 : (cntN op).2 = false ∧ (l.length : Int) > (cntN op).1
  · rw [if_pos (.inr h2), h2.1, cndO_eq, if_pos (by decide), cndO_eq, if_pos (decide_eq_true h2.2)]
  · rw [if_neg (fun e => e.elim h1 h2), scalar_Apply_t3_eq op name l h (fun e => e.elim h1 h2)]
    cases hm : (cntN op).2
    · rw [cndO_eq, if_pos (by decide), cndO_eq, if_neg (fun e => h2 ⟨hm, of_decide_eq_true e⟩)]
    · rfl
def F_scalar_Apply : FnC Un := fun args => match args with
  | [x0, x1, x2] => (dI .i64 x0).bind fun op => (dStr x1).bind fun name => (dL .val x2).bind fun l => some ([txts l], A_scalar_Apply (scalar_Apply op name l), O_scalar_Apply (scalar_Apply op name l))
  | _ => none
theorem ok_scalar_Apply : FnOK 30 F_scalar_Apply := by
  intro args ob rs os h hob
  unfold F_scalar_Apply at h
  split at h
  · simp only [Option.bind_eq_some_iff, Option.some.injEq, Prod.mk.injEq] at h
    obtain ⟨op, e0, name, e1, l, e2, rfl, rfl, rfl⟩ := h
    obtain rfl := dI_eq e0
    obtain rfl := dStr_eq e1
    obtain rfl := dL_eq e2
    exact ⟨fn_contractF (M := M_scalar_Apply) rfl (tbl_ok (l1 := [(35, F_scalar_count), (36, F_scalar_kinds), (38, F_num_Neg), (37, F_scalar_told), (19, F_tri_From), (40, F_tri_Not), (39, F_tri_Value), (41, F_value_Bool), (42, F_scalar_two), (43, F_value_Str), (44, F_scalar_compared), (45, F_scalar_both), (48, F_like_Match), (49, F_scalar_among), (50, F_scalar_cases), (51, F_scalar_called)]) (l2 := [(46, V_tri_And), (47, V_tri_Or)]) (l3 := []) (l4 := []) (l5 := []) ⟨ok_scalar_count, ok_scalar_kinds, ok_num_Neg, ok_scalar_told, ok_tri_From, ok_tri_Not, ok_tri_Value, ok_value_Bool, ok_scalar_two, ok_value_Str, ok_scalar_compared, ok_scalar_both, ok_like_Match, ok_scalar_among, ok_scalar_cases, ok_scalar_called, trivial⟩ ⟨okV_tri_And, okV_tri_Or, trivial⟩ trivial trivial trivial) Try.func30 (by kernel_rfl) N_scalar_Apply 0 [.d] (fun hwf => (scalar_Apply_spec op name l (wfArg hwf (a := .d (.v (.s (.int .i64 op)))) (List.mem_of_getElem? (i := 0) rfl)) (wfArg hwf (a := .d (.v (cs name))) (List.mem_of_getElem? (i := 1) rfl)) (wfArg hwf (a := .d (.v (.dat (U := Un) Ty.val l))) (List.mem_of_getElem? (i := 2) rfl)) (hob _ (List.mem_of_getElem? (i := 0) rfl)))), hasBody_of Try.func30 (by kernel_rfl) (by kernel_rfl)⟩
  · simp at h
end
end Go.Proofs.Ytjmpnpkcgkhagaa.B
namespace Go.Proofs.Ytjmpnpkcgkhagaa.B
open Go Go.RowKit
set_option maxRecDepth 100000
noncomputable section
attribute [local irreducible] awp ctxK itersK iterK retQ retGQ awf ctxF loopF
def colV (depth at_ : Int) (env : List (List Val)) : Val := if 0 ≤ depth ∧ depth < (env.length : Int) ∧ 0 ≤ at_ ∧ at_ < ((env.getD depth.toNat []).length : Int) then (env.getD depth.toNat []).getD at_.toNat zeroVal else zeroVal
mutual
def evalG (ap : Int → ByteArray → List Val → Val) (env : List (List Val)) : Term → Val
  | .mk op v depth at_ name kids _ _ => if op = 1 then v else if op = 2 then colV depth at_ env else if op = 26 ∨ op = 27 ∨ op = 28 then zeroVal else ap op name (evalGs ap env kids)
def evalGs (ap : Int → ByteArray → List Val → Val) (env : List (List Val)) : List Term → List Val
  | [] => []
  | t :: l => evalG ap env t :: evalGs ap env l
end
theorem evalG_eq (ap : Int → ByteArray → List Val → Val) (env : List (List Val)) (t : Term) : evalG ap env t = if t.op = 1 then t.v else if t.op = 2 then colV t.depth t.at_ env else if t.op = 26 ∨ t.op = 27 ∨ t.op = 28 then zeroVal else ap t.op t.name (evalGs ap env t.kids) := by cases t; simp only [evalG]; rfl
theorem evalGs_map (ap : Int → ByteArray → List Val → Val) (env : List (List Val)) : ∀ l : List Term, evalGs ap env l = l.map (evalG ap env)
  | [] => rfl
  | t :: l => by simp only [evalGs, List.map_cons, evalGs_map ap env l]
end
end Go.Proofs.Ytjmpnpkcgkhagaa.B
