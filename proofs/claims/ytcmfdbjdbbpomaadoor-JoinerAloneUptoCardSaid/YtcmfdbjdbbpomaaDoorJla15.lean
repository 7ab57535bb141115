/- Part 15 of the proof: Svcmp Svord Salg0v. -/
import Derived.Test.YtcmfdbjdbbpomaaDoorJla14
namespace Go.Proofs.YtcmfdbjdbbpomaaDoor.B
open Go Go.RowKit
set_option maxRecDepth 100000
noncomputable section
attribute [local irreducible] awp ctxK itersK iterK retQ retGQ
def M_value_Order : Mc Un := mach (tbl [(25, F_cmp_Compare), (40, F_strings_Compare), (24, F_cmp_Or)]) (tbl []) (tbl []) (tbl []) (tbl [])
def N_value_Order : Nat → NS := fun l => (look l []).getD ⟨[], [], [], [], [], false⟩
def A_value_Order (r : Int) : List (A Un) := [.c (.s (.int .i64 r))]
def O_value_Order (_r : Int) : List (Ob Un) := []
theorem value_Order_in (a : Val) (b : Val) (K : List (A Un) → List (Ob Un) → Prop) :
    awp M_value_Order N_value_Order (bodyOf Tryd.f27) (entry Tryd.f27.ntmps 0 [.d (.agg (enc Ty.val a)), .d (.agg (enc Ty.val b))]) (retQ M_value_Order Tryd.f27.results.toList [.d] K) =
(K (A_value_Order (cmp_Or [cmp_Compare a.kind b.kind, cmp_Compare a.n b.n, strings_Compare a.s b.s])) (O_value_Order (cmp_Or [cmp_Compare a.kind b.kind, cmp_Compare a.n b.n, strings_Compare a.s b.s]))) := by kernel_rfl
def value_Order_fn (a : Val) (b : Val) : Option (Int) :=
  some (cmp_Or [cmp_Compare a.kind b.kind, cmp_Compare a.n b.n, strings_Compare a.s b.s])
theorem value_Order_run {a : Val} {b : Val} {r : Int} (h : value_Order_fn a b = some r) : Runs (awp M_value_Order N_value_Order (bodyOf Tryd.f27) (entry Tryd.f27.ntmps 0 [.d (.agg (enc Ty.val a)), .d (.agg (enc Ty.val b))]) (retQ M_value_Order Tryd.f27.results.toList [.d] fun rs os => rs = A_value_Order r ∧ os = O_value_Order r)) := by
  constructor
  rw [value_Order_in a b (fun rs os => rs = A_value_Order r ∧ os = O_value_Order r)]
  unfold value_Order_fn at h
  cases h
  exact ⟨rfl, rfl⟩
def value_Order (a b : Val) : Int := ordV a b
@[simp] theorem value_Order_eq (a b : Val) : value_Order a b = ordV a b := by unfold value_Order; rfl
theorem value_Order_spec (a b : Val) (_ha : WS .val a) (_hb : WS .val b) : value_Order_fn a b = some (value_Order a b) := by
  unfold value_Order_fn value_Order ordV
  simp only [cmp_Or_eq, cmp_Compare_spec, strings_Compare_spec, orL, cmpI_zero]
  by_cases h1 : a.kind = b.kind
  · by_cases h2 : a.n = b.n
    · simp only [h1, h2, if_true]; split
      · rename_i h; rw [h]
      · rfl
    · simp [h1, h2]
  · simp [h1]
def F_value_Order : FnC Un := fun args => match args with
  | [x0, x1] => (dS .val x0).bind fun a => (dS .val x1).bind fun b => some ([], A_value_Order (value_Order a b), O_value_Order (value_Order a b))
  | _ => none
theorem ok_value_Order : FnOK 27 F_value_Order := by
  intro args ob rs os h hob
  unfold F_value_Order at h
  split at h
  · simp only [Option.bind_eq_some_iff, Option.some.injEq, Prod.mk.injEq] at h
    obtain ⟨a, e0, b, e1, rfl, rfl, rfl⟩ := h
    obtain rfl := dS_eq e0
    obtain rfl := dS_eq e1
    exact ⟨fn_contract (M := M_value_Order) rfl (tbl_ok (l1 := [(25, F_cmp_Compare), (40, F_strings_Compare), (24, F_cmp_Or)]) (l2 := []) (l3 := []) (l4 := []) (l5 := []) ⟨ok_cmp_Compare, ok_strings_Compare, ok_cmp_Or, trivial⟩ trivial trivial trivial trivial) Tryd.func27 (by kernel_rfl) N_value_Order 0 [.d] (fun hwf => value_Order_run (value_Order_spec a b (wfArg hwf (a := .d (.agg (enc Ty.val a))) (List.mem_of_getElem? (i := 0) rfl)) (wfArg hwf (a := .d (.agg (enc Ty.val b))) (List.mem_of_getElem? (i := 1) rfl)))), hasBody_of Tryd.func27 (by kernel_rfl) (by kernel_rfl)⟩
  · simp at h
def V_value_Order : FV Un := fun args => match args with
  | [x0, x1] => (dS .val (.d x0)).bind fun a => (dS .val (.d x1)).bind fun b => some ([], [.v (.s (.int .i64 (value_Order a b)))])
  | _ => none
theorem okV_value_Order : FvOK 27 V_value_Order := by
  refine ⟨hasBody_of Tryd.func27 (by kernel_rfl) (by kernel_rfl), fun args ob rs h hob => ?_⟩
  unfold V_value_Order at h
  split at h
  · simp only [Option.bind_eq_some_iff, Option.some.injEq, Prod.mk.injEq] at h
    obtain ⟨a, e0, b, e1, rfl, rfl⟩ := h
    simp only [List.map_cons, List.map_nil]
    rw [dS_eq e0]
    rw [dS_eq e1]
    refine Contract.data (ok_value_Order _ ([]) _ _ (?_ : F_value_Order _ = some _) (by simp)).1
    unfold F_value_Order
    simp only [dSk_mk]
    rfl
  · simp at h
theorem V_value_Order_eq : V_value_Order = fv_S_val_S_val_to_i_i64 ordV := by
  have : value_Order = ordV := by funext a b; exact value_Order_eq a b
  rw [← this]; rfl
end
end Go.Proofs.YtcmfdbjdbbpomaaDoor.B
namespace Go.Proofs.YtcmfdbjdbbpomaaDoor.B
open Go Go.RowKit
set_option maxRecDepth 100000
noncomputable section
attribute [local irreducible] awp ctxK itersK iterK retQ retGQ awf ctxF loopF
def M_cmpR : Mc Un := mach (tbl []) (tbl []) (tbl []) (tbl []) (tbl [])
def A_cmpR (r : Int) : List (A Un) := [.c (.s (.int .i64 r))]
def O_cmpR (_r : Int) : List (Ob Un) := []
def R_cmpR (r : Int) : RF Un := (A_cmpR r, O_cmpR r)
def N_cmpR : Nat → NS := fun l => (look l [(2, { ts := bl 39 14407, bs := bl 39 0, nm := [] })]).getD ⟨[], [], [], [], [], false⟩
def cmpR_s2 (s1 : List Val) (s2 : List Val) (p : Val → Val → Int) (v0 : Int) : S Un := (st 39 39 156 0 [(0, al .val s1), (1, al .val s2), (2, AV.one (A.c (C.fv (fv_S_val_S_val_to_i_i64 p)))), (6, ai (0 : Int)), (11, al .val s1), (12, ai (↑s1.length : Int)), (13, ai v0)] [] [])
def cmpR_e2_ret (s1 : List Val) (s2 : List Val) (p : Val → Val → Int) (v0 : Int) (v1 : Int) : S Un := (st 39 39 156 0 [(0, al .val s1), (1, al .val s2), (2, AV.one (A.c (C.fv (fv_S_val_S_val_to_i_i64 p)))), (6, ai v1), (11, al .val s1), (12, ai (↑s1.length : Int)), (13, ai v0)] [] [])
noncomputable def cmpR_B2 : Code := sub (bodyOf Tryd.f26) [1, 0, 1, 2, 2]
def cmpR_L2 : S Un → Option (EX Un) := loopF (N_cmpR 2) (fun s Q => awf M_cmpR N_cmpR cmpR_B2 s Q)
def cmpR_C2 : Exit → S Un → Option (RF Un) := ctxF M_cmpR N_cmpR (bodyOf Tryd.f26) [1, 0, 1, 2] (retF M_cmpR Tryd.f26.results.toList [.d])
def cmpR_fn (s1 : List Val) (s2 : List Val) (p : Val → Val → Int) : Option (RF Un) := awf M_cmpR N_cmpR (bodyOf Tryd.f26) (entry Tryd.f26.ntmps 0 [.d (.v (.dat (U := Un) Ty.val s1)), .d (.v (.dat (U := Un) Ty.val s2)), .fn (fv_S_val_S_val_to_i_i64 p)]) (retF M_cmpR Tryd.f26.results.toList [.d])
theorem cmpR_in (s1 : List Val) (s2 : List Val) (p : Val → Val → Int) : cmpR_fn s1 s2 p =
 (cmpR_L2 (cmpR_s2 s1 s2 p (0 : Int))).bind (thenX cmpR_C2) := by kernel_rfl
theorem cmpR_l2 (s1 : List Val) (s2 : List Val) (p : Val → Val → Int) (v0 : Int) : cmpR_L2 (cmpR_s2 s1 s2 p v0) =
 cndO (decide (v0 < (↑s1.length : Int)))
  (obO (0 ≤ v0 ∧ v0 < (↑s1.length : Int))
   (cndO (decide (v0 ≥ (↑s2.length : Int)))
    (some (.ret, (cmpR_e2_ret s1 s2 p v0 (1 : Int))))
    (obO (0 ≤ v0 ∧ v0 < (↑s2.length : Int))
     (cndO (p (s1.getD v0.toNat zeroVal) (s2.getD v0.toNat zeroVal) != 0)
      (some (.ret, (cmpR_e2_ret s1 s2 p v0 (p (s1.getD v0.toNat zeroVal) (s2.getD v0.toNat zeroVal)))))
      (cmpR_L2 (cmpR_s2 s1 s2 p (IntKind.i64.wrap (v0 + 1))))))))
  (some (.exit 0, (cmpR_s2 s1 s2 p v0))) := (loopF_eq (N_cmpR 2) cmpR_B2 _).trans (by kernel_rfl)
theorem cmpR_a2_ret (s1 : List Val) (s2 : List Val) (p : Val → Val → Int) (v0 : Int) (v1 : Int) : cmpR_C2 .ret (cmpR_e2_ret s1 s2 p v0 v1) =
 some (R_cmpR (v1)) := by kernel_rfl
theorem cmpR_a2_x0 (s1 : List Val) (s2 : List Val) (p : Val → Val → Int) (v0 : Int) : cmpR_C2 (.exit 0) (cmpR_s2 s1 s2 p v0) =
 cndO (decide ((↑s1.length : Int) < (↑s2.length : Int)))
  (some (R_cmpR ((-1 : Int))))
  (some (R_cmpR ((0 : Int)))) := by kernel_rfl
def cmpRA (p : Val → Val → Int) : List Val → List Val → Int
  | [], [] => 0
  | [], _ :: _ => -1
  | _ :: _, [] => 1
  | a :: l, b :: r => if p a b = 0 then cmpRA p l r else p a b
def cmpR (s1 s2 : List Val) (p : Val → Val → Int) : Int := cmpRA p s1 s2
theorem cmpR_key (s1 s2 : List Val) (p : Val → Val → Int) (h1 : WL .val s1) (h2 : WL .val s2) : ∀ (ra rb : List Val) (i : Nat), s1.drop i = ra → s2.drop i = rb → i ≤ s1.length → i ≤ s2.length →
    (cmpR_L2 (cmpR_s2 s1 s2 p (i : Int))).bind (thenX cmpR_C2) = some (R_cmpR (cmpRA p ra rb)) := by
  have l1 := h1.len
  intro ra
  induction ra with
  | nil =>
    intro rb i e1 e2 i1 i2
    have n1 : s1.length = i := by have : s1.length ≤ i := List.drop_eq_nil_iff.1 e1
                                  omega
    have hL : cmpR_L2 (cmpR_s2 s1 s2 p (i : Int)) = some (.exit 0, cmpR_s2 s1 s2 p (i : Int)) := by
      rw [cmpR_l2, cndO_eq, if_neg (by rw [decide_eq_true_eq]; omega)]
    rw [loop_end hL, cmpR_a2_x0, cndO_eq]
    cases rb with
    | nil =>
      have : s2.length ≤ i := List.drop_eq_nil_iff.1 e2
      rw [if_neg (by rw [decide_eq_true_eq]; omega)]; rfl
    | cons y rb =>
      have hlt : i < s2.length := by
        rcases Nat.lt_or_ge i s2.length with h | h
        · exact h
        · rw [List.drop_eq_nil_of_le h] at e2; simp at e2
      rw [if_pos (by rw [decide_eq_true_eq]; omega)]; rfl
  | cons x ra ih =>
    intro rb i e1 e2 i1 i2
    obtain ⟨a1, a2, a3, _⟩ := drop_cons e1
    cases rb with
    | nil =>
      have n2 : s2.length ≤ i := List.drop_eq_nil_iff.1 e2
      have hL : cmpR_L2 (cmpR_s2 s1 s2 p (i : Int)) = some (.ret, cmpR_e2_ret s1 s2 p (i : Int) 1) := by
        rw [cmpR_l2, cndO_eq, if_pos (by rw [decide_eq_true_eq]; omega), obO_pos (by omega), cndO_eq, if_pos (by rw [decide_eq_true_eq]; omega)]
      rw [loop_end hL, cmpR_a2_ret]; rfl
    | cons y rb =>
      obtain ⟨b1, b2, b3, _⟩ := drop_cons e2
      by_cases hxy : p x y = 0
      · have hL : cmpR_L2 (cmpR_s2 s1 s2 p (i : Int)) = cmpR_L2 (cmpR_s2 s1 s2 p ((i + 1 : Nat) : Int)) := by
          rw [cmpR_l2, cndO_eq, if_pos (by rw [decide_eq_true_eq]; omega), obO_pos (by omega), cndO_eq, if_neg (by rw [decide_eq_true_eq]; omega), obO_pos (by omega), Int.toNat_natCast, a2, b2, cndO_eq, if_neg (by simp [hxy]), wrap_id (by omega)]
          rfl
        rw [hL, ih rb (i + 1) a3 b3 (by omega) (by omega)]
        simp only [cmpRA, if_pos hxy]
      · have hL : cmpR_L2 (cmpR_s2 s1 s2 p (i : Int)) = some (.ret, cmpR_e2_ret s1 s2 p (i : Int) (p x y)) := by
          rw [cmpR_l2, cndO_eq, if_pos (by rw [decide_eq_true_eq]; omega), obO_pos (by omega), cndO_eq, if_neg (by rw [decide_eq_true_eq]; omega), obO_pos (by omega), Int.toNat_natCast, a2, b2, cndO_eq, if_pos (by simpa using hxy)]
        rw [loop_end hL, cmpR_a2_ret]
        simp only [cmpRA, if_neg hxy]
theorem cmpR_spec (s1 s2 : List Val) (p : Val → Val → Int) (h1 : WL .val s1) (h2 : WL .val s2) : cmpR_fn s1 s2 p = some (R_cmpR (cmpR s1 s2 p)) := by
  rw [cmpR_in]
  exact cmpR_key s1 s2 p h1 h2 s1 s2 0 rfl rfl (Nat.zero_le _) (Nat.zero_le _)
def F_cmpR : FnC Un := fun args => match args with
  | [x0, x1, x2] => (dL .val x0).bind fun s1 => (dL .val x1).bind fun s2 => (dF x2).bind fun p => some ([p = (fv_S_val_S_val_to_i_i64 (pf_S_val_S_val_to_i_i64 p))], A_cmpR (cmpR s1 s2 (pf_S_val_S_val_to_i_i64 p)), O_cmpR (cmpR s1 s2 (pf_S_val_S_val_to_i_i64 p)))
  | _ => none
theorem ok_cmpR : FnOK 26 F_cmpR := by
  intro args ob rs os h hob
  unfold F_cmpR at h
  split at h
  · simp only [Option.bind_eq_some_iff, Option.some.injEq, Prod.mk.injEq] at h
    obtain ⟨s1, e0, s2, e1, p, e2, rfl, rfl, rfl⟩ := h
    obtain rfl := dL_eq e0
    obtain rfl := dL_eq e1
    obtain rfl := dF_eq e2
    have hfv0 := hob _ (List.mem_of_getElem? (i := 0) rfl)
    generalize pf_S_val_S_val_to_i_i64 p = pp0 at *
    subst hfv0
    exact ⟨fn_contractF (M := M_cmpR) rfl (tbl_ok (l1 := []) (l2 := []) (l3 := []) (l4 := []) (l5 := []) trivial trivial trivial trivial trivial) Tryd.func26 (by kernel_rfl) N_cmpR 0 [.d] (fun hwf => (cmpR_spec s1 s2 pp0 (wfArg hwf (a := .d (.v (.dat (U := Un) Ty.val s1))) (List.mem_of_getElem? (i := 0) rfl)) (wfArg hwf (a := .d (.v (.dat (U := Un) Ty.val s2))) (List.mem_of_getElem? (i := 1) rfl)))), hasBody_of Tryd.func26 (by kernel_rfl) (by kernel_rfl)⟩
  · simp at h
def M_value_Orders : Mc Un := mach (tbl [(26, F_cmpR)]) (tbl [(27, V_value_Order)]) (tbl []) (tbl []) (tbl [])
def A_value_Orders (r : Int) : List (A Un) := [.c (.s (.int .i64 r))]
def O_value_Orders (_r : Int) : List (Ob Un) := []
def R_value_Orders (r : Int) : RF Un := (A_value_Orders r, O_value_Orders r)
def N_value_Orders : Nat → NS := fun l => (look l []).getD ⟨[], [], [], [], [], false⟩
def value_Orders_fn (a : List Val) (b : List Val) : Option (RF Un) := awf M_value_Orders N_value_Orders (bodyOf Tryd.f14) (entry Tryd.f14.ntmps 0 [.d (.v (.dat (U := Un) Ty.val a)), .d (.v (.dat (U := Un) Ty.val b))]) (retF M_value_Orders Tryd.f14.results.toList [.d])
theorem value_Orders_in (a : List Val) (b : List Val) : value_Orders_fn a b =
 obO (V_value_Order = fv_S_val_S_val_to_i_i64 (pf_S_val_S_val_to_i_i64 V_value_Order))
  (some (R_value_Orders (cmpR a b (pf_S_val_S_val_to_i_i64 V_value_Order)))) := by kernel_rfl
def value_Orders (a b : List Val) : Int := ordR a b
theorem cmpRA_ord : ∀ a b : List Val, cmpRA ordV a b = ordR a b
  | [], [] => rfl
  | [], _ :: _ => rfl
  | _ :: _, [] => rfl
  | a :: l, b :: r => by simp only [cmpRA, ordR, cmpRA_ord l r]
theorem value_Orders_spec (a b : List Val) (_ha : WL .val a) (_hb : WL .val b) : value_Orders_fn a b = some (R_value_Orders (value_Orders a b)) := by
  have e : pf_S_val_S_val_to_i_i64 (fv_S_val_S_val_to_i_i64 ordV) = ordV := pfv_S_val_S_val_to_i_i64 ordV
  rw [value_Orders_in, V_value_Order_eq, e, obO_pos rfl]
  unfold cmpR value_Orders
  rw [cmpRA_ord]
def F_value_Orders : FnC Un := fun args => match args with
  | [x0, x1] => (dL .val x0).bind fun a => (dL .val x1).bind fun b => some ([], A_value_Orders (value_Orders a b), O_value_Orders (value_Orders a b))
  | _ => none
theorem ok_value_Orders : FnOK 14 F_value_Orders := by
  intro args ob rs os h hob
  unfold F_value_Orders at h
  split at h
  · simp only [Option.bind_eq_some_iff, Option.some.injEq, Prod.mk.injEq] at h
    obtain ⟨a, e0, b, e1, rfl, rfl, rfl⟩ := h
    obtain rfl := dL_eq e0
    obtain rfl := dL_eq e1
    exact ⟨fn_contractF (M := M_value_Orders) rfl (tbl_ok (l1 := [(26, F_cmpR)]) (l2 := [(27, V_value_Order)]) (l3 := []) (l4 := []) (l5 := []) ⟨ok_cmpR, trivial⟩ ⟨okV_value_Order, trivial⟩ trivial trivial trivial) Tryd.func14 (by kernel_rfl) N_value_Orders 0 [.d] (fun hwf => (value_Orders_spec a b (wfArg hwf (a := .d (.v (.dat (U := Un) Ty.val a))) (List.mem_of_getElem? (i := 0) rfl)) (wfArg hwf (a := .d (.v (.dat (U := Un) Ty.val b))) (List.mem_of_getElem? (i := 1) rfl)))), hasBody_of Tryd.func14 (by kernel_rfl) (by kernel_rfl)⟩
  · simp at h
end
end Go.Proofs.YtcmfdbjdbbpomaaDoor.B
namespace Go.Proofs.YtcmfdbjdbbpomaaDoor.B
open Go Go.RowKit
set_option maxRecDepth 100000
noncomputable section
attribute [local irreducible] awp ctxK itersK iterK retQ retGQ awf ctxF loopF
def M_idxf_val : Mc Un := mach (tbl []) (tbl []) (tbl []) (tbl []) (tbl [])
def A_idxf_val (r : Int) : List (A Un) := [.c (.s (.int .i64 r))]
def O_idxf_val (_r : Int) : List (Ob Un) := []
def R_idxf_val (r : Int) : RF Un := (A_idxf_val r, O_idxf_val r)
def N_idxf_val : Nat → NS := fun l => (look l [(2, { ts := bl 19 403, bs := bl 19 0, nm := [] })]).getD ⟨[], [], [], [], [], false⟩
def idxf_val_s2 (s : List Val) (f_o : Val → Prop) (f : Val → Bool) (v0 : Int) : S Un := (st 19 19 76 0 [(0, al .val s), (1, AV.one (A.c (C.fv (fvo_S_val_to_b f_o f)))), (4, ai (0 : Int)), (7, ai (↑s.length : Int)), (8, ai v0)] [] [])
def idxf_val_e2_ret (s : List Val) (f_o : Val → Prop) (f : Val → Bool) (v0 : Int) (v1 : Int) : S Un := (st 19 19 76 0 [(0, al .val s), (1, AV.one (A.c (C.fv (fvo_S_val_to_b f_o f)))), (4, ai v1), (7, ai (↑s.length : Int)), (8, ai v0)] [] [])
noncomputable def idxf_val_B2 : Code := sub (bodyOf Tryd.f43) [1, 0, 1, 2, 2]
def idxf_val_L2 : S Un → Option (EX Un) := loopF (N_idxf_val 2) (fun s Q => awf M_idxf_val N_idxf_val idxf_val_B2 s Q)
def idxf_val_C2 : Exit → S Un → Option (RF Un) := ctxF M_idxf_val N_idxf_val (bodyOf Tryd.f43) [1, 0, 1, 2] (retF M_idxf_val Tryd.f43.results.toList [.d])
def idxf_val_fn (s : List Val) (f_o : Val → Prop) (f : Val → Bool) : Option (RF Un) := awf M_idxf_val N_idxf_val (bodyOf Tryd.f43) (entry Tryd.f43.ntmps 0 [.d (.v (.dat (U := Un) Ty.val s)), .fn (fvo_S_val_to_b f_o f)]) (retF M_idxf_val Tryd.f43.results.toList [.d])
theorem idxf_val_in (s : List Val) (f_o : Val → Prop) (f : Val → Bool) : idxf_val_fn s f_o f =
 (idxf_val_L2 (idxf_val_s2 s f_o f (0 : Int))).bind (thenX idxf_val_C2) := by kernel_rfl
theorem idxf_val_l2 (s : List Val) (f_o : Val → Prop) (f : Val → Bool) (v0 : Int) : idxf_val_L2 (idxf_val_s2 s f_o f v0) =
 cndO (decide (v0 < (↑s.length : Int)))
  (obO (0 ≤ v0 ∧ v0 < (↑s.length : Int))
   (obO (f_o (s.getD v0.toNat zeroVal))
    (cndO (f (s.getD v0.toNat zeroVal))
     (some (.ret, (idxf_val_e2_ret s f_o f v0 v0)))
     (idxf_val_L2 (idxf_val_s2 s f_o f (IntKind.i64.wrap (v0 + 1)))))))
  (some (.exit 0, (idxf_val_s2 s f_o f v0))) := (loopF_eq (N_idxf_val 2) idxf_val_B2 _).trans (by kernel_rfl)
theorem idxf_val_a2_ret (s : List Val) (f_o : Val → Prop) (f : Val → Bool) (v0 : Int) (v1 : Int) : idxf_val_C2 .ret (idxf_val_e2_ret s f_o f v0 v1) =
 some (R_idxf_val (v1)) := by kernel_rfl
theorem idxf_val_a2_x0 (s : List Val) (f_o : Val → Prop) (f : Val → Bool) (v0 : Int) : idxf_val_C2 (.exit 0) (idxf_val_s2 s f_o f v0) =
 some (R_idxf_val ((-1 : Int))) := by kernel_rfl
def allO_val (o : Val → Prop) (s : List Val) : Prop := ∀ x ∈ s, o x
def idxf_val (s : List Val) (_o : Val → Prop) (f : Val → Bool) : Int := match s.findIdx? f with | some i => (i : Int) | none => -1
theorem idxf_val_nonneg (s : List Val) (o : Val → Prop) (f : Val → Bool) : 0 ≤ idxf_val s o f ↔ s.any f = true := by
  unfold idxf_val
  cases h : s.findIdx? f with
  | none =>
    have := List.findIdx?_eq_none_iff.1 h
    simp only [List.any_eq_true]
    constructor
    · intro h1; exact absurd h1 (by decide)
    · rintro ⟨x, hx, hf⟩; rw [this x hx] at hf; simp at hf
  | some i =>
    obtain ⟨h1, h2, _⟩ := List.findIdx?_eq_some_iff_getElem.1 h
    simp only [List.any_eq_true]
    exact ⟨fun _ => ⟨s[i], List.getElem_mem h1, h2⟩, fun _ => by omega⟩
theorem idxf_val_spec (s : List Val) (o : Val → Prop) (f : Val → Bool) (hs : WL .val s) (ho : allO_val o s) : idxf_val_fn s o f = some (R_idxf_val (idxf_val s o f)) := by
  have key : ∀ (r : List Val) (i : Nat), s.drop i = r → i ≤ s.length → (idxf_val_L2 (idxf_val_s2 s o f i)).bind (thenX idxf_val_C2) = some (R_idxf_val (match r.findIdx? f with | some k => ((i + k : Nat) : Int) | none => -1)) := by
    intro r
    induction r with
    | nil =>
      intro i hr hi
      have : s.length ≤ i := by rw [← List.drop_eq_nil_iff]; exact hr
      have e : idxf_val_L2 (idxf_val_s2 s o f i) = some (.exit 0, idxf_val_s2 s o f i) := by rw [idxf_val_l2, cndO_eq, if_neg (by simp; omega)]
      rw [loop_end e, idxf_val_a2_x0]; rfl
    | cons x r ih =>
      intro i hr hi
      obtain ⟨a1, a2, a3, hm⟩ := drop_cons hr
      have hx : s.getD i zeroVal = x := a2 zeroVal
      by_cases hf : f x = true
      · have e : idxf_val_L2 (idxf_val_s2 s o f i) = some (.ret, idxf_val_e2_ret s o f i i) := by
          rw [idxf_val_l2, cndO_eq, if_pos (by simp; omega), obO_pos (by omega), Int.toNat_natCast, hx, obO_pos (ho x hm), cndO_eq, if_pos hf]
        rw [loop_end e, idxf_val_a2_ret]
        simp [List.findIdx?_cons, hf]
      · have e : idxf_val_L2 (idxf_val_s2 s o f i) = idxf_val_L2 (idxf_val_s2 s o f ((i + 1 : Nat) : Int)) := by
          rw [idxf_val_l2, cndO_eq, if_pos (by simp; omega), obO_pos (by omega), Int.toNat_natCast, hx, obO_pos (ho x hm), cndO_eq, if_neg hf, wrap_next a1 hs.len]
        rw [e, ih (i + 1) a3 (by omega)]
        congr 2
        simp only [List.findIdx?_cons, hf]
        cases r.findIdx? f with
        | none => rfl
        | some k => simp; omega
  rw [idxf_val_in]
  have := key s 0 rfl (Nat.zero_le _)
  refine Eq.trans this ?_
  unfold idxf_val
  cases s.findIdx? f <;> simp
def F_idxf_val : FnC Un := fun args => match args with
  | [x0, x1] => (dL .val x0).bind fun s => (dF x1).bind fun f => some ([f = (fvo_S_val_to_b (po_S_val_to_b f) (pf_S_val_to_b f)), allO_val (po_S_val_to_b f) s], A_idxf_val (idxf_val s (po_S_val_to_b f) (pf_S_val_to_b f)), O_idxf_val (idxf_val s (po_S_val_to_b f) (pf_S_val_to_b f)))
  | _ => none
theorem ok_idxf_val : FnOK 43 F_idxf_val := by
  intro args ob rs os h hob
  unfold F_idxf_val at h
  split at h
  · simp only [Option.bind_eq_some_iff, Option.some.injEq, Prod.mk.injEq] at h
    obtain ⟨s, e0, f, e1, rfl, rfl, rfl⟩ := h
    obtain rfl := dL_eq e0
    obtain rfl := dF_eq e1
    have hfv0 := hob _ (List.mem_of_getElem? (i := 0) rfl)
    generalize pf_S_val_to_b f = pp0 at *
    generalize po_S_val_to_b f = qq0 at *
    subst hfv0
    exact ⟨fn_contractF (M := M_idxf_val) rfl (tbl_ok (l1 := []) (l2 := []) (l3 := []) (l4 := []) (l5 := []) trivial trivial trivial trivial trivial) Tryd.func43 (by kernel_rfl) N_idxf_val 0 [.d] (fun hwf => (idxf_val_spec s qq0 pp0 (wfArg hwf (a := .d (.v (.dat (U := Un) Ty.val s))) (List.mem_of_getElem? (i := 0) rfl)) (hob _ (List.mem_of_getElem? (i := 1) rfl)))), hasBody_of Tryd.func43 (by kernel_rfl) (by kernel_rfl)⟩
  · simp at h
def M_conf_val : Mc Un := mach (tbl [(43, F_idxf_val)]) (tbl []) (tbl []) (tbl []) (tbl [])
def A_conf_val (r : Bool) : List (A Un) := [.c (.s (.bool r))]
def O_conf_val (_r : Bool) : List (Ob Un) := []
def R_conf_val (r : Bool) : RF Un := (A_conf_val r, O_conf_val r)
def N_conf_val : Nat → NS := fun l => (look l []).getD ⟨[], [], [], [], [], false⟩
def conf_val_fn (s : List Val) (f_o : Val → Prop) (f : Val → Bool) : Option (RF Un) := awf M_conf_val N_conf_val (bodyOf Tryd.f29) (entry Tryd.f29.ntmps 0 [.d (.v (.dat (U := Un) Ty.val s)), .fn (fvo_S_val_to_b f_o f)]) (retF M_conf_val Tryd.f29.results.toList [.d])
theorem conf_val_in (s : List Val) (f_o : Val → Prop) (f : Val → Bool) : conf_val_fn s f_o f =
 obO (fvo_S_val_to_b f_o f = fvo_S_val_to_b (po_S_val_to_b (fvo_S_val_to_b f_o f)) (pf_S_val_to_b (fvo_S_val_to_b f_o f)))
  (obO (allO_val (po_S_val_to_b (fvo_S_val_to_b f_o f)) s)
   (some (R_conf_val (decide (idxf_val s (po_S_val_to_b (fvo_S_val_to_b f_o f)) (pf_S_val_to_b (fvo_S_val_to_b f_o f)) ≥ 0))))) := by kernel_rfl
def conf_val (s : List Val) (_o : Val → Prop) (f : Val → Bool) : Bool := s.any f
theorem conf_val_spec (s : List Val) (o : Val → Prop) (f : Val → Bool) (_hs : WL .val s) (ho : allO_val o s) : conf_val_fn s o f = some (R_conf_val (conf_val s o f)) := by
  rw [conf_val_in]
  simp only [pofvo_S_val_to_b, pffvo_S_val_to_b]
  rw [obO_pos trivial, obO_pos ho]
  unfold conf_val
  congr 2
  have := idxf_val_nonneg s o f
  cases h : s.any f with
  | true => simp; exact this.2 h
  | false =>
    have : ¬ 0 ≤ idxf_val s o f := fun e => by rw [this.1 e] at h; simp at h
    simpa using this
def F_conf_val : FnC Un := fun args => match args with
  | [x0, x1] => (dL .val x0).bind fun s => (dF x1).bind fun f => some ([f = (fvo_S_val_to_b (po_S_val_to_b f) (pf_S_val_to_b f)), allO_val (po_S_val_to_b f) s], A_conf_val (conf_val s (po_S_val_to_b f) (pf_S_val_to_b f)), O_conf_val (conf_val s (po_S_val_to_b f) (pf_S_val_to_b f)))
  | _ => none
theorem ok_conf_val : FnOK 29 F_conf_val := by
  intro args ob rs os h hob
  unfold F_conf_val at h
  split at h
  · simp only [Option.bind_eq_some_iff, Option.some.injEq, Prod.mk.injEq] at h
    obtain ⟨s, e0, f, e1, rfl, rfl, rfl⟩ := h
    obtain rfl := dL_eq e0
    obtain rfl := dF_eq e1
    have hfv0 := hob _ (List.mem_of_getElem? (i := 0) rfl)
    generalize pf_S_val_to_b f = pp0 at *
    generalize po_S_val_to_b f = qq0 at *
    subst hfv0
    exact ⟨fn_contractF (M := M_conf_val) rfl (tbl_ok (l1 := [(43, F_idxf_val)]) (l2 := []) (l3 := []) (l4 := []) (l5 := []) ⟨ok_idxf_val, trivial⟩ trivial trivial trivial trivial) Tryd.func29 (by kernel_rfl) N_conf_val 0 [.d] (fun hwf => (conf_val_spec s qq0 pp0 (wfArg hwf (a := .d (.v (.dat (U := Un) Ty.val s))) (List.mem_of_getElem? (i := 0) rfl)) (hob _ (List.mem_of_getElem? (i := 1) rfl)))), hasBody_of Tryd.func29 (by kernel_rfl) (by kernel_rfl)⟩
  · simp at h
end
end Go.Proofs.YtcmfdbjdbbpomaaDoor.B
