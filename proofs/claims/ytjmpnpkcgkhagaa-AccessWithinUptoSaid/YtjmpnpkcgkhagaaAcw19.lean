/- Part 19 of the proof: Sref26b Slaw26 Srowf Swithin. -/
import Derived.Test.YtjmpnpkcgkhagaaAcw18
namespace Go.Proofs.Ytjmpnpkcgkhagaa.B
open Go Go.RowKit
set_option maxRecDepth 100000
noncomputable section
attribute [local irreducible] awp ctxK itersK iterK retQ retGQ
def M_r26_SameBound : Mc Un := mach (tbl [(21, F_r03_Orders)]) (tbl []) (tbl []) (tbl []) (tbl [])
def N_r26_SameBound : Nat → NS := fun l => (look l []).getD ⟨[], [], [], [], [], false⟩
def A_r26_SameBound (r : Bool) : List (A Un) := [.c (.s (.bool r))]
def O_r26_SameBound (_r : Bool) : List (Ob Un) := []
theorem r26_SameBound_in (a : Bound) (b : Bound) (K : List (A Un) → List (Ob Un) → Prop) :
    awp M_r26_SameBound N_r26_SameBound (bodyOf Try.f14) (entry Try.f14.ntmps 0 [.d (.agg (enc Ty.bound a)), .d (.agg (enc Ty.bound b))]) (retQ M_r26_SameBound Try.f14.results.toList [.d] K) =
(cnd (a.is == b.is)
 (cnd (a.open_ == b.open_)
  (K (A_r26_SameBound (r03_Orders a.key b.key == (0 : Int))) (O_r26_SameBound (r03_Orders a.key b.key == (0 : Int))))
  (K (A_r26_SameBound (false)) (O_r26_SameBound (false))))
 (K (A_r26_SameBound (false)) (O_r26_SameBound (false)))) := by kernel_rfl
def r26_SameBound_fn (a : Bound) (b : Bound) : Option (Bool) :=
  if (a.is == b.is) = true then
   if (a.open_ == b.open_) = true then
    some (r03_Orders a.key b.key == (0 : Int))
   else
    some (false)
  else
   some (false)
theorem r26_SameBound_run {a : Bound} {b : Bound} {r : Bool} (h : r26_SameBound_fn a b = some r) : Runs (awp M_r26_SameBound N_r26_SameBound (bodyOf Try.f14) (entry Try.f14.ntmps 0 [.d (.agg (enc Ty.bound a)), .d (.agg (enc Ty.bound b))]) (retQ M_r26_SameBound Try.f14.results.toList [.d] fun rs os => rs = A_r26_SameBound r ∧ os = O_r26_SameBound r)) := by
  constructor
  rw [r26_SameBound_in a b (fun rs os => rs = A_r26_SameBound r ∧ os = O_r26_SameBound r)]
  unfold r26_SameBound_fn at h
  rcases ite_some h with ⟨c1, h2⟩ | ⟨c1, h2⟩
  · rcases ite_some h2 with ⟨c3, h4⟩ | ⟨c3, h4⟩
    · cases h4
      exact (cnd_t c1 (cnd_t c3 ⟨rfl, rfl⟩))
    · cases h4
      exact (cnd_t c1 (cnd_f (bfalse c3) ⟨rfl, rfl⟩))
  · cases h2
    exact (cnd_f (bfalse c1) ⟨rfl, rfl⟩)
def r26_SameBound (a b : Bound) : Bool := a.is == b.is && a.open_ == b.open_ && decide (ordR a.key b.key = 0)
theorem r26_SameBound_spec (a b : Bound) (_ha : WS .bound a) (_hb : WS .bound b) : r26_SameBound_fn a b = some (r26_SameBound a b) := by
  unfold r26_SameBound_fn r26_SameBound
  simp only [beq_iff_eq, r03_Orders_eq]
  split
  · split
    · rename_i h1 h2; simp [h1, h2]; rfl
    · rename_i h1 h2; simp [h2]
  · rename_i h1; simp [h1]
def F_r26_SameBound : FnC Un := fun args => match args with
  | [x0, x1] => (dS .bound x0).bind fun a => (dS .bound x1).bind fun b => some ([], A_r26_SameBound (r26_SameBound a b), O_r26_SameBound (r26_SameBound a b))
  | _ => none
theorem ok_r26_SameBound : FnOK 14 F_r26_SameBound := by
  intro args ob rs os h hob
  unfold F_r26_SameBound at h
  split at h
  · simp only [Option.bind_eq_some_iff, Option.some.injEq, Prod.mk.injEq] at h
    obtain ⟨a, e0, b, e1, rfl, rfl, rfl⟩ := h
    obtain rfl := dS_eq e0
    obtain rfl := dS_eq e1
    exact ⟨fn_contract (M := M_r26_SameBound) rfl (tbl_ok (l1 := [(21, F_r03_Orders)]) (l2 := []) (l3 := []) (l4 := []) (l5 := []) ⟨ok_r03_Orders, trivial⟩ trivial trivial trivial trivial) Try.func14 (by kernel_rfl) N_r26_SameBound 0 [.d] (fun hwf => r26_SameBound_run (r26_SameBound_spec a b (wfArg hwf (a := .d (.agg (enc Ty.bound a))) (List.mem_of_getElem? (i := 0) rfl)) (wfArg hwf (a := .d (.agg (enc Ty.bound b))) (List.mem_of_getElem? (i := 1) rfl)))), hasBody_of Try.func14 (by kernel_rfl) (by kernel_rfl)⟩
  · simp at h
end
end Go.Proofs.Ytjmpnpkcgkhagaa.B
namespace Go.Proofs.Ytjmpnpkcgkhagaa.B
open Go Go.RowKit
set_option maxRecDepth 100000
noncomputable section
attribute [local irreducible] awp ctxK itersK iterK retQ retGQ
def M_l26_col : Mc Un := mach (tbl []) (tbl []) (tbl []) (tbl []) (tbl [])
def N_l26_col : Nat → NS := fun l => (look l []).getD ⟨[], [], [], [], [], false⟩
def A_l26_col (r : Term) : List (A Un) := [.agg (encC Ty.term r)]
def O_l26_col (_r : Term) : List (Ob Un) := []
theorem l26_col_in (at_ : Int) (K : List (A Un) → List (Ob Un) → Prop) :
    awp M_l26_col N_l26_col (bodyOf Try.f10) (entry Try.f10.ntmps 0 [.d (.v (.s (.int .i64 at_)))]) (retQ M_l26_col Try.f10.results.toList [.d] K) =
(K (A_l26_col (Term.mk (2 : Int) zeroVal (0 : Int) at_ (ByteArray.mk #[]) [] [] (2 : Int))) (O_l26_col (Term.mk (2 : Int) zeroVal (0 : Int) at_ (ByteArray.mk #[]) [] [] (2 : Int)))) := by kernel_rfl
def l26_col_fn (at_ : Int) : Option (Term) :=
  some (Term.mk (2 : Int) zeroVal (0 : Int) at_ (ByteArray.mk #[]) [] [] (2 : Int))
theorem l26_col_run {at_ : Int} {r : Term} (h : l26_col_fn at_ = some r) : Runs (awp M_l26_col N_l26_col (bodyOf Try.f10) (entry Try.f10.ntmps 0 [.d (.v (.s (.int .i64 at_)))]) (retQ M_l26_col Try.f10.results.toList [.d] fun rs os => rs = A_l26_col r ∧ os = O_l26_col r)) := by
  constructor
  rw [l26_col_in at_ (fun rs os => rs = A_l26_col r ∧ os = O_l26_col r)]
  unfold l26_col_fn at h
  cases h
  exact ⟨rfl, rfl⟩
def l26_col (at_ : Int) : Term :=
  (Term.mk (2 : Int) zeroVal (0 : Int) at_ (ByteArray.mk #[]) [] [] (2 : Int))
theorem l26_col_eq (at_ : Int) : l26_col_fn at_ = some (l26_col at_) := by unfold l26_col_fn l26_col; repeat (first | rfl | split)
def F_l26_col : FnC Un := fun args => match args with
  | [x0] => (dI .i64 x0).bind fun at_ => some ([], A_l26_col (l26_col at_), O_l26_col (l26_col at_))
  | _ => none
theorem ok_l26_col : FnOK 10 F_l26_col := by
  intro args ob rs os h hob
  unfold F_l26_col at h
  split at h
  · simp only [Option.bind_eq_some_iff, Option.some.injEq, Prod.mk.injEq] at h
    obtain ⟨at_, e0, rfl, rfl, rfl⟩ := h
    obtain rfl := dI_eq e0
    exact ⟨fn_contract (M := M_l26_col) rfl (tbl_ok (l1 := []) (l2 := []) (l3 := []) (l4 := []) (l5 := []) trivial trivial trivial trivial trivial) Try.func10 (by kernel_rfl) N_l26_col 0 [.d] (fun hwf => l26_col_run (l26_col_eq at_)), hasBody_of Try.func10 (by kernel_rfl) (by kernel_rfl)⟩
  · simp at h
def M_l26_num : Mc Un := mach (tbl [(12, F_value_Num)]) (tbl []) (tbl []) (tbl []) (tbl [])
def N_l26_num : Nat → NS := fun l => (look l []).getD ⟨[], [], [], [], [], false⟩
def A_l26_num (r : Term) : List (A Un) := [.agg (encC Ty.term r)]
def O_l26_num (_r : Term) : List (Ob Un) := []
theorem l26_num_in (n : Int) (K : List (A Un) → List (Ob Un) → Prop) :
    awp M_l26_num N_l26_num (bodyOf Try.f11) (entry Try.f11.ntmps 0 [.d (.v (.s (.int .i64 n)))]) (retQ M_l26_num Try.f11.results.toList [.d] K) =
(K (A_l26_num (Term.mk (1 : Int) (value_Num n) (0 : Int) (0 : Int) (ByteArray.mk #[]) [] [] (2 : Int))) (O_l26_num (Term.mk (1 : Int) (value_Num n) (0 : Int) (0 : Int) (ByteArray.mk #[]) [] [] (2 : Int)))) := by kernel_rfl
def l26_num_fn (n : Int) : Option (Term) :=
  some (Term.mk (1 : Int) (value_Num n) (0 : Int) (0 : Int) (ByteArray.mk #[]) [] [] (2 : Int))
theorem l26_num_run {n : Int} {r : Term} (h : l26_num_fn n = some r) : Runs (awp M_l26_num N_l26_num (bodyOf Try.f11) (entry Try.f11.ntmps 0 [.d (.v (.s (.int .i64 n)))]) (retQ M_l26_num Try.f11.results.toList [.d] fun rs os => rs = A_l26_num r ∧ os = O_l26_num r)) := by
  constructor
  rw [l26_num_in n (fun rs os => rs = A_l26_num r ∧ os = O_l26_num r)]
  unfold l26_num_fn at h
  cases h
  exact ⟨rfl, rfl⟩
def l26_num (n : Int) : Term :=
  (Term.mk (1 : Int) (value_Num n) (0 : Int) (0 : Int) (ByteArray.mk #[]) [] [] (2 : Int))
theorem l26_num_eq (n : Int) : l26_num_fn n = some (l26_num n) := by unfold l26_num_fn l26_num; repeat (first | rfl | split)
def F_l26_num : FnC Un := fun args => match args with
  | [x0] => (dI .i64 x0).bind fun n => some ([], A_l26_num (l26_num n), O_l26_num (l26_num n))
  | _ => none
theorem ok_l26_num : FnOK 11 F_l26_num := by
  intro args ob rs os h hob
  unfold F_l26_num at h
  split at h
  · simp only [Option.bind_eq_some_iff, Option.some.injEq, Prod.mk.injEq] at h
    obtain ⟨n, e0, rfl, rfl, rfl⟩ := h
    obtain rfl := dI_eq e0
    exact ⟨fn_contract (M := M_l26_num) rfl (tbl_ok (l1 := [(12, F_value_Num)]) (l2 := []) (l3 := []) (l4 := []) (l5 := []) ⟨ok_value_Num, trivial⟩ trivial trivial trivial trivial) Try.func11 (by kernel_rfl) N_l26_num 0 [.d] (fun hwf => l26_num_run (l26_num_eq n)), hasBody_of Try.func11 (by kernel_rfl) (by kernel_rfl)⟩
  · simp at h
def M_l26_op : Mc Un := mach (tbl []) (tbl []) (tbl []) (tbl []) (tbl [])
def N_l26_op : Nat → NS := fun l => (look l []).getD ⟨[], [], [], [], [], false⟩
def A_l26_op (r : Term) : List (A Un) := [.agg (encC Ty.term r)]
def O_l26_op (_r : Term) : List (Ob Un) := []
theorem l26_op_in_raw (k : Int) (a : Term) (b : Term) (K : List (A Un) → List (Ob Un) → Prop) :
    awp M_l26_op N_l26_op (bodyOf Try.f9) (entry Try.f9.ntmps 0 [.d (.v (.s (.int .i64 k))), .d (.agg (enc Ty.term a)), .d (.agg (enc Ty.term b))]) (retQ M_l26_op Try.f9.results.toList [.d] K) =
(K (A_l26_op (Term.mk k zeroVal (0 : Int) (0 : Int) (ByteArray.mk #[]) [Term.mk a.op a.v a.depth a.at_ a.name a.kids a.sub a.type, Term.mk b.op b.v b.depth b.at_ b.name b.kids b.sub b.type] [] (1 : Int))) (O_l26_op (Term.mk k zeroVal (0 : Int) (0 : Int) (ByteArray.mk #[]) [Term.mk a.op a.v a.depth a.at_ a.name a.kids a.sub a.type, Term.mk b.op b.v b.depth b.at_ b.name b.kids b.sub b.type] [] (1 : Int)))) := by kernel_rfl
theorem l26_op_in (k : Int) (a : Term) (b : Term) (K : List (A Un) → List (Ob Un) → Prop) :
    awp M_l26_op N_l26_op (bodyOf Try.f9) (entry Try.f9.ntmps 0 [.d (.v (.s (.int .i64 k))), .d (.agg (enc Ty.term a)), .d (.agg (enc Ty.term b))]) (retQ M_l26_op Try.f9.results.toList [.d] K) =
(K (A_l26_op (Term.mk k zeroVal (0 : Int) (0 : Int) (ByteArray.mk #[]) [a, b] [] (1 : Int))) (O_l26_op (Term.mk k zeroVal (0 : Int) (0 : Int) (ByteArray.mk #[]) [a, b] [] (1 : Int)))) :=
  (l26_op_in_raw k a b K).trans (by simp only [Term.eta])
def l26_op_fn (k : Int) (a : Term) (b : Term) : Option (Term) :=
  some (Term.mk k zeroVal (0 : Int) (0 : Int) (ByteArray.mk #[]) [a, b] [] (1 : Int))
theorem l26_op_run {k : Int} {a : Term} {b : Term} {r : Term} (h : l26_op_fn k a b = some r) : Runs (awp M_l26_op N_l26_op (bodyOf Try.f9) (entry Try.f9.ntmps 0 [.d (.v (.s (.int .i64 k))), .d (.agg (enc Ty.term a)), .d (.agg (enc Ty.term b))]) (retQ M_l26_op Try.f9.results.toList [.d] fun rs os => rs = A_l26_op r ∧ os = O_l26_op r)) := by
  constructor
  rw [l26_op_in k a b (fun rs os => rs = A_l26_op r ∧ os = O_l26_op r)]
  unfold l26_op_fn at h
  cases h
  exact ⟨rfl, rfl⟩
def l26_op (k : Int) (a : Term) (b : Term) : Term :=
  (Term.mk k zeroVal (0 : Int) (0 : Int) (ByteArray.mk #[]) [a, b] [] (1 : Int))
theorem l26_op_eq (k : Int) (a : Term) (b : Term) : l26_op_fn k a b = some (l26_op k a b) := by unfold l26_op_fn l26_op; repeat (first | rfl | split)
def F_l26_op : FnC Un := fun args => match args with
  | [x0, x1, x2] => (dI .i64 x0).bind fun k => (dS .term x1).bind fun a => (dS .term x2).bind fun b => some ([], A_l26_op (l26_op k a b), O_l26_op (l26_op k a b))
  | _ => none
theorem ok_l26_op : FnOK 9 F_l26_op := by
  intro args ob rs os h hob
  unfold F_l26_op at h
  split at h
  · simp only [Option.bind_eq_some_iff, Option.some.injEq, Prod.mk.injEq] at h
    obtain ⟨k, e0, a, e1, b, e2, rfl, rfl, rfl⟩ := h
    obtain rfl := dI_eq e0
    obtain rfl := dS_eq e1
    obtain rfl := dS_eq e2
    exact ⟨fn_contract (M := M_l26_op) rfl (tbl_ok (l1 := []) (l2 := []) (l3 := []) (l4 := []) (l5 := []) trivial trivial trivial trivial trivial) Try.func9 (by kernel_rfl) N_l26_op 0 [.d] (fun hwf => l26_op_run (l26_op_eq k a b)), hasBody_of Try.func9 (by kernel_rfl) (by kernel_rfl)⟩
  · simp at h
def M_l26_awake : Mc Un := mach (tbl [(10, F_l26_col), (11, F_l26_num), (9, F_l26_op), (5, F_access_Range), (12, F_value_Num), (13, F_access_Best), (14, F_r26_SameBound)]) (tbl []) (tbl []) (tbl []) (tbl [])
def N_l26_awake : Nat → NS := fun l => (look l []).getD ⟨[], [], [], [], [], false⟩
def A_l26_awake (r : Bool) : List (A Un) := [.c (.s (.bool r))]
def O_l26_awake (_r : Bool) : List (Ob Un) := []
theorem l26_awake_in (K : List (A Un) → List (Ob Un) → Prop) :
    awp M_l26_awake N_l26_awake (bodyOf Try.f4) (entry Try.f4.ntmps 0 []) (retQ M_l26_awake Try.f4.results.toList [.d] K) =
(([(0 : Int), (1 : Int)].length ≤ (100000 : Nat)) ∧
(([(1 : Int), (0 : Int)].length ≤ (100000 : Nat)) ∧
(([(2 : Int)].length ≤ (100000 : Nat)) ∧
(((0 : Int) ≤ (1 : Int) ∧ (1 : Int) ≤ (↑[(value_Num (1 : Int)), (value_Num (2 : Int))].length : Int)) ∧
(((0 : Int) ≤ (1 : Int) ∧ (1 : Int) ≤ (↑[(value_Num (1 : Int)), (value_Num (5 : Int))].length : Int)) ∧
(K (A_l26_awake (true)) (O_l26_awake (true)))))))) := by kernel_rfl
def l26_awake_fn : Option (Bool) :=
  if [(0 : Int), (1 : Int)].length ≤ (100000 : Nat) then
   if [(1 : Int), (0 : Int)].length ≤ (100000 : Nat) then
    if [(2 : Int)].length ≤ (100000 : Nat) then
     if (0 : Int) ≤ (1 : Int) ∧ (1 : Int) ≤ (↑[(value_Num (1 : Int)), (value_Num (2 : Int))].length : Int) then
      if (0 : Int) ≤ (1 : Int) ∧ (1 : Int) ≤ (↑[(value_Num (1 : Int)), (value_Num (5 : Int))].length : Int) then
       some (true)
      else none
     else none
    else none
   else none
  else none
theorem l26_awake_run {r : Bool} (h : l26_awake_fn = some r) : Runs (awp M_l26_awake N_l26_awake (bodyOf Try.f4) (entry Try.f4.ntmps 0 []) (retQ M_l26_awake Try.f4.results.toList [.d] fun rs os => rs = A_l26_awake r ∧ os = O_l26_awake r)) := by
  constructor
  rw [l26_awake_in (fun rs os => rs = A_l26_awake r ∧ os = O_l26_awake r)]
  unfold l26_awake_fn at h
  obtain ⟨c1, h2⟩ := ob_some h
  obtain ⟨c3, h4⟩ := ob_some h2
  obtain ⟨c5, h6⟩ := ob_some h4
  obtain ⟨c7, h8⟩ := ob_some h6
  obtain ⟨c9, h10⟩ := ob_some h8
  cases h10
  exact (And.intro c1 (And.intro c3 (And.intro c5 (And.intro c7 (And.intro c9 ⟨rfl, rfl⟩)))))
def l26_awake : Bool := true
theorem l26_awake_spec : l26_awake_fn = some l26_awake := by
  unfold l26_awake_fn; rfl
def F_l26_awake : FnC Un := fun args => match args with
  | [] => some ([], A_l26_awake (l26_awake), O_l26_awake (l26_awake))
  | _ => none
theorem ok_l26_awake : FnOK 4 F_l26_awake := by
  intro args ob rs os h hob
  unfold F_l26_awake at h
  split at h
  · simp only [Option.bind_eq_some_iff, Option.some.injEq, Prod.mk.injEq] at h
    obtain ⟨rfl, rfl, rfl⟩ := h
    exact ⟨fn_contract (M := M_l26_awake) rfl (tbl_ok (l1 := [(10, F_l26_col), (11, F_l26_num), (9, F_l26_op), (5, F_access_Range), (12, F_value_Num), (13, F_access_Best), (14, F_r26_SameBound)]) (l2 := []) (l3 := []) (l4 := []) (l5 := []) ⟨ok_l26_col, ok_l26_num, ok_l26_op, ok_access_Range, ok_value_Num, ok_access_Best, ok_r26_SameBound, trivial⟩ trivial trivial trivial trivial) Try.func4 (by kernel_rfl) N_l26_awake 0 [.d] (fun hwf => l26_awake_run (l26_awake_spec)), hasBody_of Try.func4 (by kernel_rfl) (by kernel_rfl)⟩
  · simp at h
end
end Go.Proofs.Ytjmpnpkcgkhagaa.B
namespace Go.Proofs.Ytjmpnpkcgkhagaa.B
open Go Go.RowKit
set_option maxRecDepth 100000
noncomputable section
attribute [local irreducible] awp ctxK itersK iterK retQ retGQ awf ctxF loopF
def M_idxf_row : Mc Un := mach (tbl []) (tbl []) (tbl []) (tbl []) (tbl [])
def A_idxf_row (r : Int) : List (A Un) := [.c (.s (.int .i64 r))]
def O_idxf_row (_r : Int) : List (Ob Un) := []
def R_idxf_row (r : Int) : RF Un := (A_idxf_row r, O_idxf_row r)
def N_idxf_row : Nat → NS := fun l => (look l [(2, { ts := bl 19 403, bs := bl 19 0, nm := [] })]).getD ⟨[], [], [], [], [], false⟩
def idxf_row_s2 (s : List Val) (f_o : Val → Prop) (f : Val → Bool) (v0 : Int) : S Un := (st 19 19 76 0 [(0, al .val s), (1, AV.one (A.c (C.fv (fvo_S_val_to_b f_o f)))), (4, ai (0 : Int)), (7, ai (↑s.length : Int)), (8, ai v0)] [] [])
def idxf_row_e2_ret (s : List Val) (f_o : Val → Prop) (f : Val → Bool) (v0 : Int) (v1 : Int) : S Un := (st 19 19 76 0 [(0, al .val s), (1, AV.one (A.c (C.fv (fvo_S_val_to_b f_o f)))), (4, ai v1), (7, ai (↑s.length : Int)), (8, ai v0)] [] [])
def idxf_row_B2 : Code := sub (bodyOf Try.f25) [1, 0, 1, 2, 2]
def idxf_row_L2 : S Un → Option (EX Un) := loopF (N_idxf_row 2) (fun s Q => awf M_idxf_row N_idxf_row idxf_row_B2 s Q)
def idxf_row_C2 : Exit → S Un → Option (RF Un) := ctxF M_idxf_row N_idxf_row (bodyOf Try.f25) [1, 0, 1, 2] (retF M_idxf_row Try.f25.results.toList [.d])
def idxf_row_fn (s : List Val) (f_o : Val → Prop) (f : Val → Bool) : Option (RF Un) := awf M_idxf_row N_idxf_row (bodyOf Try.f25) (entry Try.f25.ntmps 0 [.d (.v (.dat (U := Un) Ty.val s)), .fn (fvo_S_val_to_b f_o f)]) (retF M_idxf_row Try.f25.results.toList [.d])
theorem idxf_row_in (s : List Val) (f_o : Val → Prop) (f : Val → Bool) : idxf_row_fn s f_o f =
 (idxf_row_L2 (idxf_row_s2 s f_o f (0 : Int))).bind (thenX idxf_row_C2) := by kernel_rfl
theorem idxf_row_l2 (s : List Val) (f_o : Val → Prop) (f : Val → Bool) (v0 : Int) : idxf_row_L2 (idxf_row_s2 s f_o f v0) =
 cndO (decide (v0 < (↑s.length : Int)))
  (obO (0 ≤ v0 ∧ v0 < (↑s.length : Int))
   (obO (f_o (s.getD v0.toNat zeroVal))
    (cndO (f (s.getD v0.toNat zeroVal))
     (some (.ret, (idxf_row_e2_ret s f_o f v0 v0)))
     (idxf_row_L2 (idxf_row_s2 s f_o f (IntKind.i64.wrap (v0 + 1)))))))
  (some (.exit 0, (idxf_row_s2 s f_o f v0))) := (loopF_eq (N_idxf_row 2) idxf_row_B2 _).trans (by kernel_rfl)
theorem idxf_row_a2_ret (s : List Val) (f_o : Val → Prop) (f : Val → Bool) (v0 : Int) (v1 : Int) : idxf_row_C2 .ret (idxf_row_e2_ret s f_o f v0 v1) =
 some (R_idxf_row (v1)) := by kernel_rfl
theorem idxf_row_a2_x0 (s : List Val) (f_o : Val → Prop) (f : Val → Bool) (v0 : Int) : idxf_row_C2 (.exit 0) (idxf_row_s2 s f_o f v0) =
 some (R_idxf_row ((-1 : Int))) := by kernel_rfl
def idxf_row (s : List Val) (_o : Val → Prop) (f : Val → Bool) : Int := match s.findIdx? f with | some i => (i : Int) | none => -1
theorem idxf_row_nonneg (s : List Val) (o : Val → Prop) (f : Val → Bool) : 0 ≤ idxf_row s o f ↔ s.any f = true := by
  unfold idxf_row
  cases h : s.findIdx? f with
  | none =>
    have := List.findIdx?_eq_none_iff.1 h
    simp only [List.any_eq_true]
    constructor
    · intro h1; exact absurd h1 (by decide)
    · rintro ⟨x, hx, hf⟩; rw [this x hx] at hf; simp at hf
  | some i =>
    obtain ⟨h1, h2, _⟩ := List.findIdx?_eq_some_iff_getElem.1 h
    simp only [List.any_eq_true]
    exact ⟨fun _ => ⟨s[i], List.getElem_mem h1, h2⟩, fun _ => by omega⟩
theorem idxf_row_spec (s : List Val) (o : Val → Prop) (f : Val → Bool) (hs : WL .val s) (ho : allO_vals o s) : idxf_row_fn s o f = some (R_idxf_row (idxf_row s o f)) := by
  have key : ∀ (r : List Val) (i : Nat), s.drop i = r → i ≤ s.length → (idxf_row_L2 (idxf_row_s2 s o f i)).bind (thenX idxf_row_C2) = some (R_idxf_row (match r.findIdx? f with | some k => ((i + k : Nat) : Int) | none => -1)) := by
    intro r
    induction r with
    | nil =>
      intro i hr hi
      have : s.length ≤ i := by rw [← List.drop_eq_nil_iff]; exact hr
      have e : idxf_row_L2 (idxf_row_s2 s o f i) = some (.exit 0, idxf_row_s2 s o f i) := by rw [idxf_row_l2, cndO_eq, if_neg (by simp; omega)]
      rw [loop_end e, idxf_row_a2_x0]; rfl
    | cons x r ih =>
      intro i hr hi
      obtain ⟨a1, a2, a3, hm⟩ := drop_cons hr
      have hx : s.getD i zeroVal = x := a2 zeroVal
      by_cases hf : f x = true
      · have e : idxf_row_L2 (idxf_row_s2 s o f i) = some (.ret, idxf_row_e2_ret s o f i i) := by
          rw [idxf_row_l2, cndO_eq, if_pos (by simp; omega), obO_pos (by omega), Int.toNat_natCast, hx, obO_pos (ho x hm), cndO_eq, if_pos hf]
        rw [loop_end e, idxf_row_a2_ret]
        simp [List.findIdx?_cons, hf]
      · have e : idxf_row_L2 (idxf_row_s2 s o f i) = idxf_row_L2 (idxf_row_s2 s o f ((i + 1 : Nat) : Int)) := by
          rw [idxf_row_l2, cndO_eq, if_pos (by simp; omega), obO_pos (by omega), Int.toNat_natCast, hx, obO_pos (ho x hm), cndO_eq, if_neg hf, wrap_next a1 hs.len]
        rw [e, ih (i + 1) a3 (by omega)]
        congr 2
        simp only [List.findIdx?_cons, hf]
        cases r.findIdx? f with
        | none => rfl
        | some k => simp; omega
  rw [idxf_row_in]
  have := key s 0 rfl (Nat.zero_le _)
  refine Eq.trans this ?_
  unfold idxf_row
  cases s.findIdx? f <;> simp
def F_idxf_row : FnC Un := fun args => match args with
  | [x0, x1] => (dL .val x0).bind fun s => (dF x1).bind fun f => some ([f = (fvo_S_val_to_b (po_S_val_to_b f) (pf_S_val_to_b f)), allO_vals (po_S_val_to_b f) s], A_idxf_row (idxf_row s (po_S_val_to_b f) (pf_S_val_to_b f)), O_idxf_row (idxf_row s (po_S_val_to_b f) (pf_S_val_to_b f)))
  | _ => none
theorem ok_idxf_row : FnOK 25 F_idxf_row := by
  intro args ob rs os h hob
  unfold F_idxf_row at h
  split at h
  · simp only [Option.bind_eq_some_iff, Option.some.injEq, Prod.mk.injEq] at h
    obtain ⟨s, e0, f, e1, rfl, rfl, rfl⟩ := h
    obtain rfl := dL_eq e0
    obtain rfl := dF_eq e1
    have hfv0 := hob _ (List.mem_of_getElem? (i := 0) rfl)
    generalize pf_S_val_to_b f = pp0 at *
    generalize po_S_val_to_b f = qq0 at *
    subst hfv0
    exact ⟨fn_contractF (M := M_idxf_row) rfl (tbl_ok (l1 := []) (l2 := []) (l3 := []) (l4 := []) (l5 := []) trivial trivial trivial trivial trivial) Try.func25 (by kernel_rfl) N_idxf_row 0 [.d] (fun hwf => (idxf_row_spec s qq0 pp0 (wfArg hwf (a := .d (.v (.dat (U := Un) Ty.val s))) (List.mem_of_getElem? (i := 0) rfl)) (hob _ (List.mem_of_getElem? (i := 1) rfl)))), hasBody_of Try.func25 (by kernel_rfl) (by kernel_rfl)⟩
  · simp at h
def M_conf_row : Mc Un := mach (tbl [(25, F_idxf_row)]) (tbl []) (tbl []) (tbl []) (tbl [])
def A_conf_row (r : Bool) : List (A Un) := [.c (.s (.bool r))]
def O_conf_row (_r : Bool) : List (Ob Un) := []
def R_conf_row (r : Bool) : RF Un := (A_conf_row r, O_conf_row r)
def N_conf_row : Nat → NS := fun l => (look l []).getD ⟨[], [], [], [], [], false⟩
def conf_row_fn (s : List Val) (f_o : Val → Prop) (f : Val → Bool) : Option (RF Un) := awf M_conf_row N_conf_row (bodyOf Try.f16) (entry Try.f16.ntmps 0 [.d (.v (.dat (U := Un) Ty.val s)), .fn (fvo_S_val_to_b f_o f)]) (retF M_conf_row Try.f16.results.toList [.d])
theorem conf_row_in (s : List Val) (f_o : Val → Prop) (f : Val → Bool) : conf_row_fn s f_o f =
 obO (fvo_S_val_to_b f_o f = fvo_S_val_to_b (po_S_val_to_b (fvo_S_val_to_b f_o f)) (pf_S_val_to_b (fvo_S_val_to_b f_o f)))
  (obO (allO_vals (po_S_val_to_b (fvo_S_val_to_b f_o f)) s)
   (some (R_conf_row (decide (idxf_row s (po_S_val_to_b (fvo_S_val_to_b f_o f)) (pf_S_val_to_b (fvo_S_val_to_b f_o f)) ≥ 0))))) := by kernel_rfl
def conf_row (s : List Val) (_o : Val → Prop) (f : Val → Bool) : Bool := s.any f
theorem conf_row_spec (s : List Val) (o : Val → Prop) (f : Val → Bool) (_hs : WL .val s) (ho : allO_vals o s) : conf_row_fn s o f = some (R_conf_row (conf_row s o f)) := by
  rw [conf_row_in]
  simp only [pofvo_S_val_to_b, pffvo_S_val_to_b]
  rw [obO_pos trivial, obO_pos ho]
  unfold conf_row
  congr 2
  have := idxf_row_nonneg s o f
  cases h : s.any f with
  | true => simp; exact this.2 h
  | false =>
    have : ¬ 0 ≤ idxf_row s o f := fun e => by rw [this.1 e] at h; simp at h
    simpa using this
def F_conf_row : FnC Un := fun args => match args with
  | [x0, x1] => (dL .val x0).bind fun s => (dF x1).bind fun f => some ([f = (fvo_S_val_to_b (po_S_val_to_b f) (pf_S_val_to_b f)), allO_vals (po_S_val_to_b f) s], A_conf_row (conf_row s (po_S_val_to_b f) (pf_S_val_to_b f)), O_conf_row (conf_row s (po_S_val_to_b f) (pf_S_val_to_b f)))
  | _ => none
theorem ok_conf_row : FnOK 16 F_conf_row := by
  intro args ob rs os h hob
  unfold F_conf_row at h
  split at h
  · simp only [Option.bind_eq_some_iff, Option.some.injEq, Prod.mk.injEq] at h
    obtain ⟨s, e0, f, e1, rfl, rfl, rfl⟩ := h
    obtain rfl := dL_eq e0
    obtain rfl := dF_eq e1
    have hfv0 := hob _ (List.mem_of_getElem? (i := 0) rfl)
    generalize pf_S_val_to_b f = pp0 at *
    generalize po_S_val_to_b f = qq0 at *
    subst hfv0
    exact ⟨fn_contractF (M := M_conf_row) rfl (tbl_ok (l1 := [(25, F_idxf_row)]) (l2 := []) (l3 := []) (l4 := []) (l5 := []) ⟨ok_idxf_row, trivial⟩ trivial trivial trivial trivial) Try.func16 (by kernel_rfl) N_conf_row 0 [.d] (fun hwf => (conf_row_spec s qq0 pp0 (wfArg hwf (a := .d (.v (.dat (U := Un) Ty.val s))) (List.mem_of_getElem? (i := 0) rfl)) (hob _ (List.mem_of_getElem? (i := 1) rfl)))), hasBody_of Try.func16 (by kernel_rfl) (by kernel_rfl)⟩
  · simp at h
end
end Go.Proofs.Ytjmpnpkcgkhagaa.B
namespace Go.Proofs.Ytjmpnpkcgkhagaa.B
open Go Go.RowKit
set_option maxRecDepth 100000
noncomputable section
attribute [local irreducible] awp ctxK itersK iterK retQ retGQ awf ctxF loopF
def M_rights1 : Mc Un := mach (tbl [(18, F_value_Right)]) (tbl []) (tbl []) (tbl []) (tbl [])
def A_rights1 (r : Bool) : List (A Un) := [.c (.s (.bool r))]
def O_rights1 (_r : Bool) : List (Ob Un) := []
def R_rights1 (r : Bool) : RF Un := (A_rights1 r, O_rights1 r)
def N_rights1 : Nat → NS := fun l => (look l []).getD ⟨[], [], [], [], [], true⟩
def rights1_fn (v : Val) : Option (RF Un) := awf M_rights1 N_rights1 (bodyOf Try.f17) (entry Try.f17.ntmps 0 [.d (.agg (enc Ty.val v))]) (retF M_rights1 Try.f17.results.toList [.d])
theorem rights1_in (v : Val) : rights1_fn v =
 some (R_rights1 (!value_Right v)) := by kernel_rfl
def rights1 (v : Val) : Bool :=
  (!value_Right v)
theorem rights1_eq (v : Val) : rights1_fn v = some (R_rights1 (rights1 v)) := by rw [rights1_in]; unfold rights1; simp only [cndO_eq]; repeat (first | rfl | split)
def F_rights1 : FnC Un := fun args => match args with
  | [x0] => (dS .val x0).bind fun v => some ([], A_rights1 (rights1 v), O_rights1 (rights1 v))
  | _ => none
theorem ok_rights1 : FnOK 17 F_rights1 := by
  intro args ob rs os h hob
  unfold F_rights1 at h
  split at h
  · simp only [Option.bind_eq_some_iff, Option.some.injEq, Prod.mk.injEq] at h
    obtain ⟨v, e0, rfl, rfl, rfl⟩ := h
    obtain rfl := dS_eq e0
    exact ⟨fn_contractF (M := M_rights1) rfl (tbl_ok (l1 := [(18, F_value_Right)]) (l2 := []) (l3 := []) (l4 := []) (l5 := []) ⟨ok_value_Right, trivial⟩ trivial trivial trivial trivial) Try.func17 (by kernel_rfl) N_rights1 0 [.d] (fun hwf => (rights1_eq v)), hasBody_of Try.func17 (by kernel_rfl) (by kernel_rfl)⟩
  · simp at h
def V_rights1 : FV Un := fvo_S_val_to_b (fun v => True) (fun v => rights1 v)
theorem okV_rights1 : FvOK 17 V_rights1 := by
  refine ⟨hasBody_of Try.func17 (by kernel_rfl) (by kernel_rfl), fun args ob rs h hob => ?_⟩
  unfold V_rights1 fvo_S_val_to_b at h
  split at h
  · simp only [Option.bind_eq_some_iff, Option.some.injEq, Prod.mk.injEq] at h
    obtain ⟨v, e0, rfl, rfl⟩ := h
    simp only [List.map_cons, List.map_nil]
    rw [dS_eq e0]
    refine Contract.data (ok_rights1 _ ([]) _ _ (?_ : F_rights1 _ = some _) (by simp)).1
    unfold F_rights1
    simp only [dSk_mk]
    rfl
  · simp at h
def M_value_Rights : Mc Un := mach (tbl [(16, F_conf_row)]) (tbl [(17, V_rights1)]) (tbl []) (tbl []) (tbl [])
def A_value_Rights (r : Bool) : List (A Un) := [.c (.s (.bool r))]
def O_value_Rights (_r : Bool) : List (Ob Un) := []
def R_value_Rights (r : Bool) : RF Un := (A_value_Rights r, O_value_Rights r)
def N_value_Rights : Nat → NS := fun l => (look l []).getD ⟨[], [], [], [], [], true⟩
def value_Rights_fn (r : List Val) : Option (RF Un) := awf M_value_Rights N_value_Rights (bodyOf Try.f6) (entry Try.f6.ntmps 0 [.d (.v (.dat (U := Un) Ty.val r))]) (retF M_value_Rights Try.f6.results.toList [.d])
theorem value_Rights_in (r : List Val) : value_Rights_fn r =
 obO (V_rights1 = fvo_S_val_to_b (po_S_val_to_b V_rights1) (pf_S_val_to_b V_rights1))
  (obO (allO_vals (po_S_val_to_b V_rights1) r)
   (some (R_value_Rights (!conf_row r (po_S_val_to_b V_rights1) (pf_S_val_to_b V_rights1))))) := by kernel_rfl
def value_Rights (r : List Val) : Bool := r.all rightV
theorem value_Rights_spec (r : List Val) (_hr : WL .val r) : value_Rights_fn r = some (R_value_Rights (value_Rights r)) := by
  have o1 : po_S_val_to_b V_rights1 = fun _ => True := by unfold V_rights1; exact pofvo_S_val_to_b _ _
  have o2 : pf_S_val_to_b V_rights1 = rights1 := by unfold V_rights1; exact pffvo_S_val_to_b _ _
  have o3 : V_rights1 = fvo_S_val_to_b (po_S_val_to_b V_rights1) (pf_S_val_to_b V_rights1) := by rw [o1, o2]; rfl
  rw [value_Rights_in, obO_pos o3, o1, o2, obO_pos (show allO_vals _ r from fun _ _ => trivial)]
  unfold value_Rights conf_row rights1
  congr 2
  clear _hr
  induction r with
  | nil => rfl
  | cons x l ih => rw [List.any_cons, List.all_cons, Bool.not_or, ih, value_Right_eq, Bool.not_not]
def F_value_Rights : FnC Un := fun args => match args with
  | [x0] => (dL .val x0).bind fun r => some ([], A_value_Rights (value_Rights r), O_value_Rights (value_Rights r))
  | _ => none
theorem ok_value_Rights : FnOK 6 F_value_Rights := by
  intro args ob rs os h hob
  unfold F_value_Rights at h
  split at h
  · simp only [Option.bind_eq_some_iff, Option.some.injEq, Prod.mk.injEq] at h
    obtain ⟨r, e0, rfl, rfl, rfl⟩ := h
    obtain rfl := dL_eq e0
    exact ⟨fn_contractF (M := M_value_Rights) rfl (tbl_ok (l1 := [(16, F_conf_row)]) (l2 := [(17, V_rights1)]) (l3 := []) (l4 := []) (l5 := []) ⟨ok_conf_row, trivial⟩ ⟨okV_rights1, trivial⟩ trivial trivial trivial) Try.func6 (by kernel_rfl) N_value_Rights 0 [.d] (fun hwf => (value_Rights_spec r (wfArg hwf (a := .d (.v (.dat (U := Un) Ty.val r))) (List.mem_of_getElem? (i := 0) rfl)))), hasBody_of Try.func6 (by kernel_rfl) (by kernel_rfl)⟩
  · simp at h
def M_r26_begins : Mc Un := mach (tbl []) (tbl []) (tbl []) (tbl []) (tbl [])
def A_r26_begins (r : List Val) : List (A Un) := [.c (.sl (U := Un) Ty.val r false)]
def O_r26_begins (_r : List Val) : List (Ob Un) := []
def R_r26_begins (r : List Val) : RF Un := (A_r26_begins r, O_r26_begins r)
def N_r26_begins : Nat → NS := fun l => (look l []).getD ⟨[], [], [], [], [], true⟩
def r26_begins_fn (key : List Val) (n : Int) : Option (RF Un) := awf M_r26_begins N_r26_begins (bodyOf Try.f22) (entry Try.f22.ntmps 0 [.d (.v (.dat (U := Un) Ty.val key)), .d (.v (.s (.int .i64 n)))]) (retF M_r26_begins Try.f22.results.toList [.d])
theorem r26_begins_in (key : List Val) (n : Int) : r26_begins_fn key n =
 cndO (decide (n < (↑key.length : Int)))
  (obO (0 ≤ n ∧ n ≤ (↑key.length : Int))
   (some (R_r26_begins (List.take n.toNat key))))
  (some (R_r26_begins (key))) := by kernel_rfl
def r26_begins (key : List Val) (n : Int) : List Val := key.take n.toNat
theorem r26_begins_spec (key : List Val) (n : Int) (_hk : WL .val key) (_hn : WI n) (h : 0 ≤ n) : r26_begins_fn key n = some (R_r26_begins (r26_begins key n)) := by
  rw [r26_begins_in]
  unfold r26_begins
  simp only [cndO_eq, decide_eq_true_eq]
  by_cases h1 : n < (key.length : Int)
  · rw [if_pos h1, obO_pos (by omega)]
  · rw [if_neg h1, List.take_of_length_le (by omega)]
def F_r26_begins : FnC Un := fun args => match args with
  | [x0, x1] => (dL .val x0).bind fun key => (dI .i64 x1).bind fun n => some ([0 ≤ n], A_r26_begins (r26_begins key n), O_r26_begins (r26_begins key n))
  | _ => none
theorem ok_r26_begins : FnOK 22 F_r26_begins := by
  intro args ob rs os h hob
  unfold F_r26_begins at h
  split at h
  · simp only [Option.bind_eq_some_iff, Option.some.injEq, Prod.mk.injEq] at h
    obtain ⟨key, e0, n, e1, rfl, rfl, rfl⟩ := h
    obtain rfl := dL_eq e0
    obtain rfl := dI_eq e1
    exact ⟨fn_contractF (M := M_r26_begins) rfl (tbl_ok (l1 := []) (l2 := []) (l3 := []) (l4 := []) (l5 := []) trivial trivial trivial trivial trivial) Try.func22 (by kernel_rfl) N_r26_begins 0 [.d] (fun hwf => (r26_begins_spec key n (wfArg hwf (a := .d (.v (.dat (U := Un) Ty.val key))) (List.mem_of_getElem? (i := 0) rfl)) (wfArg hwf (a := .d (.v (.s (.int .i64 n)))) (List.mem_of_getElem? (i := 1) rfl)) (hob _ (List.mem_of_getElem? (i := 0) rfl)))), hasBody_of Try.func22 (by kernel_rfl) (by kernel_rfl)⟩
  · simp at h
def M_r26_Within : Mc Un := mach (tbl [(22, F_r26_begins), (21, F_r03_Orders)]) (tbl []) (tbl []) (tbl []) (tbl [])
def A_r26_Within (r : Bool) : List (A Un) := [.c (.s (.bool r))]
def O_r26_Within (_r : Bool) : List (Ob Un) := []
def R_r26_Within (r : Bool) : RF Un := (A_r26_Within r, O_r26_Within r)
def N_r26_Within : Nat → NS := fun l => (look l []).getD ⟨[], [], [], [], [], true⟩
def r26_Within_fn (key : List Val) (lo : Bound) (hi : Bound) : Option (RF Un) := awf M_r26_Within N_r26_Within (bodyOf Try.f8) (entry Try.f8.ntmps 0 [.d (.v (.dat (U := Un) Ty.val key)), .d (.agg (enc Ty.bound lo)), .d (.agg (enc Ty.bound hi))]) (retF M_r26_Within Try.f8.results.toList [.d])
def r26_Within_t1 (key : List Val) (hi : Bound) : Option (RF Un) :=
 cndO (!hi.is)
  (some (R_r26_Within (true)))
  (cndO (decide (r03_Orders (r26_begins key (↑hi.key.length : Int)) hi.key < 0))
   (some (R_r26_Within (true)))
   (cndO (r03_Orders (r26_begins key (↑hi.key.length : Int)) hi.key == 0)
    (some (R_r26_Within (!hi.open_)))
    (some (R_r26_Within (false)))))
theorem r26_Within_in (key : List Val) (lo : Bound) (hi : Bound) : r26_Within_fn key lo hi =
 obO ((0 : Int) ≤ (↑lo.key.length : Int))
  (obO ((0 : Int) ≤ (↑hi.key.length : Int))
   (cndO (lo.is)
    (cndO (decide (r03_Orders (r26_begins key (↑lo.key.length : Int)) lo.key < 0))
     (some (R_r26_Within (false)))
     (cndO (lo.open_)
      (cndO (r03_Orders (r26_begins key (↑lo.key.length : Int)) lo.key == 0)
       (some (R_r26_Within (false)))
       (r26_Within_t1 key hi))
      (r26_Within_t1 key hi)))
    (r26_Within_t1 key hi))) := by kernel_rfl
def withinB (key : List Val) (lo hi : Bound) : Bool :=
  !(lo.is && (decide (ordR (key.take lo.key.length) lo.key < 0) || (lo.open_ && decide (ordR (key.take lo.key.length) lo.key = 0)))) &&
  (!hi.is || decide (ordR (key.take hi.key.length) hi.key < 0) || (decide (ordR (key.take hi.key.length) hi.key = 0) && !hi.open_))
def r26_Within (key : List Val) (lo hi : Bound) : Bool := withinB key lo hi
theorem r26_Within_spec (key : List Val) (lo hi : Bound) (_hk : WL .val key) (_hl : WS .bound lo) (_hh : WS .bound hi) : r26_Within_fn key lo hi = some (R_r26_Within (r26_Within key lo hi)) := by
  rw [r26_Within_in, obO_pos (by omega), obO_pos (by omega)]
  unfold r26_Within r26_Within_t1 withinB r26_begins
  simp only [r03_Orders_eq, Int.toNat_natCast]
  generalize ordR (key.take lo.key.length) lo.key = a
  generalize ordR (key.take hi.key.length) hi.key = b
  have e0 : ∀ z : Int, (z == 0) = decide (z = 0) := fun z => by rw [Bool.eq_iff_iff]; simp
  simp only [e0]
  cases lo.is <;> cases lo.open_ <;> cases hi.is <;> cases hi.open_ <;> by_cases h1 : a < 0 <;> by_cases h2 : a = 0 <;> by_cases h3 : b < 0 <;> by_cases h4 : b = 0 <;> first | omega | simp [cndO, h1, h2, h3, h4]
def F_r26_Within : FnC Un := fun args => match args with
  | [x0, x1, x2] => (dL .val x0).bind fun key => (dS .bound x1).bind fun lo => (dS .bound x2).bind fun hi => some ([], A_r26_Within (r26_Within key lo hi), O_r26_Within (r26_Within key lo hi))
  | _ => none
theorem ok_r26_Within : FnOK 8 F_r26_Within := by
  intro args ob rs os h hob
  unfold F_r26_Within at h
  split at h
  · simp only [Option.bind_eq_some_iff, Option.some.injEq, Prod.mk.injEq] at h
    obtain ⟨key, e0, lo, e1, hi, e2, rfl, rfl, rfl⟩ := h
    obtain rfl := dL_eq e0
    obtain rfl := dS_eq e1
    obtain rfl := dS_eq e2
    exact ⟨fn_contractF (M := M_r26_Within) rfl (tbl_ok (l1 := [(22, F_r26_begins), (21, F_r03_Orders)]) (l2 := []) (l3 := []) (l4 := []) (l5 := []) ⟨ok_r26_begins, ok_r03_Orders, trivial⟩ trivial trivial trivial trivial) Try.func8 (by kernel_rfl) N_r26_Within 0 [.d] (fun hwf => (r26_Within_spec key lo hi (wfArg hwf (a := .d (.v (.dat (U := Un) Ty.val key))) (List.mem_of_getElem? (i := 0) rfl)) (wfArg hwf (a := .d (.agg (enc Ty.bound lo))) (List.mem_of_getElem? (i := 1) rfl)) (wfArg hwf (a := .d (.agg (enc Ty.bound hi))) (List.mem_of_getElem? (i := 2) rfl)))), hasBody_of Try.func8 (by kernel_rfl) (by kernel_rfl)⟩
  · simp at h
end
end Go.Proofs.Ytjmpnpkcgkhagaa.B
