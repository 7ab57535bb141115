/- Functions: same4. (Printed by wip/tools/mkfn.py out of wip/src/same4.src.) -/
import Derived.Test.YtaepcbdcjbfgjaaBAwf
import Derived.Test.YtaepcbdcjbfgjaaSspec
import Derived.Test.YtaepcbdcjbfgjaaSterms
import Derived.Test.YtaepcbdcjbfgjaaStermsz
import Derived.Test.YtaepcbdcjbfgjaaSsame
import Derived.Test.YtaepcbdcjbfgjaaSsame2
import Derived.Test.YtaepcbdcjbfgjaaSsame3
namespace Go.Proofs.Ytaepcbdcjbfgjaa.B
open Go Go.RowKit
set_option maxRecDepth 100000
noncomputable section
attribute [local irreducible] awp ctxK itersK iterK retQ retGQ awf ctxF loopF

/-! ### algebra.sameRow -/
def M_algebra_sameRow : Mc Un := mach (tbl [(87, F_eql_val)]) (tbl []) (tbl []) (tbl []) (tbl [])
def A_algebra_sameRow (r : Bool) : List (A Un) := [.c (.s (.bool r))]
def O_algebra_sameRow (_r : Bool) : List (Ob Un) := []
def R_algebra_sameRow (r : Bool) : RF Un := (A_algebra_sameRow r, O_algebra_sameRow r)
def N_algebra_sameRow : Nat → NS := fun l => (look l []).getD ⟨[], [], [], [], []⟩
def algebra_sameRow_fn (a : List Val) (b : List Val) : Option (RF Un) := awf M_algebra_sameRow N_algebra_sameRow (bodyOf Try.f71) (entry Try.f71.ntmps 0 [.d (.v (.dat (U := Un) Ty.val a)), .d (.v (.dat (U := Un) Ty.val b))]) (retF M_algebra_sameRow Try.f71.results.toList [.d])
theorem algebra_sameRow_in (a : List Val) (b : List Val) : algebra_sameRow_fn a b =
 some (R_algebra_sameRow (eql_val a b)) := by kernel_rfl
def algebra_sameRow (a : List Val) (b : List Val) : Bool :=
  (eql_val a b)
theorem algebra_sameRow_eq (a : List Val) (b : List Val) : algebra_sameRow_fn a b = some (R_algebra_sameRow (algebra_sameRow a b)) := by rw [algebra_sameRow_in]; unfold algebra_sameRow; simp only [cndO_eq]; repeat (first | rfl | split)

def F_algebra_sameRow : FnC Un := fun args => match args with
  | [x0, x1] => (dL .val x0).bind fun a => (dL .val x1).bind fun b => some ([], A_algebra_sameRow (algebra_sameRow a b), O_algebra_sameRow (algebra_sameRow a b))
  | _ => none

theorem ok_algebra_sameRow : FnOK 71 F_algebra_sameRow := by
  intro args ob rs os h hob
  unfold F_algebra_sameRow at h
  split at h
  · simp only [Option.bind_eq_some_iff, Option.some.injEq, Prod.mk.injEq] at h
    obtain ⟨a, e0, b, e1, rfl, rfl, rfl⟩ := h
    obtain rfl := dL_eq e0
    obtain rfl := dL_eq e1
    exact ⟨fn_contractF (M := M_algebra_sameRow) rfl (tbl_ok (l1 := [(87, F_eql_val)]) (l2 := []) (l3 := []) (l4 := []) (l5 := []) ⟨ok_eql_val, trivial⟩ trivial trivial trivial trivial) Try.func71 (by kernel_rfl) N_algebra_sameRow 0 [.d] (fun hwf => (algebra_sameRow_eq a b)), hasBody_of Try.func71 (by kernel_rfl) (by kernel_rfl)⟩
  · simp at h

def V_algebra_sameRow : FV Un := fvo_L_val_L_val_to_b (fun a b => True) (fun a b => algebra_sameRow a b)

theorem okV_algebra_sameRow : FvOK 71 V_algebra_sameRow := by
  refine ⟨hasBody_of Try.func71 (by kernel_rfl) (by kernel_rfl), fun args ob rs h hob => ?_⟩
  unfold V_algebra_sameRow fvo_L_val_L_val_to_b at h
  split at h
  · simp only [Option.bind_eq_some_iff, Option.some.injEq, Prod.mk.injEq] at h
    obtain ⟨a, e0, b, e1, rfl, rfl⟩ := h
    simp only [List.map_cons, List.map_nil]
    rw [dL_eq e0]
    rw [dL_eq e1]
    refine Contract.data (ok_algebra_sameRow _ ([]) _ _ (?_ : F_algebra_sameRow _ = some _) (by simp)).1
    unfold F_algebra_sameRow
    simp only [dL_mk]
    rfl
  · simp at h


/-! ### slices.EqualFunc[[]api.Row,[]api.Row,api.Row,api.Row] -/
def M_eqf_row : Mc Un := mach (tbl []) (tbl []) (tbl []) (tbl []) (tbl [])
def A_eqf_row (r : Bool) : List (A Un) := [.c (.s (.bool r))]
def O_eqf_row (_r : Bool) : List (Ob Un) := []
def R_eqf_row (r : Bool) : RF Un := (A_eqf_row r, O_eqf_row r)
def N_eqf_row : Nat → NS := fun l => (look l [(4, { ts := bl 32 229446, bs := bl 32 0, nm := [] })]).getD ⟨[], [], [], [], []⟩
def eqf_row_s4 (a : List (List Val)) (b : List (List Val)) (eq_o : (List Val) → (List Val) → Prop) (eq : (List Val) → (List Val) → Bool) (v0 : Int) : S Un := (st 32 32 128 0 [(1, al .row b), (2, AV.one (A.c (C.fv (fvo_L_val_L_val_to_b eq_o eq)))), (6, ab false), (15, al .row a), (16, ai (↑a.length : Int)), (17, ai v0)] [] [])
def eqf_row_B4 : Code := sub (bodyOf Try.f70) [1, 1, 0, 1, 2, 2]
def eqf_row_L4 : S Un → Option (EX Un) := loopF (N_eqf_row 4) (fun s Q => awf M_eqf_row N_eqf_row eqf_row_B4 s Q)
def eqf_row_C4 : Exit → S Un → Option (RF Un) := ctxF M_eqf_row N_eqf_row (bodyOf Try.f70) [1, 1, 0, 1, 2] (retF M_eqf_row Try.f70.results.toList [.d])
def eqf_row_fn (a : List (List Val)) (b : List (List Val)) (eq_o : (List Val) → (List Val) → Prop) (eq : (List Val) → (List Val) → Bool) : Option (RF Un) := awf M_eqf_row N_eqf_row (bodyOf Try.f70) (entry Try.f70.ntmps 0 [.d (.v (.dat (U := Un) Ty.row a)), .d (.v (.dat (U := Un) Ty.row b)), .fn (fvo_L_val_L_val_to_b eq_o eq)]) (retF M_eqf_row Try.f70.results.toList [.d])
theorem eqf_row_in (a : List (List Val)) (b : List (List Val)) (eq_o : (List Val) → (List Val) → Prop) (eq : (List Val) → (List Val) → Bool) : eqf_row_fn a b eq_o eq =
 cndO ((↑a.length : Int) != (↑b.length : Int))
  (some (R_eqf_row (false)))
  ((eqf_row_L4 (eqf_row_s4 a b eq_o eq (0 : Int))).bind (thenX eqf_row_C4)) := by kernel_rfl
theorem eqf_row_l4 (a : List (List Val)) (b : List (List Val)) (eq_o : (List Val) → (List Val) → Prop) (eq : (List Val) → (List Val) → Bool) (v0 : Int) : eqf_row_L4 (eqf_row_s4 a b eq_o eq v0) =
 cndO (decide (v0 < (↑a.length : Int)))
  (obO (0 ≤ v0 ∧ v0 < (↑a.length : Int))
   (obO (0 ≤ v0 ∧ v0 < (↑b.length : Int))
    (obO (eq_o (a.getD v0.toNat []) (b.getD v0.toNat []))
     (cndO (!eq (a.getD v0.toNat []) (b.getD v0.toNat []))
      (some (.ret, (eqf_row_s4 a b eq_o eq v0)))
      (eqf_row_L4 (eqf_row_s4 a b eq_o eq (IntKind.i64.wrap (v0 + 1))))))))
  (some (.exit 0, (eqf_row_s4 a b eq_o eq v0))) := (loopF_eq (N_eqf_row 4) eqf_row_B4 _).trans (by kernel_rfl)
theorem eqf_row_a4_ret (a : List (List Val)) (b : List (List Val)) (eq_o : (List Val) → (List Val) → Prop) (eq : (List Val) → (List Val) → Bool) (v0 : Int) : eqf_row_C4 .ret (eqf_row_s4 a b eq_o eq v0) =
 some (R_eqf_row (false)) := by kernel_rfl
theorem eqf_row_a4_x0 (a : List (List Val)) (b : List (List Val)) (eq_o : (List Val) → (List Val) → Prop) (eq : (List Val) → (List Val) → Bool) (v0 : Int) : eqf_row_C4 (.exit 0) (eqf_row_s4 a b eq_o eq v0) =
 some (R_eqf_row (true)) := by kernel_rfl

def eqfO_row (o : List Val → List Val → Prop) (a b : List (List Val)) : Prop := eqfO [] o a b
def eqf_row (a b : List (List Val)) (_o : List Val → List Val → Prop) (q : List Val → List Val → Bool) : Bool := eqfA q a b
theorem eqf_row_spec (a b : List (List Val)) (o : List Val → List Val → Prop) (q : List Val → List Val → Bool) (ha : WL .row a) (_hb : WL .row b) (h : eqfO_row o a b) : eqf_row_fn a b o q = some (R_eqf_row (eqf_row a b o q)) := by
  rw [eqf_row_in, cndO_eq]
  unfold eqf_row
  by_cases hl : a.length = b.length
  · rw [if_neg (by simp [hl])]
    exact loop_all2 (L := eqf_row_L4) (st := fun i => eqf_row_s4 a b o q i) (fun r => some (R_eqf_row r)) (d := []) q hl ha.len
      (fun i hi => by
        rw [eqf_row_l4]
        simp only [cndO_eq, Int.toNat_natCast]
        rw [if_pos (by simp; omega), obO_pos (by omega), obO_pos (by omega), obO_pos (h hl i hi)]
        cases q (a.getD i []) (b.getD i []) <;> simp)
      (by rw [eqf_row_l4]; simp [cndO_eq]) (fun i => eqf_row_a4_ret _ _ _ _ _) (eqf_row_a4_x0 _ _ _ _ _)
  · rw [if_pos (by simp; omega), eqfA_len hl]

def F_eqf_row : FnC Un := fun args => match args with
  | [x0, x1, x2] => (dL .row x0).bind fun a => (dL .row x1).bind fun b => (dF x2).bind fun eq => some ([eq = (fvo_L_val_L_val_to_b (po_L_val_L_val_to_b eq) (pf_L_val_L_val_to_b eq)), eqfO_row (po_L_val_L_val_to_b eq) a b], A_eqf_row (eqf_row a b (po_L_val_L_val_to_b eq) (pf_L_val_L_val_to_b eq)), O_eqf_row (eqf_row a b (po_L_val_L_val_to_b eq) (pf_L_val_L_val_to_b eq)))
  | _ => none

theorem ok_eqf_row : FnOK 70 F_eqf_row := by
  intro args ob rs os h hob
  unfold F_eqf_row at h
  split at h
  · simp only [Option.bind_eq_some_iff, Option.some.injEq, Prod.mk.injEq] at h
    obtain ⟨a, e0, b, e1, eq, e2, rfl, rfl, rfl⟩ := h
    obtain rfl := dL_eq e0
    obtain rfl := dL_eq e1
    obtain rfl := dF_eq e2
    have hfv0 := hob _ (List.mem_of_getElem? (i := 0) rfl)
    generalize pf_L_val_L_val_to_b eq = pp0 at *
    generalize po_L_val_L_val_to_b eq = qq0 at *
    subst hfv0
    exact ⟨fn_contractF (M := M_eqf_row) rfl (tbl_ok (l1 := []) (l2 := []) (l3 := []) (l4 := []) (l5 := []) trivial trivial trivial trivial trivial) Try.func70 (by kernel_rfl) N_eqf_row 0 [.d] (fun hwf => (eqf_row_spec a b qq0 pp0 (wfArg hwf (a := .d (.v (.dat (U := Un) Ty.row a))) (List.mem_of_getElem? (i := 0) rfl)) (wfArg hwf (a := .d (.v (.dat (U := Un) Ty.row b))) (List.mem_of_getElem? (i := 1) rfl)) (hob _ (List.mem_of_getElem? (i := 1) rfl)))), hasBody_of Try.func70 (by kernel_rfl) (by kernel_rfl)⟩
  · simp at h


end
end Go.Proofs.Ytaepcbdcjbfgjaa.B
