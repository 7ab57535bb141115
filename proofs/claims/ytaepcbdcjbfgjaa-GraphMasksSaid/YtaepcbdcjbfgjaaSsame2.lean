/- Functions: same2. (Printed by wip/tools/mkfn.py out of wip/src/same2.src.) -/
import Derived.Test.YtaepcbdcjbfgjaaBAwf
import Derived.Test.YtaepcbdcjbfgjaaSspec
import Derived.Test.YtaepcbdcjbfgjaaSterms
import Derived.Test.YtaepcbdcjbfgjaaStermsz
import Derived.Test.YtaepcbdcjbfgjaaSsame
namespace Go.Proofs.Ytaepcbdcjbfgjaa.B
open Go Go.RowKit
set_option maxRecDepth 100000
noncomputable section
attribute [local irreducible] awp ctxK itersK iterK retQ retGQ awf ctxF loopF

/-! ### slices.EqualFunc[[]api.Rel,[]api.Rel,api.Rel,api.Rel] -/
def M_eqf_rel : Mc Un := mach (tbl []) (tbl []) (tbl []) (tbl []) (tbl [])
def A_eqf_rel (r : Bool) : List (A Un) := [.c (.s (.bool r))]
def O_eqf_rel (_r : Bool) : List (Ob Un) := []
def R_eqf_rel (r : Bool) : RF Un := (A_eqf_rel r, O_eqf_rel r)
def N_eqf_rel : Nat → NS := fun l => (look l [(4, { ts := bl 32 229446, bs := bl 32 0, nm := [] })]).getD ⟨[], [], [], [], []⟩
def eqf_rel_s4 (a : List Rel) (b : List Rel) (eq_o : Rel → Rel → Prop) (eq : Rel → Rel → Bool) (v0 : Int) : S Un := (st 32 32 128 0 [(1, al .rel b), (2, AV.one (A.c (C.fv (fvo_S_rel_S_rel_to_b eq_o eq)))), (6, ab false), (15, al .rel a), (16, ai (↑a.length : Int)), (17, ai v0)] [] [])
def eqf_rel_B4 : Code := sub (bodyOf Try.f38) [1, 1, 0, 1, 2, 2]
def eqf_rel_L4 : S Un → Option (EX Un) := loopF (N_eqf_rel 4) (fun s Q => awf M_eqf_rel N_eqf_rel eqf_rel_B4 s Q)
def eqf_rel_C4 : Exit → S Un → Option (RF Un) := ctxF M_eqf_rel N_eqf_rel (bodyOf Try.f38) [1, 1, 0, 1, 2] (retF M_eqf_rel Try.f38.results.toList [.d])
def eqf_rel_fn (a : List Rel) (b : List Rel) (eq_o : Rel → Rel → Prop) (eq : Rel → Rel → Bool) : Option (RF Un) := awf M_eqf_rel N_eqf_rel (bodyOf Try.f38) (entry Try.f38.ntmps 0 [.d (.v (.dat (U := Un) Ty.rel a)), .d (.v (.dat (U := Un) Ty.rel b)), .fn (fvo_S_rel_S_rel_to_b eq_o eq)]) (retF M_eqf_rel Try.f38.results.toList [.d])
theorem eqf_rel_in (a : List Rel) (b : List Rel) (eq_o : Rel → Rel → Prop) (eq : Rel → Rel → Bool) : eqf_rel_fn a b eq_o eq =
 cndO ((↑a.length : Int) != (↑b.length : Int))
  (some (R_eqf_rel (false)))
  ((eqf_rel_L4 (eqf_rel_s4 a b eq_o eq (0 : Int))).bind (thenX eqf_rel_C4)) := by kernel_rfl
theorem eqf_rel_l4 (a : List Rel) (b : List Rel) (eq_o : Rel → Rel → Prop) (eq : Rel → Rel → Bool) (v0 : Int) : eqf_rel_L4 (eqf_rel_s4 a b eq_o eq v0) =
 cndO (decide (v0 < (↑a.length : Int)))
  (obO (0 ≤ v0 ∧ v0 < (↑a.length : Int))
   (obO (0 ≤ v0 ∧ v0 < (↑b.length : Int))
    (obO (eq_o (Rel.ids (a.getD v0.toNat zeroRel)) (Rel.ids (b.getD v0.toNat zeroRel)))
     (cndO (!eq (Rel.ids (a.getD v0.toNat zeroRel)) (Rel.ids (b.getD v0.toNat zeroRel)))
      (some (.ret, (eqf_rel_s4 a b eq_o eq v0)))
      (eqf_rel_L4 (eqf_rel_s4 a b eq_o eq (IntKind.i64.wrap (v0 + 1))))))))
  (some (.exit 0, (eqf_rel_s4 a b eq_o eq v0))) := (loopF_eq (N_eqf_rel 4) eqf_rel_B4 _).trans (by kernel_rfl)
theorem eqf_rel_a4_ret (a : List Rel) (b : List Rel) (eq_o : Rel → Rel → Prop) (eq : Rel → Rel → Bool) (v0 : Int) : eqf_rel_C4 .ret (eqf_rel_s4 a b eq_o eq v0) =
 some (R_eqf_rel (false)) := by kernel_rfl
theorem eqf_rel_a4_x0 (a : List Rel) (b : List Rel) (eq_o : Rel → Rel → Prop) (eq : Rel → Rel → Bool) (v0 : Int) : eqf_rel_C4 (.exit 0) (eqf_rel_s4 a b eq_o eq v0) =
 some (R_eqf_rel (true)) := by kernel_rfl

def eqfO_rel (o : Rel → Rel → Prop) (a b : List Rel) : Prop := eqfO zeroRel o a b
def eqf_rel (a b : List Rel) (_o : Rel → Rel → Prop) (q : Rel → Rel → Bool) : Bool := eqfA q a b
theorem eqf_rel_spec (a b : List Rel) (o : Rel → Rel → Prop) (q : Rel → Rel → Bool) (ha : WL .rel a) (_hb : WL .rel b) (h : eqfO_rel o a b) : eqf_rel_fn a b o q = some (R_eqf_rel (eqf_rel a b o q)) := by
  rw [eqf_rel_in, cndO_eq]
  unfold eqf_rel
  by_cases hl : a.length = b.length
  · rw [if_neg (by simp [hl])]
    exact loop_all2 (L := eqf_rel_L4) (st := fun i => eqf_rel_s4 a b o q i) (fun r => some (R_eqf_rel r)) (d := zeroRel) q hl ha.len
      (fun i hi => by
        rw [eqf_rel_l4]
        simp only [cndO_eq, Rel.ids_eq, Int.toNat_natCast]
        rw [if_pos (by simp; omega), obO_pos (by omega), obO_pos (by omega), obO_pos (h hl i hi)]
        cases q (a.getD i zeroRel) (b.getD i zeroRel) <;> simp)
      (by rw [eqf_rel_l4]; simp [cndO_eq]) (fun i => eqf_rel_a4_ret _ _ _ _ _) (eqf_rel_a4_x0 _ _ _ _ _)
  · rw [if_pos (by simp; omega), eqfA_len hl]

def F_eqf_rel : FnC Un := fun args => match args with
  | [x0, x1, x2] => (dL .rel x0).bind fun a => (dL .rel x1).bind fun b => (dF x2).bind fun eq => some ([eq = (fvo_S_rel_S_rel_to_b (po_S_rel_S_rel_to_b eq) (pf_S_rel_S_rel_to_b eq)), eqfO_rel (po_S_rel_S_rel_to_b eq) a b], A_eqf_rel (eqf_rel a b (po_S_rel_S_rel_to_b eq) (pf_S_rel_S_rel_to_b eq)), O_eqf_rel (eqf_rel a b (po_S_rel_S_rel_to_b eq) (pf_S_rel_S_rel_to_b eq)))
  | _ => none

theorem ok_eqf_rel : FnOK 38 F_eqf_rel := by
  intro args ob rs os h hob
  unfold F_eqf_rel at h
  split at h
  · simp only [Option.bind_eq_some_iff, Option.some.injEq, Prod.mk.injEq] at h
    obtain ⟨a, e0, b, e1, eq, e2, rfl, rfl, rfl⟩ := h
    obtain rfl := dL_eq e0
    obtain rfl := dL_eq e1
    obtain rfl := dF_eq e2
    have hfv0 := hob _ (List.mem_of_getElem? (i := 0) rfl)
    generalize pf_S_rel_S_rel_to_b eq = pp0 at *
    generalize po_S_rel_S_rel_to_b eq = qq0 at *
    subst hfv0
    exact ⟨fn_contractF (M := M_eqf_rel) rfl (tbl_ok (l1 := []) (l2 := []) (l3 := []) (l4 := []) (l5 := []) trivial trivial trivial trivial trivial) Try.func38 (by kernel_rfl) N_eqf_rel 0 [.d] (fun hwf => (eqf_rel_spec a b qq0 pp0 (wfArg hwf (a := .d (.v (.dat (U := Un) Ty.rel a))) (List.mem_of_getElem? (i := 0) rfl)) (wfArg hwf (a := .d (.v (.dat (U := Un) Ty.rel b))) (List.mem_of_getElem? (i := 1) rfl)) (hob _ (List.mem_of_getElem? (i := 1) rfl)))), hasBody_of Try.func38 (by kernel_rfl) (by kernel_rfl)⟩
  · simp at h


/-! ### slices.EqualFunc[[]api.Agg,[]api.Agg,api.Agg,api.Agg] -/
def M_eqf_agg : Mc Un := mach (tbl []) (tbl []) (tbl []) (tbl []) (tbl [])
def A_eqf_agg (r : Bool) : List (A Un) := [.c (.s (.bool r))]
def O_eqf_agg (_r : Bool) : List (Ob Un) := []
def R_eqf_agg (r : Bool) : RF Un := (A_eqf_agg r, O_eqf_agg r)
def N_eqf_agg : Nat → NS := fun l => (look l [(4, { ts := bl 32 229446, bs := bl 32 0, nm := [] })]).getD ⟨[], [], [], [], []⟩
def eqf_agg_s4 (a : List Agg) (b : List Agg) (eq_o : Agg → Agg → Prop) (eq : Agg → Agg → Bool) (v0 : Int) : S Un := (st 32 32 128 0 [(1, al .agg b), (2, AV.one (A.c (C.fv (fvo_S_agg_S_agg_to_b eq_o eq)))), (6, ab false), (15, al .agg a), (16, ai (↑a.length : Int)), (17, ai v0)] [] [])
def eqf_agg_B4 : Code := sub (bodyOf Try.f72) [1, 1, 0, 1, 2, 2]
def eqf_agg_L4 : S Un → Option (EX Un) := loopF (N_eqf_agg 4) (fun s Q => awf M_eqf_agg N_eqf_agg eqf_agg_B4 s Q)
def eqf_agg_C4 : Exit → S Un → Option (RF Un) := ctxF M_eqf_agg N_eqf_agg (bodyOf Try.f72) [1, 1, 0, 1, 2] (retF M_eqf_agg Try.f72.results.toList [.d])
def eqf_agg_fn (a : List Agg) (b : List Agg) (eq_o : Agg → Agg → Prop) (eq : Agg → Agg → Bool) : Option (RF Un) := awf M_eqf_agg N_eqf_agg (bodyOf Try.f72) (entry Try.f72.ntmps 0 [.d (.v (.dat (U := Un) Ty.agg a)), .d (.v (.dat (U := Un) Ty.agg b)), .fn (fvo_S_agg_S_agg_to_b eq_o eq)]) (retF M_eqf_agg Try.f72.results.toList [.d])
theorem eqf_agg_in (a : List Agg) (b : List Agg) (eq_o : Agg → Agg → Prop) (eq : Agg → Agg → Bool) : eqf_agg_fn a b eq_o eq =
 cndO ((↑a.length : Int) != (↑b.length : Int))
  (some (R_eqf_agg (false)))
  ((eqf_agg_L4 (eqf_agg_s4 a b eq_o eq (0 : Int))).bind (thenX eqf_agg_C4)) := by kernel_rfl
theorem eqf_agg_l4 (a : List Agg) (b : List Agg) (eq_o : Agg → Agg → Prop) (eq : Agg → Agg → Bool) (v0 : Int) : eqf_agg_L4 (eqf_agg_s4 a b eq_o eq v0) =
 cndO (decide (v0 < (↑a.length : Int)))
  (obO (0 ≤ v0 ∧ v0 < (↑a.length : Int))
   (obO (0 ≤ v0 ∧ v0 < (↑b.length : Int))
    (obO (eq_o (Agg.ids (a.getD v0.toNat zeroAgg)) (Agg.ids (b.getD v0.toNat zeroAgg)))
     (cndO (!eq (Agg.ids (a.getD v0.toNat zeroAgg)) (Agg.ids (b.getD v0.toNat zeroAgg)))
      (some (.ret, (eqf_agg_s4 a b eq_o eq v0)))
      (eqf_agg_L4 (eqf_agg_s4 a b eq_o eq (IntKind.i64.wrap (v0 + 1))))))))
  (some (.exit 0, (eqf_agg_s4 a b eq_o eq v0))) := (loopF_eq (N_eqf_agg 4) eqf_agg_B4 _).trans (by kernel_rfl)
theorem eqf_agg_a4_ret (a : List Agg) (b : List Agg) (eq_o : Agg → Agg → Prop) (eq : Agg → Agg → Bool) (v0 : Int) : eqf_agg_C4 .ret (eqf_agg_s4 a b eq_o eq v0) =
 some (R_eqf_agg (false)) := by kernel_rfl
theorem eqf_agg_a4_x0 (a : List Agg) (b : List Agg) (eq_o : Agg → Agg → Prop) (eq : Agg → Agg → Bool) (v0 : Int) : eqf_agg_C4 (.exit 0) (eqf_agg_s4 a b eq_o eq v0) =
 some (R_eqf_agg (true)) := by kernel_rfl

def eqfO_agg (o : Agg → Agg → Prop) (a b : List Agg) : Prop := eqfO zeroAgg o a b
def eqf_agg (a b : List Agg) (_o : Agg → Agg → Prop) (q : Agg → Agg → Bool) : Bool := eqfA q a b
theorem eqf_agg_spec (a b : List Agg) (o : Agg → Agg → Prop) (q : Agg → Agg → Bool) (ha : WL .agg a) (_hb : WL .agg b) (h : eqfO_agg o a b) : eqf_agg_fn a b o q = some (R_eqf_agg (eqf_agg a b o q)) := by
  rw [eqf_agg_in, cndO_eq]
  unfold eqf_agg
  by_cases hl : a.length = b.length
  · rw [if_neg (by simp [hl])]
    exact loop_all2 (L := eqf_agg_L4) (st := fun i => eqf_agg_s4 a b o q i) (fun r => some (R_eqf_agg r)) (d := zeroAgg) q hl ha.len
      (fun i hi => by
        rw [eqf_agg_l4]
        simp only [cndO_eq, Agg.ids_eq, Int.toNat_natCast]
        rw [if_pos (by simp; omega), obO_pos (by omega), obO_pos (by omega), obO_pos (h hl i hi)]
        cases q (a.getD i zeroAgg) (b.getD i zeroAgg) <;> simp)
      (by rw [eqf_agg_l4]; simp [cndO_eq]) (fun i => eqf_agg_a4_ret _ _ _ _ _) (eqf_agg_a4_x0 _ _ _ _ _)
  · rw [if_pos (by simp; omega), eqfA_len hl]

def F_eqf_agg : FnC Un := fun args => match args with
  | [x0, x1, x2] => (dL .agg x0).bind fun a => (dL .agg x1).bind fun b => (dF x2).bind fun eq => some ([eq = (fvo_S_agg_S_agg_to_b (po_S_agg_S_agg_to_b eq) (pf_S_agg_S_agg_to_b eq)), eqfO_agg (po_S_agg_S_agg_to_b eq) a b], A_eqf_agg (eqf_agg a b (po_S_agg_S_agg_to_b eq) (pf_S_agg_S_agg_to_b eq)), O_eqf_agg (eqf_agg a b (po_S_agg_S_agg_to_b eq) (pf_S_agg_S_agg_to_b eq)))
  | _ => none

theorem ok_eqf_agg : FnOK 72 F_eqf_agg := by
  intro args ob rs os h hob
  unfold F_eqf_agg at h
  split at h
  · simp only [Option.bind_eq_some_iff, Option.some.injEq, Prod.mk.injEq] at h
    obtain ⟨a, e0, b, e1, eq, e2, rfl, rfl, rfl⟩ := h
    obtain rfl := dL_eq e0
    obtain rfl := dL_eq e1
    obtain rfl := dF_eq e2
    have hfv0 := hob _ (List.mem_of_getElem? (i := 0) rfl)
    generalize pf_S_agg_S_agg_to_b eq = pp0 at *
    generalize po_S_agg_S_agg_to_b eq = qq0 at *
    subst hfv0
    exact ⟨fn_contractF (M := M_eqf_agg) rfl (tbl_ok (l1 := []) (l2 := []) (l3 := []) (l4 := []) (l5 := []) trivial trivial trivial trivial trivial) Try.func72 (by kernel_rfl) N_eqf_agg 0 [.d] (fun hwf => (eqf_agg_spec a b qq0 pp0 (wfArg hwf (a := .d (.v (.dat (U := Un) Ty.agg a))) (List.mem_of_getElem? (i := 0) rfl)) (wfArg hwf (a := .d (.v (.dat (U := Un) Ty.agg b))) (List.mem_of_getElem? (i := 1) rfl)) (hob _ (List.mem_of_getElem? (i := 1) rfl)))), hasBody_of Try.func72 (by kernel_rfl) (by kernel_rfl)⟩
  · simp at h


end
end Go.Proofs.Ytaepcbdcjbfgjaa.B
