/- Functions: ref15b. (Printed by wip/tools/mkfn.py out of wip/src/ref15b.src.) -/
import Derived.Test.YtaepcbdcjbfgjaaBAwf
import Derived.Test.YtaepcbdcjbfgjaaSspec
import Derived.Test.YtaepcbdcjbfgjaaSterms
import Derived.Test.YtaepcbdcjbfgjaaStermsz
import Derived.Test.YtaepcbdcjbfgjaaSconjspec
import Derived.Test.YtaepcbdcjbfgjaaSref03
import Derived.Test.YtaepcbdcjbfgjaaSsame
import Derived.Test.YtaepcbdcjbfgjaaSsame2
import Derived.Test.YtaepcbdcjbfgjaaSsame3
import Derived.Test.YtaepcbdcjbfgjaaSsame4
import Derived.Test.YtaepcbdcjbfgjaaSsame5
import Derived.Test.YtaepcbdcjbfgjaaSref15
namespace Go.Proofs.Ytaepcbdcjbfgjaa.B
open Go Go.RowKit
set_option maxRecDepth 100000
noncomputable section
attribute [local irreducible] awp ctxK itersK iterK retQ retGQ awf ctxF loopF

noncomputable def r15_Terms (a b : List Term) : Bool := deq a b
noncomputable def r15_Rels (a b : List Rel) : Bool := deq a b
noncomputable def r15_SameTerm (a b : Term) : Bool := deq a b
noncomputable def r15_Aggs (a b : List Agg) : Bool := deq a b
noncomputable def r15_SameRel (a b : Rel) : Bool := deq a b
theorem agg_deqb (x y : Agg) : deq x y = ((x.name.toList == y.name.toList) && ((x.distinct == y.distinct) && deq x.t y.t)) := by
  rw [Bool.eq_iff_iff, agg_deq]
  simp only [Bool.and_eq_true, beq_iff_eq, name_eq, deq_iff]
theorem cndO_nand {β : Type} (R : Bool → β) {q x : Bool} : cndO (!q) (some (R false)) (some (R x)) = some (R (q && x)) := by cases q <;> rfl

def A_r15_Terms (r : Bool) : List (A Un) := [.c (.s (.bool r))]
def O_r15_Terms (_r : Bool) : List (Ob Un) := []

def Fm_r15_Terms (m : Nat) : FnC Un := fun args => match args with
  | [x0, x1] => (dL .term x0).bind fun a => (dL .term x1).bind fun b => some ([2 * htTs a + 1 < m], A_r15_Terms (r15_Terms a b), O_r15_Terms (r15_Terms a b))
  | _ => none

def A_r15_Rels (r : Bool) : List (A Un) := [.c (.s (.bool r))]
def O_r15_Rels (_r : Bool) : List (Ob Un) := []

def Fm_r15_Rels (m : Nat) : FnC Un := fun args => match args with
  | [x0, x1] => (dL .rel x0).bind fun a => (dL .rel x1).bind fun b => some ([2 * htRs a + 1 < m], A_r15_Rels (r15_Rels a b), O_r15_Rels (r15_Rels a b))
  | _ => none

def A_r15_SameTerm (r : Bool) : List (A Un) := [.c (.s (.bool r))]
def O_r15_SameTerm (_r : Bool) : List (Ob Un) := []

def Fm_r15_SameTerm (m : Nat) : FnC Un := fun args => match args with
  | [x0, x1] => (dS .term x0).bind fun a => (dS .term x1).bind fun b => some ([2 * a.ht < m], A_r15_SameTerm (r15_SameTerm a b), O_r15_SameTerm (r15_SameTerm a b))
  | _ => none

def A_r15_Aggs (r : Bool) : List (A Un) := [.c (.s (.bool r))]
def O_r15_Aggs (_r : Bool) : List (Ob Un) := []

def Fm_r15_Aggs (m : Nat) : FnC Un := fun args => match args with
  | [x0, x1] => (dL .agg x0).bind fun a => (dL .agg x1).bind fun b => some ([2 * htAs a + 1 < m], A_r15_Aggs (r15_Aggs a b), O_r15_Aggs (r15_Aggs a b))
  | _ => none

def A_r15_SameRel (r : Bool) : List (A Un) := [.c (.s (.bool r))]
def O_r15_SameRel (_r : Bool) : List (Ob Un) := []

def Fm_r15_SameRel (m : Nat) : FnC Un := fun args => match args with
  | [x0, x1] => (dS .rel x0).bind fun a => (dS .rel x1).bind fun b => some ([2 * a.ht < m], A_r15_SameRel (r15_SameRel a b), O_r15_SameRel (r15_SameRel a b))
  | _ => none

/-! ### tabellionref15.Terms -/
def M_r15_Terms (m : Nat) : Mc Un := mach (tbl [(36, Fm_r15_SameTerm m)]) (tbl []) (tbl []) (tbl []) (tbl [])
def R_r15_Terms (r : Bool) : RF Un := (A_r15_Terms r, O_r15_Terms r)
def N_r15_Terms : Nat → NS := fun l => (look l [(2, { ts := bl 33 51, bs := bl 33 0, nm := [] })]).getD ⟨[], [], [], [], []⟩
def r15_Terms_s2 (a : List Term) (b : List Term) (v0 : Int) : S Un := (st 33 33 132 0 [(0, al .term a), (1, al .term b), (4, ab false), (5, ai v0)] [] [])
def r15_Terms_B2 : Code := sub (bodyOf Try.f66) [1, 0, 1, 2, 2]
def r15_Terms_L2 (m : Nat) : S Un → Option (EX Un) := loopF (N_r15_Terms 2) (fun s Q => awf (M_r15_Terms m) N_r15_Terms r15_Terms_B2 s Q)
def r15_Terms_C2 (m : Nat) : Exit → S Un → Option (RF Un) := ctxF (M_r15_Terms m) N_r15_Terms (bodyOf Try.f66) [1, 0, 1, 2] (retF (M_r15_Terms m) Try.f66.results.toList [.d])
def r15_Terms_fn (m : Nat) (a : List Term) (b : List Term) : Option (RF Un) := awf (M_r15_Terms m) N_r15_Terms (bodyOf Try.f66) (entry Try.f66.ntmps 0 [.d (.v (.dat (U := Un) Ty.term a)), .d (.v (.dat (U := Un) Ty.term b))]) (retF (M_r15_Terms m) Try.f66.results.toList [.d])
theorem r15_Terms_in (m : Nat) (a : List Term) (b : List Term) : r15_Terms_fn m a b =
 (r15_Terms_L2 m (r15_Terms_s2 a b (0 : Int))).bind (thenX (r15_Terms_C2 m)) := by kernel_rfl
theorem r15_Terms_l2 (m : Nat) (a : List Term) (b : List Term) (v0 : Int) : r15_Terms_L2 m (r15_Terms_s2 a b v0) =
 cndO (decide (v0 < (↑a.length : Int)))
  (cndO (decide (v0 < (↑b.length : Int)))
   (obO (0 ≤ v0 ∧ v0 < (↑a.length : Int))
    (obO (0 ≤ v0 ∧ v0 < (↑b.length : Int))
     (obO ((2 : Nat) * (Term.ids (a.getD v0.toNat zeroTerm)).ht < m)
      (cndO (!r15_SameTerm (Term.ids (a.getD v0.toNat zeroTerm)) (Term.ids (b.getD v0.toNat zeroTerm)))
       (some (.ret, (r15_Terms_s2 a b v0)))
       (r15_Terms_L2 m (r15_Terms_s2 a b (IntKind.i64.wrap (v0 + 1))))))))
   (some (.exit 0, (r15_Terms_s2 a b v0))))
  (some (.exit 0, (r15_Terms_s2 a b v0))) := (loopF_eq (N_r15_Terms 2) r15_Terms_B2 _).trans (by kernel_rfl)
theorem r15_Terms_a2_ret (m : Nat) (a : List Term) (b : List Term) (v0 : Int) : r15_Terms_C2 m .ret (r15_Terms_s2 a b v0) =
 some (R_r15_Terms (false)) := by kernel_rfl
theorem r15_Terms_a2_x0 (m : Nat) (a : List Term) (b : List Term) (v0 : Int) : r15_Terms_C2 m (.exit 0) (r15_Terms_s2 a b v0) =
 some (R_r15_Terms ((↑a.length : Int) == (↑b.length : Int))) := by kernel_rfl

theorem r15_Terms_spec (m : Nat) (a b : List Term) (ha : WL .term a) (_hb : WL .term b) (h : 2 * htTs a + 1 < m + 1) : r15_Terms_fn m a b = some (R_r15_Terms (r15_Terms a b)) := by
  rw [r15_Terms_in]
  exact loop_pre (L := r15_Terms_L2 m) (st := fun i => r15_Terms_s2 a b i) (fun r => some (R_r15_Terms r)) (d := zeroTerm) ha.len
    (fun i hi hj => by
      have hht := htTs_mem (getD_mem (d := zeroTerm) hi)
      rw [r15_Terms_l2]
      simp only [Term.ids_eq, cndO_eq, Int.toNat_natCast, r15_SameTerm]
      rw [if_pos (by simp; omega), if_pos (by simp; omega), obO_pos (by omega), obO_pos (by omega), obO_pos (by omega)]
      cases deq (a.getD i zeroTerm) (b.getD i zeroTerm) <;> simp)
    (fun i h => by
      rw [r15_Terms_l2]
      simp only [cndO_eq, decide_eq_true_eq]
      by_cases h1 : (i : Int) < (a.length : Int)
      · rw [if_pos h1, if_neg (by omega)]
      · rw [if_neg h1])
    (fun i => r15_Terms_a2_ret _ _ _ _) (fun i => r15_Terms_a2_x0 _ _ _ _)

theorem okm_r15_Terms (m : Nat) (h_r15_Terms : FnOK 66 (Fm_r15_Terms m)) (h_r15_Rels : FnOK 67 (Fm_r15_Rels m)) (h_r15_SameTerm : FnOK 36 (Fm_r15_SameTerm m)) (h_r15_Aggs : FnOK 107 (Fm_r15_Aggs m)) (h_r15_SameRel : FnOK 86 (Fm_r15_SameRel m)) : FnOK 66 (Fm_r15_Terms (m + 1)) := by
  intro args ob rs os h hob
  unfold Fm_r15_Terms at h
  split at h
  · simp only [Option.bind_eq_some_iff, Option.some.injEq, Prod.mk.injEq] at h
    obtain ⟨a, e0, b, e1, rfl, rfl, rfl⟩ := h
    obtain rfl := dL_eq e0
    obtain rfl := dL_eq e1
    exact ⟨fn_contractF (M := (M_r15_Terms m)) rfl (tbl_ok (l1 := [(36, Fm_r15_SameTerm m)]) (l2 := []) (l3 := []) (l4 := []) (l5 := []) ⟨h_r15_SameTerm, trivial⟩ trivial trivial trivial trivial) Try.func66 (by kernel_rfl) N_r15_Terms 0 [.d] (fun hwf => (r15_Terms_spec m a b (wfArg hwf (a := .d (.v (.dat (U := Un) Ty.term a))) (List.mem_of_getElem? (i := 0) rfl)) (wfArg hwf (a := .d (.v (.dat (U := Un) Ty.term b))) (List.mem_of_getElem? (i := 1) rfl)) (hob _ (List.mem_of_getElem? (i := 0) rfl)))), hasBody_of Try.func66 (by kernel_rfl) (by kernel_rfl)⟩
  · simp at h


/-! ### tabellionref15.Rels -/
def M_r15_Rels (m : Nat) : Mc Un := mach (tbl [(86, Fm_r15_SameRel m)]) (tbl []) (tbl []) (tbl []) (tbl [])
def R_r15_Rels (r : Bool) : RF Un := (A_r15_Rels r, O_r15_Rels r)
def N_r15_Rels : Nat → NS := fun l => (look l [(2, { ts := bl 33 51, bs := bl 33 0, nm := [] })]).getD ⟨[], [], [], [], []⟩
def r15_Rels_s2 (a : List Rel) (b : List Rel) (v0 : Int) : S Un := (st 33 33 132 0 [(0, al .rel a), (1, al .rel b), (4, ab false), (5, ai v0)] [] [])
def r15_Rels_B2 : Code := sub (bodyOf Try.f67) [1, 0, 1, 2, 2]
def r15_Rels_L2 (m : Nat) : S Un → Option (EX Un) := loopF (N_r15_Rels 2) (fun s Q => awf (M_r15_Rels m) N_r15_Rels r15_Rels_B2 s Q)
def r15_Rels_C2 (m : Nat) : Exit → S Un → Option (RF Un) := ctxF (M_r15_Rels m) N_r15_Rels (bodyOf Try.f67) [1, 0, 1, 2] (retF (M_r15_Rels m) Try.f67.results.toList [.d])
def r15_Rels_fn (m : Nat) (a : List Rel) (b : List Rel) : Option (RF Un) := awf (M_r15_Rels m) N_r15_Rels (bodyOf Try.f67) (entry Try.f67.ntmps 0 [.d (.v (.dat (U := Un) Ty.rel a)), .d (.v (.dat (U := Un) Ty.rel b))]) (retF (M_r15_Rels m) Try.f67.results.toList [.d])
theorem r15_Rels_in (m : Nat) (a : List Rel) (b : List Rel) : r15_Rels_fn m a b =
 (r15_Rels_L2 m (r15_Rels_s2 a b (0 : Int))).bind (thenX (r15_Rels_C2 m)) := by kernel_rfl
theorem r15_Rels_l2 (m : Nat) (a : List Rel) (b : List Rel) (v0 : Int) : r15_Rels_L2 m (r15_Rels_s2 a b v0) =
 cndO (decide (v0 < (↑a.length : Int)))
  (cndO (decide (v0 < (↑b.length : Int)))
   (obO (0 ≤ v0 ∧ v0 < (↑a.length : Int))
    (obO (0 ≤ v0 ∧ v0 < (↑b.length : Int))
     (obO ((2 : Nat) * (Rel.ids (a.getD v0.toNat zeroRel)).ht < m)
      (cndO (!r15_SameRel (Rel.ids (a.getD v0.toNat zeroRel)) (Rel.ids (b.getD v0.toNat zeroRel)))
       (some (.ret, (r15_Rels_s2 a b v0)))
       (r15_Rels_L2 m (r15_Rels_s2 a b (IntKind.i64.wrap (v0 + 1))))))))
   (some (.exit 0, (r15_Rels_s2 a b v0))))
  (some (.exit 0, (r15_Rels_s2 a b v0))) := (loopF_eq (N_r15_Rels 2) r15_Rels_B2 _).trans (by kernel_rfl)
theorem r15_Rels_a2_ret (m : Nat) (a : List Rel) (b : List Rel) (v0 : Int) : r15_Rels_C2 m .ret (r15_Rels_s2 a b v0) =
 some (R_r15_Rels (false)) := by kernel_rfl
theorem r15_Rels_a2_x0 (m : Nat) (a : List Rel) (b : List Rel) (v0 : Int) : r15_Rels_C2 m (.exit 0) (r15_Rels_s2 a b v0) =
 some (R_r15_Rels ((↑a.length : Int) == (↑b.length : Int))) := by kernel_rfl

theorem r15_Rels_spec (m : Nat) (a b : List Rel) (ha : WL .rel a) (_hb : WL .rel b) (h : 2 * htRs a + 1 < m + 1) : r15_Rels_fn m a b = some (R_r15_Rels (r15_Rels a b)) := by
  rw [r15_Rels_in]
  exact loop_pre (L := r15_Rels_L2 m) (st := fun i => r15_Rels_s2 a b i) (fun r => some (R_r15_Rels r)) (d := zeroRel) ha.len
    (fun i hi hj => by
      have hht := htRs_mem (getD_mem (d := zeroRel) hi)
      rw [r15_Rels_l2]
      simp only [Rel.ids_eq, cndO_eq, Int.toNat_natCast, r15_SameRel]
      rw [if_pos (by simp; omega), if_pos (by simp; omega), obO_pos (by omega), obO_pos (by omega), obO_pos (by omega)]
      cases deq (a.getD i zeroRel) (b.getD i zeroRel) <;> simp)
    (fun i h => by
      rw [r15_Rels_l2]
      simp only [cndO_eq, decide_eq_true_eq]
      by_cases h1 : (i : Int) < (a.length : Int)
      · rw [if_pos h1, if_neg (by omega)]
      · rw [if_neg h1])
    (fun i => r15_Rels_a2_ret _ _ _ _) (fun i => r15_Rels_a2_x0 _ _ _ _)

theorem okm_r15_Rels (m : Nat) (h_r15_Terms : FnOK 66 (Fm_r15_Terms m)) (h_r15_Rels : FnOK 67 (Fm_r15_Rels m)) (h_r15_SameTerm : FnOK 36 (Fm_r15_SameTerm m)) (h_r15_Aggs : FnOK 107 (Fm_r15_Aggs m)) (h_r15_SameRel : FnOK 86 (Fm_r15_SameRel m)) : FnOK 67 (Fm_r15_Rels (m + 1)) := by
  intro args ob rs os h hob
  unfold Fm_r15_Rels at h
  split at h
  · simp only [Option.bind_eq_some_iff, Option.some.injEq, Prod.mk.injEq] at h
    obtain ⟨a, e0, b, e1, rfl, rfl, rfl⟩ := h
    obtain rfl := dL_eq e0
    obtain rfl := dL_eq e1
    exact ⟨fn_contractF (M := (M_r15_Rels m)) rfl (tbl_ok (l1 := [(86, Fm_r15_SameRel m)]) (l2 := []) (l3 := []) (l4 := []) (l5 := []) ⟨h_r15_SameRel, trivial⟩ trivial trivial trivial trivial) Try.func67 (by kernel_rfl) N_r15_Rels 0 [.d] (fun hwf => (r15_Rels_spec m a b (wfArg hwf (a := .d (.v (.dat (U := Un) Ty.rel a))) (List.mem_of_getElem? (i := 0) rfl)) (wfArg hwf (a := .d (.v (.dat (U := Un) Ty.rel b))) (List.mem_of_getElem? (i := 1) rfl)) (hob _ (List.mem_of_getElem? (i := 0) rfl)))), hasBody_of Try.func67 (by kernel_rfl) (by kernel_rfl)⟩
  · simp at h


/-! ### tabellionref15.SameTerm -/
def M_r15_SameTerm (m : Nat) : Mc Un := mach (tbl [(66, Fm_r15_Terms m), (67, Fm_r15_Rels m)]) (tbl []) (tbl []) (tbl []) (tbl [])
def R_r15_SameTerm (r : Bool) : RF Un := (A_r15_SameTerm r, O_r15_SameTerm r)
def N_r15_SameTerm : Nat → NS := fun l => (look l []).getD ⟨[], [], [], [], []⟩
def r15_SameTerm_fn (m : Nat) (a : Term) (b : Term) : Option (RF Un) := awf (M_r15_SameTerm m) N_r15_SameTerm (bodyOf Try.f36) (entry Try.f36.ntmps 0 [.d (.agg (enc Ty.term a)), .d (.agg (enc Ty.term b))]) (retF (M_r15_SameTerm m) Try.f36.results.toList [.d])
theorem r15_SameTerm_in (m : Nat) (a : Term) (b : Term) : r15_SameTerm_fn m a b =
 cndO (a.op == b.op)
  (cndO (andB [EK.int IntKind.i64, EK.str] (a.v.kind == b.v.kind) (andB [EK.str] (a.v.n == b.v.n) (andB [] (a.v.s.toList == b.v.s.toList) true)))
   (cndO (a.depth == b.depth)
    (cndO (a.at_ == b.at_)
     (cndO (a.name.toList == b.name.toList)
      (cndO (a.type == b.type)
       (obO ((2 : Nat) * htTs a.kids + (1 : Nat) < m)
        (cndO (r15_Terms a.kids b.kids)
         (obO ((2 : Nat) * htRs a.sub + (1 : Nat) < m)
          (some (R_r15_SameTerm (r15_Rels a.sub b.sub))))
         (some (R_r15_SameTerm (false)))))
       (some (R_r15_SameTerm (false))))
      (some (R_r15_SameTerm (false))))
     (some (R_r15_SameTerm (false))))
    (some (R_r15_SameTerm (false))))
   (some (R_r15_SameTerm (false))))
  (some (R_r15_SameTerm (false))) := by kernel_rfl

theorem r15_SameTerm_spec (m : Nat) (a b : Term) (_ha : WS .term a) (_hb : WS .term b) (h : 2 * a.ht < m + 1) : r15_SameTerm_fn m a b = some (R_r15_SameTerm (r15_SameTerm a b)) := by
  have hk : htTs a.kids < a.ht ∧ htRs a.sub < a.ht := by cases a; simp only [Term.ht, Term.kids_mk, Term.sub_mk]; omega
  rw [r15_SameTerm_in, eqVal, obO_pos (by omega), obO_pos (by omega)]
  simp only [cndO_and R_r15_SameTerm]
  congr 2
  unfold r15_SameTerm r15_Terms r15_Rels
  rw [Bool.eq_iff_iff, term_deq]
  simp only [Bool.and_eq_true, beq_iff_eq, name_eq, deq_iff]

theorem okm_r15_SameTerm (m : Nat) (h_r15_Terms : FnOK 66 (Fm_r15_Terms m)) (h_r15_Rels : FnOK 67 (Fm_r15_Rels m)) (h_r15_SameTerm : FnOK 36 (Fm_r15_SameTerm m)) (h_r15_Aggs : FnOK 107 (Fm_r15_Aggs m)) (h_r15_SameRel : FnOK 86 (Fm_r15_SameRel m)) : FnOK 36 (Fm_r15_SameTerm (m + 1)) := by
  intro args ob rs os h hob
  unfold Fm_r15_SameTerm at h
  split at h
  · simp only [Option.bind_eq_some_iff, Option.some.injEq, Prod.mk.injEq] at h
    obtain ⟨a, e0, b, e1, rfl, rfl, rfl⟩ := h
    obtain rfl := dS_eq e0
    obtain rfl := dS_eq e1
    exact ⟨fn_contractF (M := (M_r15_SameTerm m)) rfl (tbl_ok (l1 := [(66, Fm_r15_Terms m), (67, Fm_r15_Rels m)]) (l2 := []) (l3 := []) (l4 := []) (l5 := []) ⟨h_r15_Terms, h_r15_Rels, trivial⟩ trivial trivial trivial trivial) Try.func36 (by kernel_rfl) N_r15_SameTerm 0 [.d] (fun hwf => (r15_SameTerm_spec m a b (wfArg hwf (a := .d (.agg (enc Ty.term a))) (List.mem_of_getElem? (i := 0) rfl)) (wfArg hwf (a := .d (.agg (enc Ty.term b))) (List.mem_of_getElem? (i := 1) rfl)) (hob _ (List.mem_of_getElem? (i := 0) rfl)))), hasBody_of Try.func36 (by kernel_rfl) (by kernel_rfl)⟩
  · simp at h


/-! ### tabellionref15.Aggs -/
def M_r15_Aggs (m : Nat) : Mc Un := mach (tbl [(66, Fm_r15_Terms m)]) (tbl []) (tbl []) (tbl []) (tbl [])
def R_r15_Aggs (r : Bool) : RF Un := (A_r15_Aggs r, O_r15_Aggs r)
def N_r15_Aggs : Nat → NS := fun l => (look l [(2, { ts := bl 61 51, bs := bl 61 0, nm := [] })]).getD ⟨[], [], [], [], []⟩
def r15_Aggs_s2 (a : List Agg) (b : List Agg) (v0 : Int) : S Un := (st 61 61 244 0 [(0, al .agg a), (1, al .agg b), (4, ab false), (5, ai v0)] [] [])
def r15_Aggs_B2 : Code := sub (bodyOf Try.f107) [1, 0, 1, 2, 2]
def r15_Aggs_L2 (m : Nat) : S Un → Option (EX Un) := loopF (N_r15_Aggs 2) (fun s Q => awf (M_r15_Aggs m) N_r15_Aggs r15_Aggs_B2 s Q)
def r15_Aggs_C2 (m : Nat) : Exit → S Un → Option (RF Un) := ctxF (M_r15_Aggs m) N_r15_Aggs (bodyOf Try.f107) [1, 0, 1, 2] (retF (M_r15_Aggs m) Try.f107.results.toList [.d])
def r15_Aggs_fn (m : Nat) (a : List Agg) (b : List Agg) : Option (RF Un) := awf (M_r15_Aggs m) N_r15_Aggs (bodyOf Try.f107) (entry Try.f107.ntmps 0 [.d (.v (.dat (U := Un) Ty.agg a)), .d (.v (.dat (U := Un) Ty.agg b))]) (retF (M_r15_Aggs m) Try.f107.results.toList [.d])
theorem r15_Aggs_in (m : Nat) (a : List Agg) (b : List Agg) : r15_Aggs_fn m a b =
 (r15_Aggs_L2 m (r15_Aggs_s2 a b (0 : Int))).bind (thenX (r15_Aggs_C2 m)) := by kernel_rfl
theorem r15_Aggs_l2 (m : Nat) (a : List Agg) (b : List Agg) (v0 : Int) : r15_Aggs_L2 m (r15_Aggs_s2 a b v0) =
 cndO (decide (v0 < (↑a.length : Int)))
  (cndO (decide (v0 < (↑b.length : Int)))
   (obO (0 ≤ v0 ∧ v0 < (↑a.length : Int))
    (obO (0 ≤ v0 ∧ v0 < (↑b.length : Int))
     (cndO (!(Agg.name (a.getD v0.toNat zeroAgg)).toList == (Agg.name (b.getD v0.toNat zeroAgg)).toList)
      (some (.ret, (r15_Aggs_s2 a b v0)))
      (obO (0 ≤ v0 ∧ v0 < (↑a.length : Int))
       (obO (0 ≤ v0 ∧ v0 < (↑b.length : Int))
        (cndO (!Agg.distinct (a.getD v0.toNat zeroAgg) == Agg.distinct (b.getD v0.toNat zeroAgg))
         (some (.ret, (r15_Aggs_s2 a b v0)))
         (obO (0 ≤ v0 ∧ v0 < (↑a.length : Int))
          (obO (0 ≤ v0 ∧ v0 < (↑b.length : Int))
           (obO ((2 : Nat) * htTs (Agg.t (a.getD v0.toNat zeroAgg)) + (1 : Nat) < m)
            (cndO (!r15_Terms (Agg.t (a.getD v0.toNat zeroAgg)) (Agg.t (b.getD v0.toNat zeroAgg)))
             (some (.ret, (r15_Aggs_s2 a b v0)))
             (r15_Aggs_L2 m (r15_Aggs_s2 a b (IntKind.i64.wrap (v0 + 1))))))))))))))
   (some (.exit 0, (r15_Aggs_s2 a b v0))))
  (some (.exit 0, (r15_Aggs_s2 a b v0))) := (loopF_eq (N_r15_Aggs 2) r15_Aggs_B2 _).trans (by kernel_rfl)
theorem r15_Aggs_a2_ret (m : Nat) (a : List Agg) (b : List Agg) (v0 : Int) : r15_Aggs_C2 m .ret (r15_Aggs_s2 a b v0) =
 some (R_r15_Aggs (false)) := by kernel_rfl
theorem r15_Aggs_a2_x0 (m : Nat) (a : List Agg) (b : List Agg) (v0 : Int) : r15_Aggs_C2 m (.exit 0) (r15_Aggs_s2 a b v0) =
 some (R_r15_Aggs ((↑a.length : Int) == (↑b.length : Int))) := by kernel_rfl

theorem r15_Aggs_spec (m : Nat) (a b : List Agg) (ha : WL .agg a) (_hb : WL .agg b) (h : 2 * htAs a + 1 < m + 1) : r15_Aggs_fn m a b = some (R_r15_Aggs (r15_Aggs a b)) := by
  rw [r15_Aggs_in]
  exact loop_pre (L := r15_Aggs_L2 m) (st := fun i => r15_Aggs_s2 a b i) (fun r => some (R_r15_Aggs r)) (d := zeroAgg) ha.len
    (fun i hi hj => by
      have hht := htAs_mem (getD_mem (d := zeroAgg) hi)
      have hxh : htTs (a.getD i zeroAgg).t < (a.getD i zeroAgg).ht := by cases (a.getD i zeroAgg); simp only [Agg.ht, Agg.t_mk]; omega
      rw [r15_Aggs_l2, agg_deqb]
      simp only [cndO_eq, Int.toNat_natCast, r15_Terms]
      rw [if_pos (by simp; omega), if_pos (by simp; omega), obO_pos (by omega), obO_pos (by omega), obO_pos (by omega), obO_pos (by omega), obO_pos (by omega), obO_pos (by omega), obO_pos (by omega)]
      cases ((a.getD i zeroAgg).name.toList == (b.getD i zeroAgg).name.toList) <;> cases ((a.getD i zeroAgg).distinct == (b.getD i zeroAgg).distinct) <;> cases deq (a.getD i zeroAgg).t (b.getD i zeroAgg).t <;> simp)
    (fun i h => by
      rw [r15_Aggs_l2]
      simp only [cndO_eq, decide_eq_true_eq]
      by_cases h1 : (i : Int) < (a.length : Int)
      · rw [if_pos h1, if_neg (by omega)]
      · rw [if_neg h1])
    (fun i => r15_Aggs_a2_ret _ _ _ _) (fun i => r15_Aggs_a2_x0 _ _ _ _)

theorem okm_r15_Aggs (m : Nat) (h_r15_Terms : FnOK 66 (Fm_r15_Terms m)) (h_r15_Rels : FnOK 67 (Fm_r15_Rels m)) (h_r15_SameTerm : FnOK 36 (Fm_r15_SameTerm m)) (h_r15_Aggs : FnOK 107 (Fm_r15_Aggs m)) (h_r15_SameRel : FnOK 86 (Fm_r15_SameRel m)) : FnOK 107 (Fm_r15_Aggs (m + 1)) := by
  intro args ob rs os h hob
  unfold Fm_r15_Aggs at h
  split at h
  · simp only [Option.bind_eq_some_iff, Option.some.injEq, Prod.mk.injEq] at h
    obtain ⟨a, e0, b, e1, rfl, rfl, rfl⟩ := h
    obtain rfl := dL_eq e0
    obtain rfl := dL_eq e1
    exact ⟨fn_contractF (M := (M_r15_Aggs m)) rfl (tbl_ok (l1 := [(66, Fm_r15_Terms m)]) (l2 := []) (l3 := []) (l4 := []) (l5 := []) ⟨h_r15_Terms, trivial⟩ trivial trivial trivial trivial) Try.func107 (by kernel_rfl) N_r15_Aggs 0 [.d] (fun hwf => (r15_Aggs_spec m a b (wfArg hwf (a := .d (.v (.dat (U := Un) Ty.agg a))) (List.mem_of_getElem? (i := 0) rfl)) (wfArg hwf (a := .d (.v (.dat (U := Un) Ty.agg b))) (List.mem_of_getElem? (i := 1) rfl)) (hob _ (List.mem_of_getElem? (i := 0) rfl)))), hasBody_of Try.func107 (by kernel_rfl) (by kernel_rfl)⟩
  · simp at h


/-! ### tabellionref15.SameRel -/
def M_r15_SameRel (m : Nat) : Mc Un := mach (tbl [(104, F_r15_Cols), (105, F_r15_Keys), (106, F_r03_List), (66, Fm_r15_Terms m), (107, Fm_r15_Aggs m), (67, Fm_r15_Rels m)]) (tbl []) (tbl []) (tbl []) (tbl [])
def R_r15_SameRel (r : Bool) : RF Un := (A_r15_SameRel r, O_r15_SameRel r)
def N_r15_SameRel : Nat → NS := fun l => (look l []).getD ⟨[], [], [], [], []⟩
def r15_SameRel_fn (m : Nat) (a : Rel) (b : Rel) : Option (RF Un) := awf (M_r15_SameRel m) N_r15_SameRel (bodyOf Try.f86) (entry Try.f86.ntmps 0 [.d (.agg (enc Ty.rel a)), .d (.agg (enc Ty.rel b))]) (retF (M_r15_SameRel m) Try.f86.results.toList [.d])
theorem r15_SameRel_in (m : Nat) (a : Rel) (b : Rel) : r15_SameRel_fn m a b =
 cndO (a.op != b.op)
  (some (R_r15_SameRel (false)))
  (cndO (!a.table.toList == b.table.toList)
   (some (R_r15_SameRel (false)))
   (cndO (a.limit != b.limit)
    (some (R_r15_SameRel (false)))
    (cndO (a.skip != b.skip)
     (some (R_r15_SameRel (false)))
     (cndO (!a.all == b.all)
      (some (R_r15_SameRel (false)))
      (cndO (!r15_Cols a.cols b.cols)
       (some (R_r15_SameRel (false)))
       (cndO (!r15_Keys a.keys b.keys)
        (some (R_r15_SameRel (false)))
        (cndO (r03_List a.rows b.rows)
         (obO ((2 : Nat) * htTs a.terms + (1 : Nat) < m)
          (cndO (r15_Terms a.terms b.terms)
           (obO ((2 : Nat) * htAs a.aggs + (1 : Nat) < m)
            (cndO (r15_Aggs a.aggs b.aggs)
             (obO ((2 : Nat) * htRs a.kids + (1 : Nat) < m)
              (some (R_r15_SameRel (r15_Rels a.kids b.kids))))
             (some (R_r15_SameRel (false)))))
           (some (R_r15_SameRel (false)))))
         (some (R_r15_SameRel (false)))))))))) := by kernel_rfl

theorem r15_SameRel_spec (m : Nat) (a b : Rel) (_ha : WS .rel a) (_hb : WS .rel b) (h : 2 * a.ht < m + 1) : r15_SameRel_fn m a b = some (R_r15_SameRel (r15_SameRel a b)) := by
  have hk : htTs a.terms < a.ht ∧ htAs a.aggs < a.ht ∧ htRs a.kids < a.ht := by cases a; simp only [Rel.ht, Rel.kids_mk, Rel.terms_mk, Rel.aggs_mk]; omega
  rw [r15_SameRel_in, obO_pos (by omega), obO_pos (by omega), obO_pos (by omega)]
  simp only [bne, cndO_and R_r15_SameRel, cndO_nand R_r15_SameRel]
  congr 2
  unfold r15_SameRel r15_Terms r15_Rels r15_Aggs r15_Cols r15_Keys r03_List
  rw [Bool.eq_iff_iff, rel_deq]
  simp only [Bool.and_eq_true, beq_iff_eq, name_eq, deq_iff]

theorem okm_r15_SameRel (m : Nat) (h_r15_Terms : FnOK 66 (Fm_r15_Terms m)) (h_r15_Rels : FnOK 67 (Fm_r15_Rels m)) (h_r15_SameTerm : FnOK 36 (Fm_r15_SameTerm m)) (h_r15_Aggs : FnOK 107 (Fm_r15_Aggs m)) (h_r15_SameRel : FnOK 86 (Fm_r15_SameRel m)) : FnOK 86 (Fm_r15_SameRel (m + 1)) := by
  intro args ob rs os h hob
  unfold Fm_r15_SameRel at h
  split at h
  · simp only [Option.bind_eq_some_iff, Option.some.injEq, Prod.mk.injEq] at h
    obtain ⟨a, e0, b, e1, rfl, rfl, rfl⟩ := h
    obtain rfl := dS_eq e0
    obtain rfl := dS_eq e1
    exact ⟨fn_contractF (M := (M_r15_SameRel m)) rfl (tbl_ok (l1 := [(104, F_r15_Cols), (105, F_r15_Keys), (106, F_r03_List), (66, Fm_r15_Terms m), (107, Fm_r15_Aggs m), (67, Fm_r15_Rels m)]) (l2 := []) (l3 := []) (l4 := []) (l5 := []) ⟨ok_r15_Cols, ok_r15_Keys, ok_r03_List, h_r15_Terms, h_r15_Aggs, h_r15_Rels, trivial⟩ trivial trivial trivial trivial) Try.func86 (by kernel_rfl) N_r15_SameRel 0 [.d] (fun hwf => (r15_SameRel_spec m a b (wfArg hwf (a := .d (.agg (enc Ty.rel a))) (List.mem_of_getElem? (i := 0) rfl)) (wfArg hwf (a := .d (.agg (enc Ty.rel b))) (List.mem_of_getElem? (i := 1) rfl)) (hob _ (List.mem_of_getElem? (i := 0) rfl)))), hasBody_of Try.func86 (by kernel_rfl) (by kernel_rfl)⟩
  · simp at h


theorem okAll_s15G : ∀ m, FnOK 66 (Fm_r15_Terms m) ∧ FnOK 67 (Fm_r15_Rels m) ∧ FnOK 36 (Fm_r15_SameTerm m) ∧ FnOK 107 (Fm_r15_Aggs m) ∧ FnOK 86 (Fm_r15_SameRel m)
  | 0 => by
    refine ⟨?_, ?_, ?_, ?_, ?_⟩
    · intro args ob rs os h hob
      unfold Fm_r15_Terms at h
      split at h
      · simp only [Option.bind_eq_some_iff, Option.some.injEq, Prod.mk.injEq] at h
        obtain ⟨_, _, _, _, rfl, _, _⟩ := h
        exact absurd (hob _ (List.mem_of_getElem? (i := 0) rfl)) (Nat.not_lt_zero _)
      · simp at h
    · intro args ob rs os h hob
      unfold Fm_r15_Rels at h
      split at h
      · simp only [Option.bind_eq_some_iff, Option.some.injEq, Prod.mk.injEq] at h
        obtain ⟨_, _, _, _, rfl, _, _⟩ := h
        exact absurd (hob _ (List.mem_of_getElem? (i := 0) rfl)) (Nat.not_lt_zero _)
      · simp at h
    · intro args ob rs os h hob
      unfold Fm_r15_SameTerm at h
      split at h
      · simp only [Option.bind_eq_some_iff, Option.some.injEq, Prod.mk.injEq] at h
        obtain ⟨_, _, _, _, rfl, _, _⟩ := h
        exact absurd (hob _ (List.mem_of_getElem? (i := 0) rfl)) (Nat.not_lt_zero _)
      · simp at h
    · intro args ob rs os h hob
      unfold Fm_r15_Aggs at h
      split at h
      · simp only [Option.bind_eq_some_iff, Option.some.injEq, Prod.mk.injEq] at h
        obtain ⟨_, _, _, _, rfl, _, _⟩ := h
        exact absurd (hob _ (List.mem_of_getElem? (i := 0) rfl)) (Nat.not_lt_zero _)
      · simp at h
    · intro args ob rs os h hob
      unfold Fm_r15_SameRel at h
      split at h
      · simp only [Option.bind_eq_some_iff, Option.some.injEq, Prod.mk.injEq] at h
        obtain ⟨_, _, _, _, rfl, _, _⟩ := h
        exact absurd (hob _ (List.mem_of_getElem? (i := 0) rfl)) (Nat.not_lt_zero _)
      · simp at h
  | m + 1 => by
    have ih := okAll_s15G m
    exact ⟨okm_r15_Terms m ih.1 ih.2.1 ih.2.2.1 ih.2.2.2.1 ih.2.2.2.2, okm_r15_Rels m ih.1 ih.2.1 ih.2.2.1 ih.2.2.2.1 ih.2.2.2.2, okm_r15_SameTerm m ih.1 ih.2.1 ih.2.2.1 ih.2.2.2.1 ih.2.2.2.2, okm_r15_Aggs m ih.1 ih.2.1 ih.2.2.1 ih.2.2.2.1 ih.2.2.2.2, okm_r15_SameRel m ih.1 ih.2.1 ih.2.2.1 ih.2.2.2.1 ih.2.2.2.2⟩

def F_r15_Terms : FnC Un := fun args => match args with
  | [x0, x1] => (dL .term x0).bind fun a => (dL .term x1).bind fun b => some ([], A_r15_Terms (r15_Terms a b), O_r15_Terms (r15_Terms a b))
  | _ => none

theorem ok_r15_Terms : FnOK 66 F_r15_Terms := by
  intro args ob rs os h hob
  unfold F_r15_Terms at h
  split at h
  · simp only [Option.bind_eq_some_iff, Option.some.injEq, Prod.mk.injEq] at h
    obtain ⟨a, e0, b, e1, rfl, rfl, rfl⟩ := h
    refine ((okAll_s15G (2 * htTs a + 1 + 1)).1) _ [2 * htTs a + 1 < 2 * htTs a + 1 + 1] _ _ (?_ : Fm_r15_Terms (2 * htTs a + 1 + 1) _ = some _) ?_
    · unfold Fm_r15_Terms
      simp only [e0, e1, Option.bind_some]
    · intro p hp
      simp only [List.mem_cons, List.not_mem_nil, or_false] at hp
      subst hp
      exact Nat.lt_succ_self _
  · simp at h

def F_r15_Rels : FnC Un := fun args => match args with
  | [x0, x1] => (dL .rel x0).bind fun a => (dL .rel x1).bind fun b => some ([], A_r15_Rels (r15_Rels a b), O_r15_Rels (r15_Rels a b))
  | _ => none

theorem ok_r15_Rels : FnOK 67 F_r15_Rels := by
  intro args ob rs os h hob
  unfold F_r15_Rels at h
  split at h
  · simp only [Option.bind_eq_some_iff, Option.some.injEq, Prod.mk.injEq] at h
    obtain ⟨a, e0, b, e1, rfl, rfl, rfl⟩ := h
    refine ((okAll_s15G (2 * htRs a + 1 + 1)).2.1) _ [2 * htRs a + 1 < 2 * htRs a + 1 + 1] _ _ (?_ : Fm_r15_Rels (2 * htRs a + 1 + 1) _ = some _) ?_
    · unfold Fm_r15_Rels
      simp only [e0, e1, Option.bind_some]
    · intro p hp
      simp only [List.mem_cons, List.not_mem_nil, or_false] at hp
      subst hp
      exact Nat.lt_succ_self _
  · simp at h

def F_r15_SameTerm : FnC Un := fun args => match args with
  | [x0, x1] => (dS .term x0).bind fun a => (dS .term x1).bind fun b => some ([], A_r15_SameTerm (r15_SameTerm a b), O_r15_SameTerm (r15_SameTerm a b))
  | _ => none

theorem ok_r15_SameTerm : FnOK 36 F_r15_SameTerm := by
  intro args ob rs os h hob
  unfold F_r15_SameTerm at h
  split at h
  · simp only [Option.bind_eq_some_iff, Option.some.injEq, Prod.mk.injEq] at h
    obtain ⟨a, e0, b, e1, rfl, rfl, rfl⟩ := h
    refine ((okAll_s15G (2 * a.ht + 1)).2.2.1) _ [2 * a.ht < 2 * a.ht + 1] _ _ (?_ : Fm_r15_SameTerm (2 * a.ht + 1) _ = some _) ?_
    · unfold Fm_r15_SameTerm
      simp only [e0, e1, Option.bind_some]
    · intro p hp
      simp only [List.mem_cons, List.not_mem_nil, or_false] at hp
      subst hp
      exact Nat.lt_succ_self _
  · simp at h

def F_r15_Aggs : FnC Un := fun args => match args with
  | [x0, x1] => (dL .agg x0).bind fun a => (dL .agg x1).bind fun b => some ([], A_r15_Aggs (r15_Aggs a b), O_r15_Aggs (r15_Aggs a b))
  | _ => none

theorem ok_r15_Aggs : FnOK 107 F_r15_Aggs := by
  intro args ob rs os h hob
  unfold F_r15_Aggs at h
  split at h
  · simp only [Option.bind_eq_some_iff, Option.some.injEq, Prod.mk.injEq] at h
    obtain ⟨a, e0, b, e1, rfl, rfl, rfl⟩ := h
    refine ((okAll_s15G (2 * htAs a + 1 + 1)).2.2.2.1) _ [2 * htAs a + 1 < 2 * htAs a + 1 + 1] _ _ (?_ : Fm_r15_Aggs (2 * htAs a + 1 + 1) _ = some _) ?_
    · unfold Fm_r15_Aggs
      simp only [e0, e1, Option.bind_some]
    · intro p hp
      simp only [List.mem_cons, List.not_mem_nil, or_false] at hp
      subst hp
      exact Nat.lt_succ_self _
  · simp at h

def F_r15_SameRel : FnC Un := fun args => match args with
  | [x0, x1] => (dS .rel x0).bind fun a => (dS .rel x1).bind fun b => some ([], A_r15_SameRel (r15_SameRel a b), O_r15_SameRel (r15_SameRel a b))
  | _ => none

theorem ok_r15_SameRel : FnOK 86 F_r15_SameRel := by
  intro args ob rs os h hob
  unfold F_r15_SameRel at h
  split at h
  · simp only [Option.bind_eq_some_iff, Option.some.injEq, Prod.mk.injEq] at h
    obtain ⟨a, e0, b, e1, rfl, rfl, rfl⟩ := h
    refine ((okAll_s15G (2 * a.ht + 1)).2.2.2.2) _ [2 * a.ht < 2 * a.ht + 1] _ _ (?_ : Fm_r15_SameRel (2 * a.ht + 1) _ = some _) ?_
    · unfold Fm_r15_SameRel
      simp only [e0, e1, Option.bind_some]
    · intro p hp
      simp only [List.mem_cons, List.not_mem_nil, or_false] at hp
      subst hp
      exact Nat.lt_succ_self _
  · simp at h

end
end Go.Proofs.Ytaepcbdcjbfgjaa.B
