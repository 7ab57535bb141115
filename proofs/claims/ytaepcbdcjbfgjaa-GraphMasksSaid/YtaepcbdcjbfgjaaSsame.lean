/- Functions: same. (Printed by wip/tools/mkfn.py out of wip/src/same.src.) -/
import Derived.Test.YtaepcbdcjbfgjaaBAwf
import Derived.Test.YtaepcbdcjbfgjaaSspec
import Derived.Test.YtaepcbdcjbfgjaaSterms
import Derived.Test.YtaepcbdcjbfgjaaStermsz
namespace Go.Proofs.Ytaepcbdcjbfgjaa.B
open Go Go.RowKit
set_option maxRecDepth 100000
noncomputable section
attribute [local irreducible] awp ctxK itersK iterK retQ retGQ awf ctxF loopF

/-- Are two lists the same, one by one? -/
def eqfA {α : Type} (q : α → α → Bool) : List α → List α → Bool
  | [], [] => true
  | x :: a, y :: b => q x y && eqfA q a b
  | _, _ => false
theorem eqfA_len {α : Type} {q : α → α → Bool} : ∀ {a b : List α}, a.length ≠ b.length → eqfA q a b = false
  | [], [], h => absurd rfl h
  | x :: a, y :: b, h => by simp only [eqfA]; rw [eqfA_len (a := a) (b := b) (by simpa using h), Bool.and_false]
  | [], _ :: _, _ => rfl
  | _ :: _, [], _ => rfl
theorem eqfA_iff {α : Type} {q : α → α → Bool} (hq : ∀ x y, q x y = true ↔ x = y) : ∀ {a b : List α}, eqfA q a b = true ↔ a = b
  | [], [] => by simp [eqfA]
  | x :: a, y :: b => by simp only [eqfA, Bool.and_eq_true, hq, eqfA_iff hq, List.cons.injEq]
  | [], _ :: _ => by simp [eqfA]
  | _ :: _, [] => by simp [eqfA]
theorem loop_all2 {α β : Type} {L : S Un → Option (EX Un)} {st : Int → S Un} {C : Exit → S Un → Option β} (R : Bool → Option β) {a b : List α} {d : α} {e : Exit} (q : α → α → Bool) (hab : a.length = b.length) (hl : a.length ≤ 9223372036854775807)
    (step : ∀ i : Nat, i < a.length → L (st i) = if q (a.getD i d) (b.getD i d) = true then L (st (IntKind.i64.wrap ((i : Int) + 1))) else some (.ret, st i))
    (stop : L (st (a.length : Int)) = some (e, st (a.length : Int))) (cr : ∀ i : Nat, C .ret (st i) = R false) (ce : C e (st (a.length : Int)) = R true) : (L (st (0 : Int))).bind (thenX C) = R (eqfA q a b) := by
  have key : ∀ (k i : Nat), i + k = a.length → (L (st i)).bind (thenX C) = R (eqfA q (a.drop i) (b.drop i)) := by
    intro k
    induction k with
    | zero =>
      intro i hi
      obtain rfl : i = a.length := by omega
      rw [loop_end stop, ce, List.drop_length, hab, List.drop_length]; rfl
    | succ k ih =>
      intro i hi
      have h1 : i < a.length := by omega
      have h2 : i < b.length := by omega
      have ga : a.getD i d = a[i] := by rw [List.getD_eq_getElem?_getD, List.getElem?_eq_getElem h1]; rfl
      have gb : b.getD i d = b[i] := by rw [List.getD_eq_getElem?_getD, List.getElem?_eq_getElem h2]; rfl
      rw [List.drop_eq_getElem_cons h1, List.drop_eq_getElem_cons h2]
      simp only [eqfA]
      have hs := step i h1
      rw [ga, gb] at hs
      by_cases hq : q a[i] b[i] = true
      · rw [if_pos hq, wrap_next h1 hl] at hs
        rw [hs, ih (i + 1) (by omega), hq, Bool.true_and]
      · rw [if_neg hq] at hs
        have hq' : q a[i] b[i] = false := by simpa using hq
        rw [loop_end hs, cr, hq', Bool.false_and]
  exact key a.length 0 (by omega)
/-- What the comparing of two lists asks. -/
def eqfO {α : Type} (d : α) (o : α → α → Prop) (a b : List α) : Prop := a.length = b.length → ∀ i, i < a.length → o (a.getD i d) (b.getD i d)

/-! ### slices.EqualFunc[[]api.Term,[]api.Term,api.Term,api.Term] -/
def M_eqf_term : Mc Un := mach (tbl []) (tbl []) (tbl []) (tbl []) (tbl [])
def A_eqf_term (r : Bool) : List (A Un) := [.c (.s (.bool r))]
def O_eqf_term (_r : Bool) : List (Ob Un) := []
def R_eqf_term (r : Bool) : RF Un := (A_eqf_term r, O_eqf_term r)
def N_eqf_term : Nat → NS := fun l => (look l [(4, { ts := bl 32 229446, bs := bl 32 0, nm := [] })]).getD ⟨[], [], [], [], []⟩
def eqf_term_s4 (a : List Term) (b : List Term) (eq_o : Term → Term → Prop) (eq : Term → Term → Bool) (v0 : Int) : S Un := (st 32 32 128 0 [(1, al .term b), (2, AV.one (A.c (C.fv (fvo_S_term_S_term_to_b eq_o eq)))), (6, ab false), (15, al .term a), (16, ai (↑a.length : Int)), (17, ai v0)] [] [])
def eqf_term_B4 : Code := sub (bodyOf Try.f37) [1, 1, 0, 1, 2, 2]
def eqf_term_L4 : S Un → Option (EX Un) := loopF (N_eqf_term 4) (fun s Q => awf M_eqf_term N_eqf_term eqf_term_B4 s Q)
def eqf_term_C4 : Exit → S Un → Option (RF Un) := ctxF M_eqf_term N_eqf_term (bodyOf Try.f37) [1, 1, 0, 1, 2] (retF M_eqf_term Try.f37.results.toList [.d])
def eqf_term_fn (a : List Term) (b : List Term) (eq_o : Term → Term → Prop) (eq : Term → Term → Bool) : Option (RF Un) := awf M_eqf_term N_eqf_term (bodyOf Try.f37) (entry Try.f37.ntmps 0 [.d (.v (.dat (U := Un) Ty.term a)), .d (.v (.dat (U := Un) Ty.term b)), .fn (fvo_S_term_S_term_to_b eq_o eq)]) (retF M_eqf_term Try.f37.results.toList [.d])
theorem eqf_term_in (a : List Term) (b : List Term) (eq_o : Term → Term → Prop) (eq : Term → Term → Bool) : eqf_term_fn a b eq_o eq =
 cndO ((↑a.length : Int) != (↑b.length : Int))
  (some (R_eqf_term (false)))
  ((eqf_term_L4 (eqf_term_s4 a b eq_o eq (0 : Int))).bind (thenX eqf_term_C4)) := by kernel_rfl
theorem eqf_term_l4 (a : List Term) (b : List Term) (eq_o : Term → Term → Prop) (eq : Term → Term → Bool) (v0 : Int) : eqf_term_L4 (eqf_term_s4 a b eq_o eq v0) =
 cndO (decide (v0 < (↑a.length : Int)))
  (obO (0 ≤ v0 ∧ v0 < (↑a.length : Int))
   (obO (0 ≤ v0 ∧ v0 < (↑b.length : Int))
    (obO (eq_o (Term.ids (a.getD v0.toNat zeroTerm)) (Term.ids (b.getD v0.toNat zeroTerm)))
     (cndO (!eq (Term.ids (a.getD v0.toNat zeroTerm)) (Term.ids (b.getD v0.toNat zeroTerm)))
      (some (.ret, (eqf_term_s4 a b eq_o eq v0)))
      (eqf_term_L4 (eqf_term_s4 a b eq_o eq (IntKind.i64.wrap (v0 + 1))))))))
  (some (.exit 0, (eqf_term_s4 a b eq_o eq v0))) := (loopF_eq (N_eqf_term 4) eqf_term_B4 _).trans (by kernel_rfl)
theorem eqf_term_a4_ret (a : List Term) (b : List Term) (eq_o : Term → Term → Prop) (eq : Term → Term → Bool) (v0 : Int) : eqf_term_C4 .ret (eqf_term_s4 a b eq_o eq v0) =
 some (R_eqf_term (false)) := by kernel_rfl
theorem eqf_term_a4_x0 (a : List Term) (b : List Term) (eq_o : Term → Term → Prop) (eq : Term → Term → Bool) (v0 : Int) : eqf_term_C4 (.exit 0) (eqf_term_s4 a b eq_o eq v0) =
 some (R_eqf_term (true)) := by kernel_rfl

def eqfO_term (o : Term → Term → Prop) (a b : List Term) : Prop := eqfO zeroTerm o a b
def eqf_term (a b : List Term) (_o : Term → Term → Prop) (q : Term → Term → Bool) : Bool := eqfA q a b
theorem eqf_term_spec (a b : List Term) (o : Term → Term → Prop) (q : Term → Term → Bool) (ha : WL .term a) (_hb : WL .term b) (h : eqfO_term o a b) : eqf_term_fn a b o q = some (R_eqf_term (eqf_term a b o q)) := by
  rw [eqf_term_in, cndO_eq]
  unfold eqf_term
  by_cases hl : a.length = b.length
  · rw [if_neg (by simp [hl])]
    exact loop_all2 (L := eqf_term_L4) (st := fun i => eqf_term_s4 a b o q i) (fun r => some (R_eqf_term r)) (d := zeroTerm) q hl ha.len
      (fun i hi => by
        rw [eqf_term_l4]
        simp only [cndO_eq, Term.ids_eq, Int.toNat_natCast]
        rw [if_pos (by simp; omega), obO_pos (by omega), obO_pos (by omega), obO_pos (h hl i hi)]
        cases q (a.getD i zeroTerm) (b.getD i zeroTerm) <;> simp)
      (by rw [eqf_term_l4]; simp [cndO_eq]) (fun i => eqf_term_a4_ret _ _ _ _ _) (eqf_term_a4_x0 _ _ _ _ _)
  · rw [if_pos (by simp; omega), eqfA_len hl]

def F_eqf_term : FnC Un := fun args => match args with
  | [x0, x1, x2] => (dL .term x0).bind fun a => (dL .term x1).bind fun b => (dF x2).bind fun eq => some ([eq = (fvo_S_term_S_term_to_b (po_S_term_S_term_to_b eq) (pf_S_term_S_term_to_b eq)), eqfO_term (po_S_term_S_term_to_b eq) a b], A_eqf_term (eqf_term a b (po_S_term_S_term_to_b eq) (pf_S_term_S_term_to_b eq)), O_eqf_term (eqf_term a b (po_S_term_S_term_to_b eq) (pf_S_term_S_term_to_b eq)))
  | _ => none

theorem ok_eqf_term : FnOK 37 F_eqf_term := by
  intro args ob rs os h hob
  unfold F_eqf_term at h
  split at h
  · simp only [Option.bind_eq_some_iff, Option.some.injEq, Prod.mk.injEq] at h
    obtain ⟨a, e0, b, e1, eq, e2, rfl, rfl, rfl⟩ := h
    obtain rfl := dL_eq e0
    obtain rfl := dL_eq e1
    obtain rfl := dF_eq e2
    have hfv0 := hob _ (List.mem_of_getElem? (i := 0) rfl)
    generalize pf_S_term_S_term_to_b eq = pp0 at *
    generalize po_S_term_S_term_to_b eq = qq0 at *
    subst hfv0
    exact ⟨fn_contractF (M := M_eqf_term) rfl (tbl_ok (l1 := []) (l2 := []) (l3 := []) (l4 := []) (l5 := []) trivial trivial trivial trivial trivial) Try.func37 (by kernel_rfl) N_eqf_term 0 [.d] (fun hwf => (eqf_term_spec a b qq0 pp0 (wfArg hwf (a := .d (.v (.dat (U := Un) Ty.term a))) (List.mem_of_getElem? (i := 0) rfl)) (wfArg hwf (a := .d (.v (.dat (U := Un) Ty.term b))) (List.mem_of_getElem? (i := 1) rfl)) (hob _ (List.mem_of_getElem? (i := 1) rfl)))), hasBody_of Try.func37 (by kernel_rfl) (by kernel_rfl)⟩
  · simp at h


end
end Go.Proofs.Ytaepcbdcjbfgjaa.B
