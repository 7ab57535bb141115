/- Functions: conj6. (Printed by wip/tools/mkfn.py out of wip/src/conj6.src.) -/
import Derived.Test.YtaepcbdcjbfgjaaBAwf
import Derived.Test.YtaepcbdcjbfgjaaSspec
import Derived.Test.YtaepcbdcjbfgjaaSterms
import Derived.Test.YtaepcbdcjbfgjaaStermsz
import Derived.Test.YtaepcbdcjbfgjaaSconjspec
import Derived.Test.YtaepcbdcjbfgjaaSsorted
import Derived.Test.YtaepcbdcjbfgjaaSconjU
import Derived.Test.YtaepcbdcjbfgjaaSconj2
import Derived.Test.YtaepcbdcjbfgjaaSconj3
import Derived.Test.YtaepcbdcjbfgjaaSconj4
import Derived.Test.YtaepcbdcjbfgjaaSsame
import Derived.Test.YtaepcbdcjbfgjaaSsame2
import Derived.Test.YtaepcbdcjbfgjaaSsame3
import Derived.Test.YtaepcbdcjbfgjaaSsame4
import Derived.Test.YtaepcbdcjbfgjaaSsame5
import Derived.Test.YtaepcbdcjbfgjaaSconj5
namespace Go.Proofs.Ytaepcbdcjbfgjaa.B
open Go Go.RowKit
set_option maxRecDepth 100000
noncomputable section
attribute [local irreducible] awp ctxK itersK iterK retQ retGQ awf ctxF loopF

mutual
/-- Has a term no query in it? -/
def plainT : Term → Bool
  | .mk _ _ _ _ _ kids sub _ => sub.isEmpty && plainTs kids
def plainTs : List Term → Bool
  | [] => true
  | t :: r => plainT t && plainTs r
end
def conj_plain (t : Term) : Bool := plainT t
def plain1 (k : Term) : Bool := !plainT k
theorem plainTs_any : ∀ l : List Term, (!(l.any plain1)) = plainTs l
  | [] => rfl
  | t :: r => by simp only [List.any_cons, plainTs, Bool.not_or, plainTs_any r, plain1, Bool.not_not]
theorem plainT_eq (t : Term) : plainT t = (t.sub.isEmpty && plainTs t.kids) := by cases t; simp only [plainT, Term.sub_mk, Term.kids_mk]

def A_conj_plain (r : Bool) : List (A Un) := [.c (.s (.bool r))]
def O_conj_plain (_r : Bool) : List (Ob Un) := []

def Fm_conj_plain (m : Nat) : FnC Un := fun args => match args with
  | [x0] => (dS .term x0).bind fun t => some ([2 * t.ht < m], A_conj_plain (conj_plain t), O_conj_plain (conj_plain t))
  | _ => none

def A_plain1 (r : Bool) : List (A Un) := [.c (.s (.bool r))]
def O_plain1 (_r : Bool) : List (Ob Un) := []

def Fm_plain1 (m : Nat) : FnC Un := fun args => match args with
  | [x0] => (dS .term x0).bind fun k => some ([2 * k.ht + 1 < m], A_plain1 (plain1 k), O_plain1 (plain1 k))
  | _ => none

def Vm_plain1 (m : Nat) : FV Un := fvo_S_term_to_b (fun k => (2 * k.ht + 1 < m)) (fun k => plain1 k)

theorem okVm_plain1 (m : Nat) (h_plain1 : FnOK 83 (Fm_plain1 m)) : FvOK 83 (Vm_plain1 m) := by
  refine ⟨hasBody_of Try.func83 (by kernel_rfl) (by kernel_rfl), fun args ob rs h hob => ?_⟩
  unfold Vm_plain1 fvo_S_term_to_b at h
  split at h
  · simp only [Option.bind_eq_some_iff, Option.some.injEq, Prod.mk.injEq] at h
    obtain ⟨k, e0, rfl, rfl⟩ := h
    simp only [List.map_cons, List.map_nil]
    rw [dS_eq e0]
    refine Contract.data (h_plain1 _ [2 * k.ht + 1 < m] _ _ (?_ : Fm_plain1 m _ = some _) (fun p hp => by rw [List.mem_singleton.1 hp]; simpa using hob _ List.mem_cons_self)).1
    unfold Fm_plain1
    simp only [dSk_mk]
    rfl
  · simp at h

theorem vmo_plain1 (m : Nat) : po_S_term_to_b (Vm_plain1 m) = fun k => 2 * k.ht + 1 < m := by unfold Vm_plain1; exact pofvo_S_term_to_b _ _
theorem vmf_plain1 (m : Nat) : pf_S_term_to_b (Vm_plain1 m) = plain1 := by unfold Vm_plain1; rw [pffvo_S_term_to_b]
theorem vmv_plain1 (m : Nat) : Vm_plain1 m = fvo_S_term_to_b (po_S_term_to_b (Vm_plain1 m)) (pf_S_term_to_b (Vm_plain1 m)) := by unfold Vm_plain1; rw [pofvo_S_term_to_b, pffvo_S_term_to_b]

/-! ### conj.plain -/
def M_conj_plain (m : Nat) : Mc Un := mach (tbl [(82, F_conf_term)]) (tbl [(83, Vm_plain1 m)]) (tbl []) (tbl []) (tbl [])
def R_conj_plain (r : Bool) : RF Un := (A_conj_plain r, O_conj_plain r)
def N_conj_plain : Nat → NS := fun l => (look l []).getD ⟨[], [], [], [], []⟩
def conj_plain_fn (m : Nat) (t : Term) : Option (RF Un) := awf (M_conj_plain m) N_conj_plain (bodyOf Try.f52) (entry Try.f52.ntmps 0 [.d (.agg (enc Ty.term t))]) (retF (M_conj_plain m) Try.f52.results.toList [.d])
theorem conj_plain_in (m : Nat) (t : Term) : conj_plain_fn m t =
 cndO ((↑t.sub.length : Int) == (0 : Int))
  (obO (Vm_plain1 m = fvo_S_term_to_b (po_S_term_to_b (Vm_plain1 m)) (pf_S_term_to_b (Vm_plain1 m)))
   (obO (allO_term (po_S_term_to_b (Vm_plain1 m)) t.kids)
    (some (R_conj_plain (!conf_term t.kids (po_S_term_to_b (Vm_plain1 m)) (pf_S_term_to_b (Vm_plain1 m)))))))
  (some (R_conj_plain (false))) := by kernel_rfl

theorem conj_plain_spec (m : Nat) (t : Term) (_ht : WS .term t) (h : 2 * t.ht < m + 1) : conj_plain_fn m t = some (R_conj_plain (conj_plain t)) := by
  have o1 : allO_term (po_S_term_to_b (Vm_plain1 m)) t.kids := by
    rw [vmo_plain1]
    intro k hk
    have := Term.ht_kid hk
    show 2 * k.ht + 1 < m
    omega
  rw [conj_plain_in, obO_pos (vmv_plain1 m), obO_pos o1]
  simp only [vmf_plain1, conf_term]
  rw [cndO_and R_conj_plain, plainTs_any]
  unfold conj_plain
  rw [plainT_eq]
  congr 3
  cases t.sub with
  | nil => rfl
  | cons x l => rw [List.isEmpty_cons, beq_eq_false_iff_ne, List.length_cons]; omega

theorem okm_conj_plain (m : Nat) (h_conj_plain : FnOK 52 (Fm_conj_plain m)) (h_plain1 : FnOK 83 (Fm_plain1 m)) : FnOK 52 (Fm_conj_plain (m + 1)) := by
  intro args ob rs os h hob
  unfold Fm_conj_plain at h
  split at h
  · simp only [Option.bind_eq_some_iff, Option.some.injEq, Prod.mk.injEq] at h
    obtain ⟨t, e0, rfl, rfl, rfl⟩ := h
    obtain rfl := dS_eq e0
    exact ⟨fn_contractF (M := (M_conj_plain m)) rfl (tbl_ok (l1 := [(82, F_conf_term)]) (l2 := [(83, Vm_plain1 m)]) (l3 := []) (l4 := []) (l5 := []) ⟨ok_conf_term, trivial⟩ ⟨(okVm_plain1 m h_plain1), trivial⟩ trivial trivial trivial) Try.func52 (by kernel_rfl) N_conj_plain 0 [.d] (fun hwf => (conj_plain_spec m t (wfArg hwf (a := .d (.agg (enc Ty.term t))) (List.mem_of_getElem? (i := 0) rfl)) (hob _ (List.mem_of_getElem? (i := 0) rfl)))), hasBody_of Try.func52 (by kernel_rfl) (by kernel_rfl)⟩
  · simp at h


/-! ### conj.plain$1 -/
def M_plain1 (m : Nat) : Mc Un := mach (tbl [(52, Fm_conj_plain m)]) (tbl []) (tbl []) (tbl []) (tbl [])
def R_plain1 (r : Bool) : RF Un := (A_plain1 r, O_plain1 r)
def N_plain1 : Nat → NS := fun l => (look l []).getD ⟨[], [], [], [], []⟩
def plain1_fn (m : Nat) (k : Term) : Option (RF Un) := awf (M_plain1 m) N_plain1 (bodyOf Try.f83) (entry Try.f83.ntmps 0 [.d (.agg (enc Ty.term k))]) (retF (M_plain1 m) Try.f83.results.toList [.d])
theorem plain1_in (m : Nat) (k : Term) : plain1_fn m k =
 obO ((2 : Nat) * (Term.ids k).ht < m)
  (some (R_plain1 (!conj_plain (Term.ids k)))) := by kernel_rfl

theorem plain1_spec (m : Nat) (k : Term) (_hk : WS .term k) (h : 2 * k.ht + 1 < m + 1) : plain1_fn m k = some (R_plain1 (plain1 k)) := by
  rw [plain1_in, Term.ids_eq, obO_pos (by omega)]
  unfold plain1 conj_plain
  rfl

theorem okm_plain1 (m : Nat) (h_conj_plain : FnOK 52 (Fm_conj_plain m)) (h_plain1 : FnOK 83 (Fm_plain1 m)) : FnOK 83 (Fm_plain1 (m + 1)) := by
  intro args ob rs os h hob
  unfold Fm_plain1 at h
  split at h
  · simp only [Option.bind_eq_some_iff, Option.some.injEq, Prod.mk.injEq] at h
    obtain ⟨k, e0, rfl, rfl, rfl⟩ := h
    obtain rfl := dS_eq e0
    exact ⟨fn_contractF (M := (M_plain1 m)) rfl (tbl_ok (l1 := [(52, Fm_conj_plain m)]) (l2 := []) (l3 := []) (l4 := []) (l5 := []) ⟨h_conj_plain, trivial⟩ trivial trivial trivial trivial) Try.func83 (by kernel_rfl) N_plain1 0 [.d] (fun hwf => (plain1_spec m k (wfArg hwf (a := .d (.agg (enc Ty.term k))) (List.mem_of_getElem? (i := 0) rfl)) (hob _ (List.mem_of_getElem? (i := 0) rfl)))), hasBody_of Try.func83 (by kernel_rfl) (by kernel_rfl)⟩
  · simp at h


theorem okAll_plainG : ∀ m, FnOK 52 (Fm_conj_plain m) ∧ FnOK 83 (Fm_plain1 m)
  | 0 => by
    refine ⟨?_, ?_⟩
    · intro args ob rs os h hob
      unfold Fm_conj_plain at h
      split at h
      · simp only [Option.bind_eq_some_iff, Option.some.injEq, Prod.mk.injEq] at h
        obtain ⟨_, _, rfl, _, _⟩ := h
        exact absurd (hob _ (List.mem_of_getElem? (i := 0) rfl)) (Nat.not_lt_zero _)
      · simp at h
    · intro args ob rs os h hob
      unfold Fm_plain1 at h
      split at h
      · simp only [Option.bind_eq_some_iff, Option.some.injEq, Prod.mk.injEq] at h
        obtain ⟨_, _, rfl, _, _⟩ := h
        exact absurd (hob _ (List.mem_of_getElem? (i := 0) rfl)) (Nat.not_lt_zero _)
      · simp at h
  | m + 1 => by
    have ih := okAll_plainG m
    exact ⟨okm_conj_plain m ih.1 ih.2, okm_plain1 m ih.1 ih.2⟩

def F_conj_plain : FnC Un := fun args => match args with
  | [x0] => (dS .term x0).bind fun t => some ([], A_conj_plain (conj_plain t), O_conj_plain (conj_plain t))
  | _ => none

theorem ok_conj_plain : FnOK 52 F_conj_plain := by
  intro args ob rs os h hob
  unfold F_conj_plain at h
  split at h
  · simp only [Option.bind_eq_some_iff, Option.some.injEq, Prod.mk.injEq] at h
    obtain ⟨t, e0, rfl, rfl, rfl⟩ := h
    refine ((okAll_plainG (2 * t.ht + 1)).1) _ [2 * t.ht < 2 * t.ht + 1] _ _ (?_ : Fm_conj_plain (2 * t.ht + 1) _ = some _) ?_
    · unfold Fm_conj_plain
      simp only [e0, Option.bind_some]
    · intro p hp
      simp only [List.mem_cons, List.not_mem_nil, or_false] at hp
      subst hp
      exact Nat.lt_succ_self _
  · simp at h

def F_plain1 : FnC Un := fun args => match args with
  | [x0] => (dS .term x0).bind fun k => some ([], A_plain1 (plain1 k), O_plain1 (plain1 k))
  | _ => none

theorem ok_plain1 : FnOK 83 F_plain1 := by
  intro args ob rs os h hob
  unfold F_plain1 at h
  split at h
  · simp only [Option.bind_eq_some_iff, Option.some.injEq, Prod.mk.injEq] at h
    obtain ⟨k, e0, rfl, rfl, rfl⟩ := h
    refine ((okAll_plainG (2 * k.ht + 1 + 1)).2) _ [2 * k.ht + 1 < 2 * k.ht + 1 + 1] _ _ (?_ : Fm_plain1 (2 * k.ht + 1 + 1) _ = some _) ?_
    · unfold Fm_plain1
      simp only [e0, Option.bind_some]
    · intro p hp
      simp only [List.mem_cons, List.not_mem_nil, or_false] at hp
      subst hp
      exact Nat.lt_succ_self _
  · simp at h

end
end Go.Proofs.Ytaepcbdcjbfgjaa.B
