/- Functions: conj5. (Printed by wip/tools/mkfn.py out of wip/src/conj5.src.) -/
import Derived.Test.YtaepcbdcjbfgjaaBAwf
import Derived.Test.YtaepcbdcjbfgjaaSspec
import Derived.Test.YtaepcbdcjbfgjaaSterms
import Derived.Test.YtaepcbdcjbfgjaaStermsz
import Derived.Test.YtaepcbdcjbfgjaaSconjspec
import Derived.Test.YtaepcbdcjbfgjaaSsorted
import Derived.Test.YtaepcbdcjbfgjaaSconjU
import Derived.Test.YtaepcbdcjbfgjaaSconj2
import Derived.Test.YtaepcbdcjbfgjaaSconj3
import Derived.Test.YtaepcbdcjbfgjaaSconj4
import Derived.Test.YtaepcbdcjbfgjaaSsame
namespace Go.Proofs.Ytaepcbdcjbfgjaa.B
open Go Go.RowKit
set_option maxRecDepth 100000
noncomputable section
attribute [local irreducible] awp ctxK itersK iterK retQ retGQ awf ctxF loopF

/-! ### slices.IndexFunc[[]api.Term,api.Term] -/
def M_idxf_term : Mc Un := mach (tbl []) (tbl []) (tbl []) (tbl []) (tbl [])
def A_idxf_term (r : Int) : List (A Un) := [.c (.s (.int .i64 r))]
def O_idxf_term (_r : Int) : List (Ob Un) := []
def R_idxf_term (r : Int) : RF Un := (A_idxf_term r, O_idxf_term r)
def N_idxf_term : Nat → NS := fun l => (look l [(2, { ts := bl 19 403, bs := bl 19 0, nm := [] })]).getD ⟨[], [], [], [], []⟩
def idxf_term_s2 (s : List Term) (f_o : Term → Prop) (f : Term → Bool) (v0 : Int) : S Un := (st 19 19 76 0 [(0, al .term s), (1, AV.one (A.c (C.fv (fvo_S_term_to_b f_o f)))), (4, ai (0 : Int)), (7, ai (↑s.length : Int)), (8, ai v0)] [] [])
def idxf_term_e2_ret (s : List Term) (f_o : Term → Prop) (f : Term → Bool) (v0 : Int) (v1 : Int) : S Un := (st 19 19 76 0 [(0, al .term s), (1, AV.one (A.c (C.fv (fvo_S_term_to_b f_o f)))), (4, ai v1), (7, ai (↑s.length : Int)), (8, ai v0)] [] [])
def idxf_term_B2 : Code := sub (bodyOf Try.f102) [1, 0, 1, 2, 2]
def idxf_term_L2 : S Un → Option (EX Un) := loopF (N_idxf_term 2) (fun s Q => awf M_idxf_term N_idxf_term idxf_term_B2 s Q)
def idxf_term_C2 : Exit → S Un → Option (RF Un) := ctxF M_idxf_term N_idxf_term (bodyOf Try.f102) [1, 0, 1, 2] (retF M_idxf_term Try.f102.results.toList [.d])
def idxf_term_fn (s : List Term) (f_o : Term → Prop) (f : Term → Bool) : Option (RF Un) := awf M_idxf_term N_idxf_term (bodyOf Try.f102) (entry Try.f102.ntmps 0 [.d (.v (.dat (U := Un) Ty.term s)), .fn (fvo_S_term_to_b f_o f)]) (retF M_idxf_term Try.f102.results.toList [.d])
theorem idxf_term_in (s : List Term) (f_o : Term → Prop) (f : Term → Bool) : idxf_term_fn s f_o f =
 (idxf_term_L2 (idxf_term_s2 s f_o f (0 : Int))).bind (thenX idxf_term_C2) := by kernel_rfl
theorem idxf_term_l2 (s : List Term) (f_o : Term → Prop) (f : Term → Bool) (v0 : Int) : idxf_term_L2 (idxf_term_s2 s f_o f v0) =
 cndO (decide (v0 < (↑s.length : Int)))
  (obO (0 ≤ v0 ∧ v0 < (↑s.length : Int))
   (obO (f_o (Term.ids (s.getD v0.toNat zeroTerm)))
    (cndO (f (Term.ids (s.getD v0.toNat zeroTerm)))
     (some (.ret, (idxf_term_e2_ret s f_o f v0 v0)))
     (idxf_term_L2 (idxf_term_s2 s f_o f (IntKind.i64.wrap (v0 + 1)))))))
  (some (.exit 0, (idxf_term_s2 s f_o f v0))) := (loopF_eq (N_idxf_term 2) idxf_term_B2 _).trans (by kernel_rfl)
theorem idxf_term_a2_ret (s : List Term) (f_o : Term → Prop) (f : Term → Bool) (v0 : Int) (v1 : Int) : idxf_term_C2 .ret (idxf_term_e2_ret s f_o f v0 v1) =
 some (R_idxf_term (v1)) := by kernel_rfl
theorem idxf_term_a2_x0 (s : List Term) (f_o : Term → Prop) (f : Term → Bool) (v0 : Int) : idxf_term_C2 (.exit 0) (idxf_term_s2 s f_o f v0) =
 some (R_idxf_term ((-1 : Int))) := by kernel_rfl

def allO_term (o : Term → Prop) (s : List Term) : Prop := ∀ x ∈ s, o x
def idxf_term (s : List Term) (_o : Term → Prop) (f : Term → Bool) : Int := match s.findIdx? f with | some i => (i : Int) | none => -1
theorem idxf_term_nonneg (s : List Term) (o : Term → Prop) (f : Term → Bool) : 0 ≤ idxf_term s o f ↔ s.any f = true := by
  unfold idxf_term
  cases h : s.findIdx? f with
  | none =>
    have := List.findIdx?_eq_none_iff.1 h
    simp only [List.any_eq_true]
    constructor
    · intro h1; exact absurd h1 (by decide)
    · rintro ⟨x, hx, hf⟩; rw [this x hx] at hf; simp at hf
  | some i =>
    obtain ⟨h1, h2, _⟩ := List.findIdx?_eq_some_iff_getElem.1 h
    simp only [List.any_eq_true]
    exact ⟨fun _ => ⟨s[i], List.getElem_mem h1, h2⟩, fun _ => by omega⟩
theorem idxf_term_spec (s : List Term) (o : Term → Prop) (f : Term → Bool) (hs : WL .term s) (ho : allO_term o s) : idxf_term_fn s o f = some (R_idxf_term (idxf_term s o f)) := by
  have key : ∀ (r : List Term) (i : Nat), s.drop i = r → i ≤ s.length → (idxf_term_L2 (idxf_term_s2 s o f i)).bind (thenX idxf_term_C2) = some (R_idxf_term (match r.findIdx? f with | some k => ((i + k : Nat) : Int) | none => -1)) := by
    intro r
    induction r with
    | nil =>
      intro i hr hi
      have : s.length ≤ i := by rw [← List.drop_eq_nil_iff]; exact hr
      have e : idxf_term_L2 (idxf_term_s2 s o f i) = some (.exit 0, idxf_term_s2 s o f i) := by rw [idxf_term_l2, cndO_eq, if_neg (by simp; omega)]
      rw [loop_end e, idxf_term_a2_x0]; rfl
    | cons x r ih =>
      intro i hr hi
      obtain ⟨a1, a2, a3, hm⟩ := drop_cons hr
      have hx : s.getD i zeroTerm = x := a2 zeroTerm
      by_cases hf : f x = true
      · have e : idxf_term_L2 (idxf_term_s2 s o f i) = some (.ret, idxf_term_e2_ret s o f i i) := by
          rw [idxf_term_l2, cndO_eq, if_pos (by simp; omega), obO_pos (by omega), Int.toNat_natCast, hx, Term.ids_eq, obO_pos (ho x hm), cndO_eq, if_pos hf]
        rw [loop_end e, idxf_term_a2_ret]
        simp [List.findIdx?_cons, hf]
      · have e : idxf_term_L2 (idxf_term_s2 s o f i) = idxf_term_L2 (idxf_term_s2 s o f ((i + 1 : Nat) : Int)) := by
          rw [idxf_term_l2, cndO_eq, if_pos (by simp; omega), obO_pos (by omega), Int.toNat_natCast, hx, Term.ids_eq, obO_pos (ho x hm), cndO_eq, if_neg hf, wrap_next a1 hs.len]
        rw [e, ih (i + 1) a3 (by omega)]
        congr 2
        simp only [List.findIdx?_cons, hf]
        cases r.findIdx? f with
        | none => rfl
        | some k => simp; omega
  rw [idxf_term_in]
  have := key s 0 rfl (Nat.zero_le _)
  refine Eq.trans this ?_
  unfold idxf_term
  cases s.findIdx? f <;> simp

def F_idxf_term : FnC Un := fun args => match args with
  | [x0, x1] => (dL .term x0).bind fun s => (dF x1).bind fun f => some ([f = (fvo_S_term_to_b (po_S_term_to_b f) (pf_S_term_to_b f)), allO_term (po_S_term_to_b f) s], A_idxf_term (idxf_term s (po_S_term_to_b f) (pf_S_term_to_b f)), O_idxf_term (idxf_term s (po_S_term_to_b f) (pf_S_term_to_b f)))
  | _ => none

theorem ok_idxf_term : FnOK 102 F_idxf_term := by
  intro args ob rs os h hob
  unfold F_idxf_term at h
  split at h
  · simp only [Option.bind_eq_some_iff, Option.some.injEq, Prod.mk.injEq] at h
    obtain ⟨s, e0, f, e1, rfl, rfl, rfl⟩ := h
    obtain rfl := dL_eq e0
    obtain rfl := dF_eq e1
    have hfv0 := hob _ (List.mem_of_getElem? (i := 0) rfl)
    generalize pf_S_term_to_b f = pp0 at *
    generalize po_S_term_to_b f = qq0 at *
    subst hfv0
    exact ⟨fn_contractF (M := M_idxf_term) rfl (tbl_ok (l1 := []) (l2 := []) (l3 := []) (l4 := []) (l5 := []) trivial trivial trivial trivial trivial) Try.func102 (by kernel_rfl) N_idxf_term 0 [.d] (fun hwf => (idxf_term_spec s qq0 pp0 (wfArg hwf (a := .d (.v (.dat (U := Un) Ty.term s))) (List.mem_of_getElem? (i := 0) rfl)) (hob _ (List.mem_of_getElem? (i := 1) rfl)))), hasBody_of Try.func102 (by kernel_rfl) (by kernel_rfl)⟩
  · simp at h


/-! ### slices.ContainsFunc[[]api.Term,api.Term] -/
def M_conf_term : Mc Un := mach (tbl [(102, F_idxf_term)]) (tbl []) (tbl []) (tbl []) (tbl [])
def A_conf_term (r : Bool) : List (A Un) := [.c (.s (.bool r))]
def O_conf_term (_r : Bool) : List (Ob Un) := []
def R_conf_term (r : Bool) : RF Un := (A_conf_term r, O_conf_term r)
def N_conf_term : Nat → NS := fun l => (look l []).getD ⟨[], [], [], [], []⟩
def conf_term_fn (s : List Term) (f_o : Term → Prop) (f : Term → Bool) : Option (RF Un) := awf M_conf_term N_conf_term (bodyOf Try.f82) (entry Try.f82.ntmps 0 [.d (.v (.dat (U := Un) Ty.term s)), .fn (fvo_S_term_to_b f_o f)]) (retF M_conf_term Try.f82.results.toList [.d])
theorem conf_term_in (s : List Term) (f_o : Term → Prop) (f : Term → Bool) : conf_term_fn s f_o f =
 obO (fvo_S_term_to_b f_o f = fvo_S_term_to_b (po_S_term_to_b (fvo_S_term_to_b f_o f)) (pf_S_term_to_b (fvo_S_term_to_b f_o f)))
  (obO (allO_term (po_S_term_to_b (fvo_S_term_to_b f_o f)) s)
   (some (R_conf_term (decide (idxf_term s (po_S_term_to_b (fvo_S_term_to_b f_o f)) (pf_S_term_to_b (fvo_S_term_to_b f_o f)) ≥ 0))))) := by kernel_rfl

def conf_term (s : List Term) (_o : Term → Prop) (f : Term → Bool) : Bool := s.any f
theorem conf_term_spec (s : List Term) (o : Term → Prop) (f : Term → Bool) (_hs : WL .term s) (ho : allO_term o s) : conf_term_fn s o f = some (R_conf_term (conf_term s o f)) := by
  rw [conf_term_in]
  simp only [pofvo_S_term_to_b, pffvo_S_term_to_b]
  rw [obO_pos trivial, obO_pos ho]
  unfold conf_term
  congr 2
  have := idxf_term_nonneg s o f
  cases h : s.any f with
  | true => simp; exact this.2 h
  | false =>
    have : ¬ 0 ≤ idxf_term s o f := fun e => by rw [this.1 e] at h; simp at h
    simpa using this

def F_conf_term : FnC Un := fun args => match args with
  | [x0, x1] => (dL .term x0).bind fun s => (dF x1).bind fun f => some ([f = (fvo_S_term_to_b (po_S_term_to_b f) (pf_S_term_to_b f)), allO_term (po_S_term_to_b f) s], A_conf_term (conf_term s (po_S_term_to_b f) (pf_S_term_to_b f)), O_conf_term (conf_term s (po_S_term_to_b f) (pf_S_term_to_b f)))
  | _ => none

theorem ok_conf_term : FnOK 82 F_conf_term := by
  intro args ob rs os h hob
  unfold F_conf_term at h
  split at h
  · simp only [Option.bind_eq_some_iff, Option.some.injEq, Prod.mk.injEq] at h
    obtain ⟨s, e0, f, e1, rfl, rfl, rfl⟩ := h
    obtain rfl := dL_eq e0
    obtain rfl := dF_eq e1
    have hfv0 := hob _ (List.mem_of_getElem? (i := 0) rfl)
    generalize pf_S_term_to_b f = pp0 at *
    generalize po_S_term_to_b f = qq0 at *
    subst hfv0
    exact ⟨fn_contractF (M := M_conf_term) rfl (tbl_ok (l1 := [(102, F_idxf_term)]) (l2 := []) (l3 := []) (l4 := []) (l5 := []) ⟨ok_idxf_term, trivial⟩ trivial trivial trivial trivial) Try.func82 (by kernel_rfl) N_conf_term 0 [.d] (fun hwf => (conf_term_spec s qq0 pp0 (wfArg hwf (a := .d (.v (.dat (U := Un) Ty.term s))) (List.mem_of_getElem? (i := 0) rfl)) (hob _ (List.mem_of_getElem? (i := 1) rfl)))), hasBody_of Try.func82 (by kernel_rfl) (by kernel_rfl)⟩
  · simp at h


end
end Go.Proofs.Ytaepcbdcjbfgjaa.B
