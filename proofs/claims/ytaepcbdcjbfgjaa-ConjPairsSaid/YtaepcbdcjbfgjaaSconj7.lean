/- Functions: conj7. (Printed by wip/tools/mkfn.py out of wip/src/conj7.src.) -/
import Derived.Test.YtaepcbdcjbfgjaaBAwf
import Derived.Test.YtaepcbdcjbfgjaaSspec
import Derived.Test.YtaepcbdcjbfgjaaSterms
import Derived.Test.YtaepcbdcjbfgjaaStermsz
import Derived.Test.YtaepcbdcjbfgjaaSconjspec
import Derived.Test.YtaepcbdcjbfgjaaSsorted
import Derived.Test.YtaepcbdcjbfgjaaSconjU
import Derived.Test.YtaepcbdcjbfgjaaSconj2
import Derived.Test.YtaepcbdcjbfgjaaSconj3
import Derived.Test.YtaepcbdcjbfgjaaSconj4
import Derived.Test.YtaepcbdcjbfgjaaSsame
import Derived.Test.YtaepcbdcjbfgjaaSsame2
import Derived.Test.YtaepcbdcjbfgjaaSsame3
import Derived.Test.YtaepcbdcjbfgjaaSsame4
import Derived.Test.YtaepcbdcjbfgjaaSsame5
import Derived.Test.YtaepcbdcjbfgjaaSconj5
import Derived.Test.YtaepcbdcjbfgjaaSconj6
namespace Go.Proofs.Ytaepcbdcjbfgjaa.B
open Go Go.RowKit
set_option maxRecDepth 100000
noncomputable section
attribute [local irreducible] awp ctxK itersK iterK retQ retGQ awf ctxF loopF

/-! ### conj.Pair$1 -/
def M_side1 : Mc Un := mach (tbl [(17, F_conj_Uses)]) (tbl []) (tbl []) (tbl []) (tbl [])
def A_side1 (r : Int) : List (A Un) := [.c (.s (.int .i64 r))]
def O_side1 (_r : Int) : List (Ob Un) := []
def R_side1 (r : Int) : RF Un := (A_side1 r, O_side1 r)
def N_side1 : Nat → NS := fun l => (look l []).getD ⟨[], [], [], [], []⟩
def side1_fn (k : Term) (cut : Int) : Option (RF Un) := awf M_side1 N_side1 (bodyOf Try.f53) (entry Try.f53.ntmps 0 [.d (.agg (enc Ty.term k)), .box [.v (.s (.int .i64 cut))]]) (retF M_side1 Try.f53.results.toList [.d])
theorem side1_in (k : Term) (cut : Int) : side1_fn k cut =
 obO (useOK (Term.ids k) (0 : Int))
  (cndO ((↑(conj_Uses (Term.ids k) (0 : Int)).length : Int) == (0 : Int))
   (some (R_side1 ((0 : Int))))
   (obO (0 ≤ IntKind.i64.wrap ((↑(conj_Uses (Term.ids k) (0 : Int)).length : Int) - (1 : Int)) ∧ IntKind.i64.wrap ((↑(conj_Uses (Term.ids k) (0 : Int)).length : Int) - (1 : Int)) < (↑(conj_Uses (Term.ids k) (0 : Int)).length : Int))
    (cndO (decide ((conj_Uses (Term.ids k) (0 : Int)).getD (IntKind.i64.wrap ((↑(conj_Uses (Term.ids k) (0 : Int)).length : Int) - (1 : Int))).toNat 0 < cut))
     (some (R_side1 ((-1 : Int))))
     (obO ((0 : Int) ≤ (0 : Int) ∧ (0 : Int) < (↑(conj_Uses (Term.ids k) (0 : Int)).length : Int))
      (cndO (decide ((conj_Uses (Term.ids k) (0 : Int)).getD 0 (0 : Int) ≥ cut))
       (some (R_side1 ((1 : Int))))
       (some (R_side1 ((0 : Int))))))))) := by kernel_rfl

def sideL (l : List Int) (cut : Int) : Int := if l.length = 0 then 0 else if l.getD (l.length - 1) 0 < cut then -1 else if l.getD 0 0 ≥ cut then 1 else 0
def side1 (k : Term) (cut : Int) : Int := sideL (usesA k 0) cut
theorem side1_spec (k : Term) (cut : Int) (_hk : WS .term k) (_hc : WI cut) (h : k.sz ≤ 1000000) : side1_fn k cut = some (R_side1 (side1 k cut)) := by
  rw [side1_in, Term.ids_eq, conj_Uses_eq, obO_pos (show useOK k 0 from ⟨by omega, h⟩)]
  have hl : (usesA k 0).length ≤ 1000000 := by have := riseI_len (inT 0 k); have := inT_len 0 k; unfold usesA; omega
  unfold side1 sideL
  generalize usesA k 0 = l at hl
  simp only [cndO_eq, beq_iff_eq, decide_eq_true_eq]
  by_cases h0 : l.length = 0
  · rw [if_pos (by omega), if_pos h0]
  · have hw : IntKind.i64.wrap ((l.length : Int) - 1) = ((l.length - 1 : Nat) : Int) := by rw [wrap_id (by omega)]; omega
    rw [if_neg (by omega), if_neg h0, hw, Int.toNat_natCast, obO_pos (by omega)]
    by_cases h1 : l.getD (l.length - 1) 0 < cut
    · rw [if_pos h1, if_pos h1]
    · rw [if_neg h1, if_neg h1, obO_pos (by omega)]
      split <;> rfl

def L_side1 : List (List (DC Un)) → Option (FV Un) := fun dl => match dl with
  | [b0] => (bI .i64 b0).bind fun cut => some (fvo_S_term_to_i_i64 (fun k => k.sz ≤ 1000000) (fun k => side1 k cut))
  | _ => none

theorem okL_side1 : ClOK 53 L_side1 := by
  refine ⟨hasBody_of Try.func53 (by kernel_rfl) (by kernel_rfl), fun dl φ args ob rs hF hφ hob => ?_⟩
  unfold L_side1 at hF
  split at hF
  · simp only [Option.bind_eq_some_iff, Option.some.injEq] at hF
    obtain ⟨cut, g0, hE⟩ := hF
    subst hE
    obtain rfl := bI_eq g0
    unfold fvo_S_term_to_i_i64 at hφ
    split at hφ
    · simp only [Option.bind_eq_some_iff, Option.some.injEq, Prod.mk.injEq] at hφ
      obtain ⟨k, e0, rfl, rfl⟩ := hφ
      simp only [List.map_cons, List.map_nil, List.cons_append, List.nil_append]
      rw [dS_eq e0]
      exact Contract.data (fn_contractF (M := M_side1) rfl (tbl_ok (l1 := [(17, F_conj_Uses)]) (l2 := []) (l3 := []) (l4 := []) (l5 := []) ⟨ok_conj_Uses, trivial⟩ trivial trivial trivial trivial) Try.func53 (by kernel_rfl) N_side1 0 [.d] (fun hwf => (side1_spec k cut (wfArg hwf (a := .d (.agg (enc Ty.term k))) (List.mem_of_getElem? (i := 0) rfl)) (wfArg hwf (a := .box [.v (.s (.int .i64 cut))]) (List.mem_of_getElem? (i := 1) rfl)) (hob _ (List.mem_of_getElem? (i := 0) rfl)))))
    · simp at hφ
  · simp at hF


/-! ### conj.Pair$2 -/
def M_down2 : Mc Un := mach (tbl []) (tbl []) (tbl []) (tbl []) (tbl [])
def A_down2 (r : Term) : List (A Un) := [.agg (encC Ty.term r)]
def O_down2 (_r : Term) : List (Ob Un) := []
def R_down2 (r : Term) : RF Un := (A_down2 r, O_down2 r)
def N_down2 : Nat → NS := fun l => (look l []).getD ⟨[], [], [], [], []⟩
def down2_fn (c : Term) (deep : Int) (cut : Int) : Option (RF Un) := awf M_down2 N_down2 (bodyOf Try.f54) (entry Try.f54.ntmps 0 [.d (.agg (enc Ty.term c)), .d (.v (.s (.int .i64 deep))), .box [.v (.s (.int .i64 cut))]]) (retF M_down2 Try.f54.results.toList [.d])
theorem down2_in (c : Term) (deep : Int) (cut : Int) : down2_fn c deep cut =
 cndO (c.depth == deep)
  (some (R_down2 (Term.mk c.op c.v c.depth (IntKind.i64.wrap (c.at_ - cut)) c.name c.kids c.sub c.type)))
  (some (R_down2 (c))) := by kernel_rfl

def down2 (c : Term) (deep cut : Int) : Term := if c.depth = deep then setAt c (IntKind.i64.wrap (c.at_ - cut)) else c
theorem down2_spec (c : Term) (deep cut : Int) (_hc : WS .term c) (_hd : WI deep) (_he : WI cut) (_ : True) : down2_fn c deep cut = some (R_down2 (down2 c deep cut)) := by
  rw [down2_in]
  unfold down2 setAt
  simp only [cndO_eq, beq_iff_eq]
  split <;> rfl
theorem down2_keeps (cut : Int) : KeepsAt (fun c d => down2 c d cut) := by
  intro c d
  show down2 c d cut = setAt c (down2 c d cut).at_
  unfold down2
  split
  · simp only [setAt, Term.at__mk]
  · unfold setAt; rw [term_eta]

def L_down2 : List (List (DC Un)) → Option (FV Un) := fun dl => match dl with
  | [b0] => (bI .i64 b0).bind fun cut => some (fvo_S_term_i_i64_to_S_term (fun c deep => True) (fun c deep => down2 c deep cut))
  | _ => none

theorem okL_down2 : ClOK 54 L_down2 := by
  refine ⟨hasBody_of Try.func54 (by kernel_rfl) (by kernel_rfl), fun dl φ args ob rs hF hφ hob => ?_⟩
  unfold L_down2 at hF
  split at hF
  · simp only [Option.bind_eq_some_iff, Option.some.injEq] at hF
    obtain ⟨cut, g0, hE⟩ := hF
    subst hE
    obtain rfl := bI_eq g0
    unfold fvo_S_term_i_i64_to_S_term at hφ
    split at hφ
    · simp only [Option.bind_eq_some_iff, Option.some.injEq, Prod.mk.injEq] at hφ
      obtain ⟨c, e0, deep, e1, rfl, rfl⟩ := hφ
      simp only [List.map_cons, List.map_nil, List.cons_append, List.nil_append]
      rw [dS_eq e0]
      rw [dI_eq e1]
      exact Contract.data (fn_contractF (M := M_down2) rfl (tbl_ok (l1 := []) (l2 := []) (l3 := []) (l4 := []) (l5 := []) trivial trivial trivial trivial trivial) Try.func54 (by kernel_rfl) N_down2 0 [.d] (fun hwf => (down2_spec c deep cut (wfArg hwf (a := .d (.agg (enc Ty.term c))) (List.mem_of_getElem? (i := 0) rfl)) (wfArg hwf (a := .d (.v (.s (.int .i64 deep)))) (List.mem_of_getElem? (i := 1) rfl)) (wfArg hwf (a := .box [.v (.s (.int .i64 cut))]) (List.mem_of_getElem? (i := 2) rfl)) (hob _ (List.mem_of_getElem? (i := 0) rfl)))))
    · simp at hφ
  · simp at hF


/-! ### conj.Pair -/
def M_conj_Pair : Mc Un := mach (tbl [(52, F_conj_plain), (41, F_conj_mapped)]) (tbl []) (tbl [(53, L_side1), (54, L_down2)]) (tbl []) (tbl [])
def A_conj_Pair (r : Term × Term × Bool) : List (A Un) := [.agg (encC Ty.term r.1), .agg (encC Ty.term r.2.1), .c (.s (.bool r.2.2))]
def O_conj_Pair (_r : Term × Term × Bool) : List (Ob Un) := []
def R_conj_Pair (r : Term × Term × Bool) : RF Un := (A_conj_Pair r, O_conj_Pair r)
def N_conj_Pair : Nat → NS := fun l => (look l []).getD ⟨[], [], [], [], []⟩
def conj_Pair_fn (t : Term) (cut : Int) : Option (RF Un) := awf M_conj_Pair N_conj_Pair (bodyOf Try.f23) (entry Try.f23.ntmps 0 [.d (.agg (enc Ty.term t)), .d (.v (.s (.int .i64 cut)))]) (retF M_conj_Pair Try.f23.results.toList [.d, .d, .d])
def conj_Pair_t1 (t : Term) (cut : Int) : Option (RF Un) :=
 cndO (side1 (Term.ids (t.kids.getD 0 zeroTerm)) cut != (-1 : Int))
  (some (R_conj_Pair (zeroTerm, zeroTerm, false)))
  (cndO (side1 (Term.ids (t.kids.getD 1 zeroTerm)) cut != 1)
   (some (R_conj_Pair (zeroTerm, zeroTerm, false)))
   (obO ((fvo_S_term_i_i64_to_S_term (fun c deep => True) fun c deep => down2 c deep cut) = fvo_S_term_i_i64_to_S_term (po_S_term_i_i64_to_S_term (fvo_S_term_i_i64_to_S_term (fun c deep => True) fun c deep => down2 c deep cut)) (pf_S_term_i_i64_to_S_term (fvo_S_term_i_i64_to_S_term (fun c deep => True) fun c deep => down2 c deep cut)))
    (obO (mapOK (0 : Int) (po_S_term_i_i64_to_S_term (fvo_S_term_i_i64_to_S_term (fun c deep => True) fun c deep => down2 c deep cut)) (pf_S_term_i_i64_to_S_term (fvo_S_term_i_i64_to_S_term (fun c deep => True) fun c deep => down2 c deep cut)) (Term.ids (t.kids.getD 1 zeroTerm)).sz)
     (some (R_conj_Pair (t.kids.getD 0 zeroTerm, conj_mapped (Term.ids (t.kids.getD 1 zeroTerm)) (0 : Int) (po_S_term_i_i64_to_S_term (fvo_S_term_i_i64_to_S_term (fun c deep => True) fun c deep => down2 c deep cut)) (pf_S_term_i_i64_to_S_term (fvo_S_term_i_i64_to_S_term (fun c deep => True) fun c deep => down2 c deep cut)), true))))))
theorem conj_Pair_in (t : Term) (cut : Int) : conj_Pair_fn t cut =
 cndO (t.op != 11)
  (some (R_conj_Pair (zeroTerm, zeroTerm, false)))
  (cndO ((↑t.kids.length : Int) != (2 : Int))
   (some (R_conj_Pair (zeroTerm, zeroTerm, false)))
   (cndO (!conj_plain (Term.ids t))
    (some (R_conj_Pair (zeroTerm, zeroTerm, false)))
    (obO ((0 : Int) ≤ (0 : Int) ∧ (0 : Int) < (↑t.kids.length : Int))
     (obO ((0 : Int) ≤ (1 : Int) ∧ (1 : Int) < (↑t.kids.length : Int))
      (obO ((Term.ids (t.kids.getD 0 zeroTerm)).sz ≤ (1000000 : Nat))
       (obO ((Term.ids (t.kids.getD 1 zeroTerm)).sz ≤ (1000000 : Nat))
        (cndO (side1 (Term.ids (t.kids.getD 0 zeroTerm)) cut == 1)
         (cndO (side1 (Term.ids (t.kids.getD 1 zeroTerm)) cut == (-1 : Int))
          (obO ((fvo_S_term_i_i64_to_S_term (fun c deep => True) fun c deep => down2 c deep cut) = fvo_S_term_i_i64_to_S_term (po_S_term_i_i64_to_S_term (fvo_S_term_i_i64_to_S_term (fun c deep => True) fun c deep => down2 c deep cut)) (pf_S_term_i_i64_to_S_term (fvo_S_term_i_i64_to_S_term (fun c deep => True) fun c deep => down2 c deep cut)))
           (obO (mapOK (0 : Int) (po_S_term_i_i64_to_S_term (fvo_S_term_i_i64_to_S_term (fun c deep => True) fun c deep => down2 c deep cut)) (pf_S_term_i_i64_to_S_term (fvo_S_term_i_i64_to_S_term (fun c deep => True) fun c deep => down2 c deep cut)) (Term.ids (t.kids.getD 0 zeroTerm)).sz)
            (some (R_conj_Pair (t.kids.getD 1 zeroTerm, conj_mapped (Term.ids (t.kids.getD 0 zeroTerm)) (0 : Int) (po_S_term_i_i64_to_S_term (fvo_S_term_i_i64_to_S_term (fun c deep => True) fun c deep => down2 c deep cut)) (pf_S_term_i_i64_to_S_term (fvo_S_term_i_i64_to_S_term (fun c deep => True) fun c deep => down2 c deep cut)), true)))))
          (conj_Pair_t1 t cut))
         (conj_Pair_t1 t cut)))))))) := by kernel_rfl

def lowT (cut : Int) (t : Term) : Term := mapT (fun c d => down2 c d cut) 0 t
def pairA (t : Term) (cut : Int) : Term × Term × Bool :=
  if t.op = 11 ∧ t.kids.length = 2 ∧ plainT t = true then
    (if side1 (t.kids.getD 0 zeroTerm) cut = 1 ∧ side1 (t.kids.getD 1 zeroTerm) cut = -1 then (t.kids.getD 1 zeroTerm, lowT cut (t.kids.getD 0 zeroTerm), true)
     else if side1 (t.kids.getD 0 zeroTerm) cut = -1 ∧ side1 (t.kids.getD 1 zeroTerm) cut = 1 then (t.kids.getD 0 zeroTerm, lowT cut (t.kids.getD 1 zeroTerm), true) else (zeroTerm, zeroTerm, false))
  else (zeroTerm, zeroTerm, false)
def conj_Pair (t : Term) (cut : Int) : Term × Term × Bool := pairA t cut
@[simp] theorem conj_Pair_eq (t : Term) (cut : Int) : conj_Pair t cut = pairA t cut := by unfold conj_Pair; rfl
theorem conj_Pair_t1_eq (t : Term) (cut : Int) (h : (t.kids.getD 1 zeroTerm).sz ≤ 1000000) : conj_Pair_t1 t cut = some (R_conj_Pair (if side1 (t.kids.getD 0 zeroTerm) cut = -1 ∧ side1 (t.kids.getD 1 zeroTerm) cut = 1 then (t.kids.getD 0 zeroTerm, lowT cut (t.kids.getD 1 zeroTerm), true) else (zeroTerm, zeroTerm, false))) := by
  unfold conj_Pair_t1
  simp only [Term.ids_eq, pofvo_S_term_i_i64_to_S_term, pffvo_S_term_i_i64_to_S_term]
  rw [obO_pos trivial, obO_pos (show mapOK _ _ _ _ from ⟨⟨fun _ _ => trivial, down2_keeps cut⟩, by omega, by omega⟩)]
  simp only [cndO_eq, bne_iff_ne, ne_eq]
  by_cases h1 : side1 (t.kids.getD 0 zeroTerm) cut = -1
  · by_cases h2 : side1 (t.kids.getD 1 zeroTerm) cut = 1
    · rw [if_neg (by simpa using h1), if_neg (by simpa using h2), if_pos ⟨h1, h2⟩]
      unfold conj_mapped lowT
      rfl
    · rw [if_neg (by simpa using h1), if_pos h2, if_neg (fun e => h2 e.2)]
  · rw [if_pos h1, if_neg (fun e => h1 e.1)]
theorem sz_kidD {t : Term} {i : Nat} (h : i < t.kids.length) : (t.kids.getD i zeroTerm).sz ≤ t.sz := by
  have h1 := szTs_mem (getD_mem (d := zeroTerm) h)
  have h2 := t.sz_eq
  omega
theorem conj_Pair_spec (t : Term) (cut : Int) (_ht : WS .term t) (_hc : WI cut) (h : t.sz ≤ 1000000) : conj_Pair_fn t cut = some (R_conj_Pair (conj_Pair t cut)) := by
  rw [conj_Pair_in]
  simp only [Term.ids_eq, pofvo_S_term_i_i64_to_S_term, pffvo_S_term_i_i64_to_S_term, conj_plain]
  unfold conj_Pair pairA
  simp only [cndO_eq, bne_iff_ne, ne_eq, beq_iff_eq, Bool.not_eq_true']
  by_cases h1 : t.op = 11
  · by_cases h2 : t.kids.length = 2
    · by_cases h3 : plainT t = true
      · have s0 := sz_kidD (t := t) (i := 0) (by omega)
        have s1 := sz_kidD (t := t) (i := 1) (by omega)
        rw [if_neg (by simpa using h1), if_neg (by omega), if_neg (by rw [h3]; decide), if_pos (show t.op = 11 ∧ t.kids.length = 2 ∧ plainT t = true from ⟨h1, h2, h3⟩), obO_pos (by omega), obO_pos (by omega), obO_pos (by omega), obO_pos (by omega), conj_Pair_t1_eq t cut (by omega), obO_pos trivial, obO_pos (show mapOK _ _ _ _ from ⟨⟨fun _ _ => trivial, down2_keeps cut⟩, by omega, by omega⟩)]
        by_cases h4 : side1 (t.kids.getD 0 zeroTerm) cut = 1
        · by_cases h5 : side1 (t.kids.getD 1 zeroTerm) cut = -1
          · rw [if_pos h4, if_pos h5, if_pos ⟨h4, h5⟩]
            unfold conj_mapped lowT
            rfl
          · rw [if_pos h4, if_neg h5]
            congr 2
            rw [if_neg (c := _ = 1 ∧ _ = -1) (fun e => h5 e.2)]
        · rw [if_neg h4]
          congr 2
          rw [if_neg (c := _ = 1 ∧ _ = -1) (fun e => h4 e.1)]
      · rw [if_neg (by simpa using h1), if_neg (by omega), if_pos (by simpa using h3), if_neg (fun e => h3 e.2.2)]
    · rw [if_neg (by simpa using h1), if_pos (by omega), if_neg (fun e => h2 e.2.1)]
  · rw [if_pos (by simpa using h1), if_neg (fun e => h1 e.1)]

def F_conj_Pair : FnC Un := fun args => match args with
  | [x0, x1] => (dS .term x0).bind fun t => (dI .i64 x1).bind fun cut => some ([t.sz ≤ 1000000], A_conj_Pair (conj_Pair t cut), O_conj_Pair (conj_Pair t cut))
  | _ => none

theorem ok_conj_Pair : FnOK 23 F_conj_Pair := by
  intro args ob rs os h hob
  unfold F_conj_Pair at h
  split at h
  · simp only [Option.bind_eq_some_iff, Option.some.injEq, Prod.mk.injEq] at h
    obtain ⟨t, e0, cut, e1, rfl, rfl, rfl⟩ := h
    obtain rfl := dS_eq e0
    obtain rfl := dI_eq e1
    exact ⟨fn_contractF (M := M_conj_Pair) rfl (tbl_ok (l1 := [(52, F_conj_plain), (41, F_conj_mapped)]) (l2 := []) (l3 := [(53, L_side1), (54, L_down2)]) (l4 := []) (l5 := []) ⟨ok_conj_plain, ok_conj_mapped, trivial⟩ trivial ⟨okL_side1, okL_down2, trivial⟩ trivial trivial) Try.func23 (by kernel_rfl) N_conj_Pair 0 [.d, .d, .d] (fun hwf => (conj_Pair_spec t cut (wfArg hwf (a := .d (.agg (enc Ty.term t))) (List.mem_of_getElem? (i := 0) rfl)) (wfArg hwf (a := .d (.v (.s (.int .i64 cut)))) (List.mem_of_getElem? (i := 1) rfl)) (hob _ (List.mem_of_getElem? (i := 0) rfl)))), hasBody_of Try.func23 (by kernel_rfl) (by kernel_rfl)⟩
  · simp at h


end
end Go.Proofs.Ytaepcbdcjbfgjaa.B
