/- Part 22 of the proof: Sconj6 Sconj7 Sref03. -/
import Derived.Test.YtjmpnpkcgkhagaaGreatCtr21
namespace Go.Proofs.YtjmpnpkcgkhagaaGreat.B
open Go Go.RowKit
set_option maxRecDepth 100000
noncomputable section
attribute [local irreducible] awp ctxK itersK iterK retQ retGQ awf ctxF loopF
mutual
def plainT : Term → Bool
  | .mk _ _ _ _ _ kids sub _ => sub.isEmpty && plainTs kids
def plainTs : List Term → Bool
  | [] => true
  | t :: r => plainT t && plainTs r
end
def conj_plain (t : Term) : Bool := plainT t
def plain1 (k : Term) : Bool := !plainT k
theorem plainTs_any : ∀ l : List Term, (!(l.any plain1)) = plainTs l
  | [] => rfl
  | t :: r => by simp only [List.any_cons, plainTs, Bool.not_or, plainTs_any r, plain1, Bool.not_not]
theorem plainT_eq (t : Term) : plainT t = (t.sub.isEmpty && plainTs t.kids) := by cases t; simp only [plainT, Term.sub_mk, Term.kids_mk]
def A_conj_plain (r : Bool) : List (A Un) := [.c (.s (.bool r))]
def O_conj_plain (_r : Bool) : List (Ob Un) := []
def Fm_conj_plain (m : Nat) : FnC Un := fun args => match args with
  | [x0] => (dS .term x0).bind fun t => some ([2 * t.ht < m], A_conj_plain (conj_plain t), O_conj_plain (conj_plain t))
  | _ => none
def A_plain1 (r : Bool) : List (A Un) := [.c (.s (.bool r))]
def O_plain1 (_r : Bool) : List (Ob Un) := []
def Fm_plain1 (m : Nat) : FnC Un := fun args => match args with
  | [x0] => (dS .term x0).bind fun k => some ([2 * k.ht + 1 < m], A_plain1 (plain1 k), O_plain1 (plain1 k))
  | _ => none
def Vm_plain1 (m : Nat) : FV Un := fvo_S_term_to_b (fun k => (2 * k.ht + 1 < m)) (fun k => plain1 k)
theorem okVm_plain1 (m : Nat) (h_plain1 : FnOK 59 (Fm_plain1 m)) : FvOK 59 (Vm_plain1 m) := by
  refine ⟨hasBody_of Tryz.func59 (by kernel_rfl) (by kernel_rfl), fun args ob rs h hob => ?_⟩
  unfold Vm_plain1 fvo_S_term_to_b at h
  split at h
  · simp only [Option.bind_eq_some_iff, Option.some.injEq, Prod.mk.injEq] at h
    obtain ⟨k, e0, rfl, rfl⟩ := h
    simp only [List.map_cons, List.map_nil]
    rw [dS_eq e0]
    refine Contract.data (h_plain1 _ [2 * k.ht + 1 < m] _ _ (?_ : Fm_plain1 m _ = some _) (fun p hp => by rw [List.mem_singleton.1 hp]; simpa using hob _ List.mem_cons_self)).1
    unfold Fm_plain1
    simp only [dSk_mk]
    rfl
  · simp at h
theorem vmo_plain1 (m : Nat) : po_S_term_to_b (Vm_plain1 m) = fun k => 2 * k.ht + 1 < m := by unfold Vm_plain1; exact pofvo_S_term_to_b _ _
theorem vmf_plain1 (m : Nat) : pf_S_term_to_b (Vm_plain1 m) = plain1 := by unfold Vm_plain1; rw [pffvo_S_term_to_b]
theorem vmv_plain1 (m : Nat) : Vm_plain1 m = fvo_S_term_to_b (po_S_term_to_b (Vm_plain1 m)) (pf_S_term_to_b (Vm_plain1 m)) := by unfold Vm_plain1; rw [pofvo_S_term_to_b, pffvo_S_term_to_b]
def M_conj_plain (m : Nat) : Mc Un := mach (tbl [(58, F_conf_term)]) (tbl [(59, Vm_plain1 m)]) (tbl []) (tbl []) (tbl [])
def R_conj_plain (r : Bool) : RF Un := (A_conj_plain r, O_conj_plain r)
def N_conj_plain : Nat → NS := fun l => (look l []).getD ⟨[], [], [], [], [], false⟩
def conj_plain_fn (m : Nat) (t : Term) : Option (RF Un) := awf (M_conj_plain m) N_conj_plain (bodyOf Tryz.f25) (entry Tryz.f25.ntmps 0 [.d (.agg (enc Ty.term t))]) (retF (M_conj_plain m) Tryz.f25.results.toList [.d])
theorem conj_plain_in (m : Nat) (t : Term) : conj_plain_fn m t =
 cndO ((↑t.sub.length : Int) == (0 : Int))
  (obO (Vm_plain1 m = fvo_S_term_to_b (po_S_term_to_b (Vm_plain1 m)) (pf_S_term_to_b (Vm_plain1 m)))
   (obO (allO_term (po_S_term_to_b (Vm_plain1 m)) t.kids)
    (some (R_conj_plain (!conf_term t.kids (po_S_term_to_b (Vm_plain1 m)) (pf_S_term_to_b (Vm_plain1 m)))))))
  (some (R_conj_plain (false))) := by kernel_rfl
theorem conj_plain_spec (m : Nat) (t : Term) (_ht : WS .term t) (h : 2 * t.ht < m + 1) : conj_plain_fn m t = some (R_conj_plain (conj_plain t)) := by
  have o1 : allO_term (po_S_term_to_b (Vm_plain1 m)) t.kids := by
    rw [vmo_plain1]
    intro k hk
    have := Term.ht_kid hk
    show 2 * k.ht + 1 < m
    omega
  rw [conj_plain_in, obO_pos (vmv_plain1 m), obO_pos o1]
  simp only [vmf_plain1, conf_term]
  rw [cndO_and R_conj_plain, plainTs_any]
  unfold conj_plain
  rw [plainT_eq]
  congr 3
  cases t.sub with
  | nil => rfl
  | cons x l => rw [List.isEmpty_cons, beq_eq_false_iff_ne, List.length_cons]; omega
theorem okm_conj_plain (m : Nat) (h_conj_plain : FnOK 25 (Fm_conj_plain m)) (h_plain1 : FnOK 59 (Fm_plain1 m)) : FnOK 25 (Fm_conj_plain (m + 1)) := by
  intro args ob rs os h hob
  unfold Fm_conj_plain at h
  split at h
  · simp only [Option.bind_eq_some_iff, Option.some.injEq, Prod.mk.injEq] at h
    obtain ⟨t, e0, rfl, rfl, rfl⟩ := h
    obtain rfl := dS_eq e0
    exact ⟨fn_contractF (M := (M_conj_plain m)) rfl (tbl_ok (l1 := [(58, F_conf_term)]) (l2 := [(59, Vm_plain1 m)]) (l3 := []) (l4 := []) (l5 := []) ⟨ok_conf_term, trivial⟩ ⟨(okVm_plain1 m h_plain1), trivial⟩ trivial trivial trivial) Tryz.func25 (by kernel_rfl) N_conj_plain 0 [.d] (fun hwf => (conj_plain_spec m t (wfArg hwf (a := .d (.agg (enc Ty.term t))) (List.mem_of_getElem? (i := 0) rfl)) (hob _ (List.mem_of_getElem? (i := 0) rfl)))), hasBody_of Tryz.func25 (by kernel_rfl) (by kernel_rfl)⟩
  · simp at h
def M_plain1 (m : Nat) : Mc Un := mach (tbl [(25, Fm_conj_plain m)]) (tbl []) (tbl []) (tbl []) (tbl [])
def R_plain1 (r : Bool) : RF Un := (A_plain1 r, O_plain1 r)
def N_plain1 : Nat → NS := fun l => (look l []).getD ⟨[], [], [], [], [], false⟩
def plain1_fn (m : Nat) (k : Term) : Option (RF Un) := awf (M_plain1 m) N_plain1 (bodyOf Tryz.f59) (entry Tryz.f59.ntmps 0 [.d (.agg (enc Ty.term k))]) (retF (M_plain1 m) Tryz.f59.results.toList [.d])
theorem plain1_in (m : Nat) (k : Term) : plain1_fn m k =
 obO ((2 : Nat) * (Term.ids k).ht < m)
  (some (R_plain1 (!conj_plain (Term.ids k)))) := by kernel_rfl
theorem plain1_spec (m : Nat) (k : Term) (_hk : WS .term k) (h : 2 * k.ht + 1 < m + 1) : plain1_fn m k = some (R_plain1 (plain1 k)) := by
  rw [plain1_in, Term.ids_eq, obO_pos (by omega)]
  unfold plain1 conj_plain
  rfl
theorem okm_plain1 (m : Nat) (h_conj_plain : FnOK 25 (Fm_conj_plain m)) (h_plain1 : FnOK 59 (Fm_plain1 m)) : FnOK 59 (Fm_plain1 (m + 1)) := by
  intro args ob rs os h hob
  unfold Fm_plain1 at h
  split at h
  · simp only [Option.bind_eq_some_iff, Option.some.injEq, Prod.mk.injEq] at h
    obtain ⟨k, e0, rfl, rfl, rfl⟩ := h
    obtain rfl := dS_eq e0
    exact ⟨fn_contractF (M := (M_plain1 m)) rfl (tbl_ok (l1 := [(25, Fm_conj_plain m)]) (l2 := []) (l3 := []) (l4 := []) (l5 := []) ⟨h_conj_plain, trivial⟩ trivial trivial trivial trivial) Tryz.func59 (by kernel_rfl) N_plain1 0 [.d] (fun hwf => (plain1_spec m k (wfArg hwf (a := .d (.agg (enc Ty.term k))) (List.mem_of_getElem? (i := 0) rfl)) (hob _ (List.mem_of_getElem? (i := 0) rfl)))), hasBody_of Tryz.func59 (by kernel_rfl) (by kernel_rfl)⟩
  · simp at h
theorem okAll_plainG : ∀ m, FnOK 25 (Fm_conj_plain m) ∧ FnOK 59 (Fm_plain1 m)
  | 0 => by
    refine ⟨?_, ?_⟩
    · intro args ob rs os h hob
      unfold Fm_conj_plain at h
      split at h
      · simp only [Option.bind_eq_some_iff, Option.some.injEq, Prod.mk.injEq] at h
        obtain ⟨_, _, rfl, _, _⟩ := h
        exact absurd (hob _ (List.mem_of_getElem? (i := 0) rfl)) (Nat.not_lt_zero _)
      · simp at h
    · intro args ob rs os h hob
      unfold Fm_plain1 at h
      split at h
      · simp only [Option.bind_eq_some_iff, Option.some.injEq, Prod.mk.injEq] at h
        obtain ⟨_, _, rfl, _, _⟩ := h
        exact absurd (hob _ (List.mem_of_getElem? (i := 0) rfl)) (Nat.not_lt_zero _)
      · simp at h
  | m + 1 => by
    have ih := okAll_plainG m
    exact ⟨okm_conj_plain m ih.1 ih.2, okm_plain1 m ih.1 ih.2⟩
def F_conj_plain : FnC Un := fun args => match args with
  | [x0] => (dS .term x0).bind fun t => some ([], A_conj_plain (conj_plain t), O_conj_plain (conj_plain t))
  | _ => none
theorem ok_conj_plain : FnOK 25 F_conj_plain := by
  intro args ob rs os h hob
  unfold F_conj_plain at h
  split at h
  · simp only [Option.bind_eq_some_iff, Option.some.injEq, Prod.mk.injEq] at h
    obtain ⟨t, e0, rfl, rfl, rfl⟩ := h
    refine ((okAll_plainG (2 * t.ht + 1)).1) _ [2 * t.ht < 2 * t.ht + 1] _ _ (?_ : Fm_conj_plain (2 * t.ht + 1) _ = some _) ?_
    · unfold Fm_conj_plain
      simp only [e0, Option.bind_some]
    · intro p hp
      simp only [List.mem_cons, List.not_mem_nil, or_false] at hp
      subst hp
      exact Nat.lt_succ_self _
  · simp at h
end
end Go.Proofs.YtjmpnpkcgkhagaaGreat.B
namespace Go.Proofs.YtjmpnpkcgkhagaaGreat.B
open Go Go.RowKit
set_option maxRecDepth 100000
noncomputable section
attribute [local irreducible] awp ctxK itersK iterK retQ retGQ awf ctxF loopF
def M_side1 : Mc Un := mach (tbl [(17, F_conj_Uses)]) (tbl []) (tbl []) (tbl []) (tbl [])
def A_side1 (r : Int) : List (A Un) := [.c (.s (.int .i64 r))]
def O_side1 (_r : Int) : List (Ob Un) := []
def R_side1 (r : Int) : RF Un := (A_side1 r, O_side1 r)
def N_side1 : Nat → NS := fun l => (look l []).getD ⟨[], [], [], [], [], false⟩
def side1_fn (k : Term) (cut : Int) : Option (RF Un) := awf M_side1 N_side1 (bodyOf Tryz.f26) (entry Tryz.f26.ntmps 0 [.d (.agg (enc Ty.term k)), .box [.v (.s (.int .i64 cut))]]) (retF M_side1 Tryz.f26.results.toList [.d])
theorem side1_in (k : Term) (cut : Int) : side1_fn k cut =
 obO (useOK (Term.ids k) (0 : Int))
  (cndO ((↑(conj_Uses (Term.ids k) (0 : Int)).length : Int) == (0 : Int))
   (some (R_side1 ((0 : Int))))
   (obO (0 ≤ IntKind.i64.wrap ((↑(conj_Uses (Term.ids k) (0 : Int)).length : Int) - (1 : Int)) ∧ IntKind.i64.wrap ((↑(conj_Uses (Term.ids k) (0 : Int)).length : Int) - (1 : Int)) < (↑(conj_Uses (Term.ids k) (0 : Int)).length : Int))
    (cndO (decide ((conj_Uses (Term.ids k) (0 : Int)).getD (IntKind.i64.wrap ((↑(conj_Uses (Term.ids k) (0 : Int)).length : Int) - (1 : Int))).toNat 0 < cut))
     (some (R_side1 ((-1 : Int))))
     (obO ((0 : Int) ≤ (0 : Int) ∧ (0 : Int) < (↑(conj_Uses (Term.ids k) (0 : Int)).length : Int))
      (cndO (decide ((conj_Uses (Term.ids k) (0 : Int)).getD 0 (0 : Int) ≥ cut))
       (some (R_side1 ((1 : Int))))
       (some (R_side1 ((0 : Int))))))))) := by kernel_rfl
def sideL (l : List Int) (cut : Int) : Int := if l.length = 0 then 0 else if l.getD (l.length - 1) 0 < cut then -1 else if l.getD 0 0 ≥ cut then 1 else 0
def side1 (k : Term) (cut : Int) : Int := sideL (usesA k 0) cut
theorem side1_spec (k : Term) (cut : Int) (_hk : WS .term k) (_hc : WI cut) (h : k.sz ≤ 2000000) : side1_fn k cut = some (R_side1 (side1 k cut)) := by
  rw [side1_in, Term.ids_eq, conj_Uses_eq, obO_pos (show useOK k 0 from ⟨by omega, h⟩)]
  have hl : (usesA k 0).length ≤ 2000000 := by have := riseI_len (inT 0 k); have := inT_len 0 k; unfold usesA; omega
  unfold side1 sideL
  generalize usesA k 0 = l at hl
  simp only [cndO_eq, beq_iff_eq, decide_eq_true_eq]
  by_cases h0 : l.length = 0
  · rw [if_pos (by omega), if_pos h0]
  · have hw : IntKind.i64.wrap ((l.length : Int) - 1) = ((l.length - 1 : Nat) : Int) := by rw [wrap_id (by omega)]; omega
    rw [if_neg (by omega), if_neg h0, hw, Int.toNat_natCast, obO_pos (by omega)]
    by_cases h1 : l.getD (l.length - 1) 0 < cut
    · rw [if_pos h1, if_pos h1]
    · rw [if_neg h1, if_neg h1, obO_pos (by omega)]
      split <;> rfl
def L_side1 : List (List (DC Un)) → Option (FV Un) := fun dl => match dl with
  | [b0] => (bI .i64 b0).bind fun cut => some (fvo_S_term_to_i_i64 (fun k => k.sz ≤ 2000000) (fun k => side1 k cut))
  | _ => none
theorem okL_side1 : ClOK 26 L_side1 := by
  refine ⟨hasBody_of Tryz.func26 (by kernel_rfl) (by kernel_rfl), fun dl φ args ob rs hF hφ hob => ?_⟩
  unfold L_side1 at hF
  split at hF
  · simp only [Option.bind_eq_some_iff, Option.some.injEq] at hF
    obtain ⟨cut, g0, hE⟩ := hF
    subst hE
    obtain rfl := bI_eq g0
    unfold fvo_S_term_to_i_i64 at hφ
    split at hφ
    · simp only [Option.bind_eq_some_iff, Option.some.injEq, Prod.mk.injEq] at hφ
      obtain ⟨k, e0, rfl, rfl⟩ := hφ
      simp only [List.map_cons, List.map_nil, List.cons_append, List.nil_append]
      rw [dS_eq e0]
      exact Contract.data (fn_contractF (M := M_side1) rfl (tbl_ok (l1 := [(17, F_conj_Uses)]) (l2 := []) (l3 := []) (l4 := []) (l5 := []) ⟨ok_conj_Uses, trivial⟩ trivial trivial trivial trivial) Tryz.func26 (by kernel_rfl) N_side1 0 [.d] (fun hwf => (side1_spec k cut (wfArg hwf (a := .d (.agg (enc Ty.term k))) (List.mem_of_getElem? (i := 0) rfl)) (wfArg hwf (a := .box [.v (.s (.int .i64 cut))]) (List.mem_of_getElem? (i := 1) rfl)) (hob _ (List.mem_of_getElem? (i := 0) rfl)))))
    · simp at hφ
  · simp at hF
def M_down2 : Mc Un := mach (tbl []) (tbl []) (tbl []) (tbl []) (tbl [])
def A_down2 (r : Term) : List (A Un) := [.agg (encC Ty.term r)]
def O_down2 (_r : Term) : List (Ob Un) := []
def R_down2 (r : Term) : RF Un := (A_down2 r, O_down2 r)
def N_down2 : Nat → NS := fun l => (look l []).getD ⟨[], [], [], [], [], false⟩
def down2_fn (c : Term) (deep : Int) (cut : Int) : Option (RF Un) := awf M_down2 N_down2 (bodyOf Tryz.f27) (entry Tryz.f27.ntmps 0 [.d (.agg (enc Ty.term c)), .d (.v (.s (.int .i64 deep))), .box [.v (.s (.int .i64 cut))]]) (retF M_down2 Tryz.f27.results.toList [.d])
theorem down2_in (c : Term) (deep : Int) (cut : Int) : down2_fn c deep cut =
 cndO (c.depth == deep)
  (some (R_down2 (Term.mk c.op c.v c.depth (IntKind.i64.wrap (c.at_ - cut)) c.name c.kids c.sub c.type)))
  (some (R_down2 (c))) := by kernel_rfl
def down2 (c : Term) (deep cut : Int) : Term := if c.depth = deep then setAt c (IntKind.i64.wrap (c.at_ - cut)) else c
theorem down2_spec (c : Term) (deep cut : Int) (_hc : WS .term c) (_hd : WI deep) (_he : WI cut) (_ : True) : down2_fn c deep cut = some (R_down2 (down2 c deep cut)) := by
  rw [down2_in]
  unfold down2 setAt
  simp only [cndO_eq, beq_iff_eq]
  split <;> rfl
theorem down2_keeps (cut : Int) : KeepsAt (fun c d => down2 c d cut) := by
  intro c d
  show down2 c d cut = setAt c (down2 c d cut).at_
  unfold down2
  split
  · simp only [setAt, Term.at__mk]
  · unfold setAt; rw [term_eta]
def L_down2 : List (List (DC Un)) → Option (FV Un) := fun dl => match dl with
  | [b0] => (bI .i64 b0).bind fun cut => some (fvo_S_term_i_i64_to_S_term (fun c deep => True) (fun c deep => down2 c deep cut))
  | _ => none
theorem okL_down2 : ClOK 27 L_down2 := by
  refine ⟨hasBody_of Tryz.func27 (by kernel_rfl) (by kernel_rfl), fun dl φ args ob rs hF hφ hob => ?_⟩
  unfold L_down2 at hF
  split at hF
  · simp only [Option.bind_eq_some_iff, Option.some.injEq] at hF
    obtain ⟨cut, g0, hE⟩ := hF
    subst hE
    obtain rfl := bI_eq g0
    unfold fvo_S_term_i_i64_to_S_term at hφ
    split at hφ
    · simp only [Option.bind_eq_some_iff, Option.some.injEq, Prod.mk.injEq] at hφ
      obtain ⟨c, e0, deep, e1, rfl, rfl⟩ := hφ
      simp only [List.map_cons, List.map_nil, List.cons_append, List.nil_append]
      rw [dS_eq e0]
      rw [dI_eq e1]
      exact Contract.data (fn_contractF (M := M_down2) rfl (tbl_ok (l1 := []) (l2 := []) (l3 := []) (l4 := []) (l5 := []) trivial trivial trivial trivial trivial) Tryz.func27 (by kernel_rfl) N_down2 0 [.d] (fun hwf => (down2_spec c deep cut (wfArg hwf (a := .d (.agg (enc Ty.term c))) (List.mem_of_getElem? (i := 0) rfl)) (wfArg hwf (a := .d (.v (.s (.int .i64 deep)))) (List.mem_of_getElem? (i := 1) rfl)) (wfArg hwf (a := .box [.v (.s (.int .i64 cut))]) (List.mem_of_getElem? (i := 2) rfl)) (hob _ (List.mem_of_getElem? (i := 0) rfl)))))
    · simp at hφ
  · simp at hF
def M_conj_Pair : Mc Un := mach (tbl [(25, F_conj_plain), (28, F_conj_mapped)]) (tbl []) (tbl [(26, L_side1), (27, L_down2)]) (tbl []) (tbl [])
def A_conj_Pair (r : Term × Term × Bool) : List (A Un) := [.agg (encC Ty.term r.1), .agg (encC Ty.term r.2.1), .c (.s (.bool r.2.2))]
def O_conj_Pair (_r : Term × Term × Bool) : List (Ob Un) := []
def R_conj_Pair (r : Term × Term × Bool) : RF Un := (A_conj_Pair r, O_conj_Pair r)
def N_conj_Pair : Nat → NS := fun l => (look l []).getD ⟨[], [], [], [], [], false⟩
def conj_Pair_fn (t : Term) (cut : Int) : Option (RF Un) := awf M_conj_Pair N_conj_Pair (bodyOf Tryz.f8) (entry Tryz.f8.ntmps 0 [.d (.agg (enc Ty.term t)), .d (.v (.s (.int .i64 cut)))]) (retF M_conj_Pair Tryz.f8.results.toList [.d, .d, .d])
def conj_Pair_t1 (t : Term) (cut : Int) : Option (RF Un) :=
 cndO (side1 (Term.ids (t.kids.getD 0 zeroTerm)) cut != (-1 : Int))
  (some (R_conj_Pair (zeroTerm, zeroTerm, false)))
  (cndO (side1 (Term.ids (t.kids.getD 1 zeroTerm)) cut != 1)
   (some (R_conj_Pair (zeroTerm, zeroTerm, false)))
   (obO ((fvo_S_term_i_i64_to_S_term (fun c deep => True) fun c deep => down2 c deep cut) = fvo_S_term_i_i64_to_S_term (po_S_term_i_i64_to_S_term (fvo_S_term_i_i64_to_S_term (fun c deep => True) fun c deep => down2 c deep cut)) (pf_S_term_i_i64_to_S_term (fvo_S_term_i_i64_to_S_term (fun c deep => True) fun c deep => down2 c deep cut)))
    (obO (mapOK (0 : Int) (po_S_term_i_i64_to_S_term (fvo_S_term_i_i64_to_S_term (fun c deep => True) fun c deep => down2 c deep cut)) (pf_S_term_i_i64_to_S_term (fvo_S_term_i_i64_to_S_term (fun c deep => True) fun c deep => down2 c deep cut)) (Term.ids (t.kids.getD 1 zeroTerm)).sz)
     (some (R_conj_Pair (t.kids.getD 0 zeroTerm, conj_mapped (Term.ids (t.kids.getD 1 zeroTerm)) (0 : Int) (po_S_term_i_i64_to_S_term (fvo_S_term_i_i64_to_S_term (fun c deep => True) fun c deep => down2 c deep cut)) (pf_S_term_i_i64_to_S_term (fvo_S_term_i_i64_to_S_term (fun c deep => True) fun c deep => down2 c deep cut)), true))))))
theorem conj_Pair_in (t : Term) (cut : Int) : conj_Pair_fn t cut =
 cndO (t.op != 11)
  (some (R_conj_Pair (zeroTerm, zeroTerm, false)))
  (cndO ((↑t.kids.length : Int) != (2 : Int))
   (some (R_conj_Pair (zeroTerm, zeroTerm, false)))
   (cndO (!conj_plain (Term.ids t))
    (some (R_conj_Pair (zeroTerm, zeroTerm, false)))
    (obO ((0 : Int) ≤ (0 : Int) ∧ (0 : Int) < (↑t.kids.length : Int))
     (obO ((0 : Int) ≤ (1 : Int) ∧ (1 : Int) < (↑t.kids.length : Int))
      (obO ((Term.ids (t.kids.getD 0 zeroTerm)).sz ≤ (2000000 : Nat))
       (obO ((Term.ids (t.kids.getD 1 zeroTerm)).sz ≤ (2000000 : Nat))
        (cndO (side1 (Term.ids (t.kids.getD 0 zeroTerm)) cut == 1)
         (cndO (side1 (Term.ids (t.kids.getD 1 zeroTerm)) cut == (-1 : Int))
          (obO ((fvo_S_term_i_i64_to_S_term (fun c deep => True) fun c deep => down2 c deep cut) = fvo_S_term_i_i64_to_S_term (po_S_term_i_i64_to_S_term (fvo_S_term_i_i64_to_S_term (fun c deep => True) fun c deep => down2 c deep cut)) (pf_S_term_i_i64_to_S_term (fvo_S_term_i_i64_to_S_term (fun c deep => True) fun c deep => down2 c deep cut)))
           (obO (mapOK (0 : Int) (po_S_term_i_i64_to_S_term (fvo_S_term_i_i64_to_S_term (fun c deep => True) fun c deep => down2 c deep cut)) (pf_S_term_i_i64_to_S_term (fvo_S_term_i_i64_to_S_term (fun c deep => True) fun c deep => down2 c deep cut)) (Term.ids (t.kids.getD 0 zeroTerm)).sz)
            (some (R_conj_Pair (t.kids.getD 1 zeroTerm, conj_mapped (Term.ids (t.kids.getD 0 zeroTerm)) (0 : Int) (po_S_term_i_i64_to_S_term (fvo_S_term_i_i64_to_S_term (fun c deep => True) fun c deep => down2 c deep cut)) (pf_S_term_i_i64_to_S_term (fvo_S_term_i_i64_to_S_term (fun c deep => True) fun c deep => down2 c deep cut)), true)))))
          (conj_Pair_t1 t cut))
         (conj_Pair_t1 t cut)))))))) := by kernel_rfl
def lowT (cut : Int) (t : Term) : Term := mapT (fun c d => down2 c d cut) 0 t
def pairA (t : Term) (cut : Int) : Term × Term × Bool :=
  if t.op = 11 ∧ t.kids.length = 2 ∧ plainT t = true then
    (if side1 (t.kids.getD 0 zeroTerm) cut = 1 ∧ side1 (t.kids.getD 1 zeroTerm) cut = -1 then (t.kids.getD 1 zeroTerm, lowT cut (t.kids.getD 0 zeroTerm), true)
     else if side1 (t.kids.getD 0 zeroTerm) cut = -1 ∧ side1 (t.kids.getD 1 zeroTerm) cut = 1 then (t.kids.getD 0 zeroTerm, lowT cut (t.kids.getD 1 zeroTerm), true) else (zeroTerm, zeroTerm, false))
  else (zeroTerm, zeroTerm, false)
def conj_Pair (t : Term) (cut : Int) : Term × Term × Bool := pairA t cut
@[simp] theorem conj_Pair_eq (t : Term) (cut : Int) : conj_Pair t cut = pairA t cut := by unfold conj_Pair; rfl
theorem conj_Pair_t1_eq (t : Term) (cut : Int) (h : (t.kids.getD 1 zeroTerm).sz ≤ 2000000) : conj_Pair_t1 t cut = some (R_conj_Pair (if side1 (t.kids.getD 0 zeroTerm) cut = -1 ∧ side1 (t.kids.getD 1 zeroTerm) cut = 1 then (t.kids.getD 0 zeroTerm, lowT cut (t.kids.getD 1 zeroTerm), true) else (zeroTerm, zeroTerm, false))) := by
  unfold conj_Pair_t1
  simp only [Term.ids_eq, pofvo_S_term_i_i64_to_S_term, pffvo_S_term_i_i64_to_S_term]
  rw [obO_pos trivial, obO_pos (show mapOK _ _ _ _ from ⟨⟨fun _ _ => trivial, down2_keeps cut⟩, by omega, by omega⟩)]
  simp only [cndO_eq, bne_iff_ne, ne_eq]
  by_cases h1 : side1 (t.kids.getD 0 zeroTerm) cut = -1
  · by_cases h2 : side1 (t.kids.getD 1 zeroTerm) cut = 1
    · rw [if_neg (by simpa using h1), if_neg (by simpa using h2), if_pos ⟨h1, h2⟩]
      unfold conj_mapped lowT
      rfl
    · rw [if_neg (by simpa using h1), if_pos h2, if_neg (fun e => h2 e.2)]
  · rw [if_pos h1, if_neg (fun e => h1 e.1)]
theorem sz_kidD {t : Term} {i : Nat} (h : i < t.kids.length) : (t.kids.getD i zeroTerm).sz ≤ t.sz := by
  have h1 := szTs_mem (getD_mem (d := zeroTerm) h)
  have h2 := t.sz_eq
  omega
theorem conj_Pair_spec (t : Term) (cut : Int) (_ht : WS .term t) (_hc : WI cut) (h : t.sz ≤ 2000000) : conj_Pair_fn t cut = some (R_conj_Pair (conj_Pair t cut)) := by
  rw [conj_Pair_in]
  simp only [Term.ids_eq, pofvo_S_term_i_i64_to_S_term, pffvo_S_term_i_i64_to_S_term, conj_plain]
  unfold conj_Pair pairA
  simp only [cndO_eq, bne_iff_ne, ne_eq, beq_iff_eq, Bool.not_eq_true']
  by_cases h1 : t.op = 11
  · by_cases h2 : t.kids.length = 2
    · by_cases h3 : plainT t = true
      · have s0 := sz_kidD (t := t) (i := 0) (by omega)
        have s1 := sz_kidD (t := t) (i := 1) (by omega)
        rw [if_neg (by simpa using h1), if_neg (by omega), if_neg (by rw [h3]; decide), if_pos (show t.op = 11 ∧ t.kids.length = 2 ∧ plainT t = true from ⟨h1, h2, h3⟩), obO_pos (by omega), obO_pos (by omega), obO_pos (by omega), obO_pos (by omega), conj_Pair_t1_eq t cut (by omega), obO_pos trivial, obO_pos (show mapOK _ _ _ _ from ⟨⟨fun _ _ => trivial, down2_keeps cut⟩, by omega, by omega⟩)]
        by_cases h4 : side1 (t.kids.getD 0 zeroTerm) cut = 1
        · by_cases h5 : side1 (t.kids.getD 1 zeroTerm) cut = -1
          · rw [if_pos h4, if_pos h5, if_pos ⟨h4, h5⟩]
            unfold conj_mapped lowT
            rfl
          · rw [if_pos h4, if_neg h5]
            congr 2
            rw [if_neg (c := _ = 1 ∧ _ = -1) (fun e => h5 e.2)]
        · rw [if_neg h4]
          congr 2
          rw [if_neg (c := _ = 1 ∧ _ = -1) (fun e => h4 e.1)]
      · rw [if_neg (by simpa using h1), if_neg (by omega), if_pos (by simpa using h3), if_neg (fun e => h3 e.2.2)]
    · rw [if_neg (by simpa using h1), if_pos (by omega), if_neg (fun e => h2 e.2.1)]
  · rw [if_pos (by simpa using h1), if_neg (fun e => h1 e.1)]
def F_conj_Pair : FnC Un := fun args => match args with
  | [x0, x1] => (dS .term x0).bind fun t => (dI .i64 x1).bind fun cut => some ([t.sz ≤ 2000000], A_conj_Pair (conj_Pair t cut), O_conj_Pair (conj_Pair t cut))
  | _ => none
theorem ok_conj_Pair : FnOK 8 F_conj_Pair := by
  intro args ob rs os h hob
  unfold F_conj_Pair at h
  split at h
  · simp only [Option.bind_eq_some_iff, Option.some.injEq, Prod.mk.injEq] at h
    obtain ⟨t, e0, cut, e1, rfl, rfl, rfl⟩ := h
    obtain rfl := dS_eq e0
    obtain rfl := dI_eq e1
    exact ⟨fn_contractF (M := M_conj_Pair) rfl (tbl_ok (l1 := [(25, F_conj_plain), (28, F_conj_mapped)]) (l2 := []) (l3 := [(26, L_side1), (27, L_down2)]) (l4 := []) (l5 := []) ⟨ok_conj_plain, ok_conj_mapped, trivial⟩ trivial ⟨okL_side1, okL_down2, trivial⟩ trivial trivial) Tryz.func8 (by kernel_rfl) N_conj_Pair 0 [.d, .d, .d] (fun hwf => (conj_Pair_spec t cut (wfArg hwf (a := .d (.agg (enc Ty.term t))) (List.mem_of_getElem? (i := 0) rfl)) (wfArg hwf (a := .d (.v (.s (.int .i64 cut)))) (List.mem_of_getElem? (i := 1) rfl)) (hob _ (List.mem_of_getElem? (i := 0) rfl)))), hasBody_of Tryz.func8 (by kernel_rfl) (by kernel_rfl)⟩
  · simp at h
end
end Go.Proofs.YtjmpnpkcgkhagaaGreat.B
namespace Go.Proofs.YtjmpnpkcgkhagaaGreat.B
open Go Go.RowKit
set_option maxRecDepth 100000
noncomputable section
attribute [local irreducible] awp ctxK itersK iterK retQ retGQ
def M_r03_ints : Mc Un := mach (tbl []) (tbl []) (tbl []) (tbl []) (tbl [])
def N_r03_ints : Nat → NS := fun l => (look l []).getD ⟨[], [], [], [], [], false⟩
def A_r03_ints (r : Int) : List (A Un) := [.c (.s (.int .i64 r))]
def O_r03_ints (_r : Int) : List (Ob Un) := []
theorem r03_ints_in (a : Int) (b : Int) (K : List (A Un) → List (Ob Un) → Prop) :
    awp M_r03_ints N_r03_ints (bodyOf Tryz.f132) (entry Tryz.f132.ntmps 0 [.d (.v (.s (.int .i64 a))), .d (.v (.s (.int .i64 b)))]) (retQ M_r03_ints Tryz.f132.results.toList [.d] K) =
(cnd (decide (a < b))
 (K (A_r03_ints ((-1 : Int))) (O_r03_ints ((-1 : Int))))
 (cnd (decide (a > b))
  (K (A_r03_ints ((1 : Int))) (O_r03_ints ((1 : Int))))
  (K (A_r03_ints ((0 : Int))) (O_r03_ints ((0 : Int)))))) := by kernel_rfl
def r03_ints_fn (a : Int) (b : Int) : Option (Int) :=
  if (decide (a < b)) = true then
   some ((-1 : Int))
  else
   if (decide (a > b)) = true then
    some ((1 : Int))
   else
    some ((0 : Int))
theorem r03_ints_run {a : Int} {b : Int} {r : Int} (h : r03_ints_fn a b = some r) : Runs (awp M_r03_ints N_r03_ints (bodyOf Tryz.f132) (entry Tryz.f132.ntmps 0 [.d (.v (.s (.int .i64 a))), .d (.v (.s (.int .i64 b)))]) (retQ M_r03_ints Tryz.f132.results.toList [.d] fun rs os => rs = A_r03_ints r ∧ os = O_r03_ints r)) := by
  constructor
  rw [r03_ints_in a b (fun rs os => rs = A_r03_ints r ∧ os = O_r03_ints r)]
  unfold r03_ints_fn at h
  rcases ite_some h with ⟨c1, h2⟩ | ⟨c1, h2⟩
  · cases h2
    exact (cnd_t c1 ⟨rfl, rfl⟩)
  · rcases ite_some h2 with ⟨c3, h4⟩ | ⟨c3, h4⟩
    · cases h4
      exact (cnd_f (bfalse c1) (cnd_t c3 ⟨rfl, rfl⟩))
    · cases h4
      exact (cnd_f (bfalse c1) (cnd_f (bfalse c3) ⟨rfl, rfl⟩))
def r03_ints (a : Int) (b : Int) : Int :=
  if (decide (a < b)) = true then
   ((-1 : Int))
  else
   if (decide (a > b)) = true then
    ((1 : Int))
   else
    ((0 : Int))
theorem r03_ints_eq (a : Int) (b : Int) : r03_ints_fn a b = some (r03_ints a b) := by unfold r03_ints_fn r03_ints; repeat (first | rfl | split)
def F_r03_ints : FnC Un := fun args => match args with
  | [x0, x1] => (dI .i64 x0).bind fun a => (dI .i64 x1).bind fun b => some ([], A_r03_ints (r03_ints a b), O_r03_ints (r03_ints a b))
  | _ => none
theorem ok_r03_ints : FnOK 132 F_r03_ints := by
  intro args ob rs os h hob
  unfold F_r03_ints at h
  split at h
  · simp only [Option.bind_eq_some_iff, Option.some.injEq, Prod.mk.injEq] at h
    obtain ⟨a, e0, b, e1, rfl, rfl, rfl⟩ := h
    obtain rfl := dI_eq e0
    obtain rfl := dI_eq e1
    exact ⟨fn_contract (M := M_r03_ints) rfl (tbl_ok (l1 := []) (l2 := []) (l3 := []) (l4 := []) (l5 := []) trivial trivial trivial trivial trivial) Tryz.func132 (by kernel_rfl) N_r03_ints 0 [.d] (fun hwf => r03_ints_run (r03_ints_eq a b)), hasBody_of Tryz.func132 (by kernel_rfl) (by kernel_rfl)⟩
  · simp at h
@[simp] theorem r03_ints_spec (a b : Int) : r03_ints a b = cmpI a b := by
  unfold r03_ints cmpI; simp only [decide_eq_true_eq]
def M_r03_texts : Mc Un := mach (tbl [(132, F_r03_ints)]) (tbl []) (tbl []) (tbl []) (tbl [])
def N_r03_texts : Nat → NS := fun l => (look l [(2, { ts := [true, true, false, false, true, true, false, false, false, false, false, false, false, false, false, false, false, false, false, false, false, false, false, false, false, false, false, false, false, false, false, false, false, false, false, false, false, false, false], bs := [false, false, false, false, false, false, false, false, false, false, false, false, false, false, false, false, false, false, false, false, false, false, false, false, false, false, false, false, false, false, false, false, false, false, false, false, false, false, false], nm := [], gb := [], gs := [] })]).getD ⟨[], [], [], [], [], false⟩
def A_r03_texts (r : Int) : List (A Un) := [.c (.s (.int .i64 r))]
def O_r03_texts (_r : Int) : List (Ob Un) := []
def r03_texts_s2 (a : ByteArray) (b : ByteArray) (v0 : Int) : S Un := (st 39 39 156 0 [(0, AV.one (A.c (C.s (Value.string a)))), (1, AV.one (A.c (C.s (Value.string b)))), (4, AV.one (A.c (C.s (Value.int IntKind.i64 (0 : Int))))), (5, AV.one (A.c (C.s (Value.int IntKind.i64 v0))))] [] [])
def r03_texts_e2_ret (a : ByteArray) (b : ByteArray) (v0 : Int) (v1 : Int) : S Un := (st 39 39 156 0 [(0, AV.one (A.c (C.s (Value.string a)))), (1, AV.one (A.c (C.s (Value.string b)))), (4, AV.one (A.c (C.s (Value.int IntKind.i64 v1)))), (5, AV.one (A.c (C.s (Value.int IntKind.i64 v0))))] [] [])
theorem r03_texts_in (a : ByteArray) (b : ByteArray) (K : List (A Un) → List (Ob Un) → Prop) :
    awp M_r03_texts N_r03_texts (bodyOf Tryz.f133) (entry Tryz.f133.ntmps 0 [.d (.v (cs a)), .d (.v (cs b))]) (retQ M_r03_texts Tryz.f133.results.toList [.d] K) =
(itersK (N_r03_texts 2) (awp M_r03_texts N_r03_texts (sub (bodyOf Tryz.f133) [1, 0, 1, 2, 2])) (ctxK M_r03_texts N_r03_texts (bodyOf Tryz.f133) [1, 0, 1, 2] (retQ M_r03_texts Tryz.f133.results.toList [.d] K)) (r03_texts_s2 a b (0 : Int))) := by kernel_rfl
theorem r03_texts_l2 (a : ByteArray) (b : ByteArray) (v0 : Int) (k : Nat) (Q : Exit → S Un → Prop) :
    iterK (N_r03_texts 2) (awp M_r03_texts N_r03_texts (sub (bodyOf Tryz.f133) [1, 0, 1, 2, 2])) Q (k + 1) (r03_texts_s2 a b v0) =
(cnd (decide (v0 < (↑a.size : Int)))
 (cnd (decide (v0 < (↑b.size : Int)))
  (((0 : Int) ≤ v0 ∧ v0 < (↑a.size : Int)) ∧
  (((0 : Int) ≤ v0 ∧ v0 < (↑b.size : Int)) ∧
  (cnd ((↑(a.toList.getD v0.toNat (0 : UInt8)).toNat : Int) != (↑(b.toList.getD v0.toNat (0 : UInt8)).toNat : Int))
   (((0 : Int) ≤ v0 ∧ v0 < (↑a.size : Int)) ∧
   (((0 : Int) ≤ v0 ∧ v0 < (↑b.size : Int)) ∧
   (Q .ret (r03_texts_e2_ret a b v0 (r03_ints (IntKind.i64.wrap (↑(a.toList.getD v0.toNat (0 : UInt8)).toNat : Int)) (IntKind.i64.wrap (↑(b.toList.getD v0.toNat (0 : UInt8)).toNat : Int)))))))
   (iterK (N_r03_texts 2) (awp M_r03_texts N_r03_texts (sub (bodyOf Tryz.f133) [1, 0, 1, 2, 2])) Q k (r03_texts_s2 a b (IntKind.i64.wrap (v0 + (1 : Int))))))))
  (Q (.exit 0) (r03_texts_s2 a b v0)))
 (Q (.exit 0) (r03_texts_s2 a b v0))) := by kernel_rfl
theorem r03_texts_a2_ret (a : ByteArray) (b : ByteArray) (v0 : Int) (v1 : Int) (K : List (A Un) → List (Ob Un) → Prop) :
    ctxK M_r03_texts N_r03_texts (bodyOf Tryz.f133) [1, 0, 1, 2] (retQ M_r03_texts Tryz.f133.results.toList [.d] K) .ret (r03_texts_e2_ret a b v0 v1) =
(K (A_r03_texts (v1)) (O_r03_texts (v1))) := by kernel_rfl
theorem r03_texts_a2_x0 (a : ByteArray) (b : ByteArray) (v0 : Int) (K : List (A Un) → List (Ob Un) → Prop) :
    ctxK M_r03_texts N_r03_texts (bodyOf Tryz.f133) [1, 0, 1, 2] (retQ M_r03_texts Tryz.f133.results.toList [.d] K) (.exit 0) (r03_texts_s2 a b v0) =
(K (A_r03_texts (r03_ints (↑a.size : Int) (↑b.size : Int))) (O_r03_texts (r03_ints (↑a.size : Int) (↑b.size : Int)))) := by kernel_rfl
def r03_texts_S2 (a : ByteArray) (b : ByteArray) (v : Int) : Option ((Int) ⊕ ((Int × Int) ⊕ (Int))) :=
  if (decide (v < (↑a.size : Int))) = true then
   if (decide (v < (↑b.size : Int))) = true then
    if (0 : Int) ≤ v ∧ v < (↑a.size : Int) then
     if (0 : Int) ≤ v ∧ v < (↑b.size : Int) then
      if ((↑(a.toList.getD v.toNat (0 : UInt8)).toNat : Int) != (↑(b.toList.getD v.toNat (0 : UInt8)).toNat : Int)) = true then
       if (0 : Int) ≤ v ∧ v < (↑a.size : Int) then
        if (0 : Int) ≤ v ∧ v < (↑b.size : Int) then
         some (.inr (.inl (v, (r03_ints (IntKind.i64.wrap (↑(a.toList.getD v.toNat (0 : UInt8)).toNat : Int)) (IntKind.i64.wrap (↑(b.toList.getD v.toNat (0 : UInt8)).toNat : Int))))))
        else none
       else none
      else
       some (.inl (IntKind.i64.wrap (v + (1 : Int))))
     else none
    else none
   else
    some (.inr (.inr v))
  else
   some (.inr (.inr v))
def r03_texts_L2 (a : ByteArray) (b : ByteArray) (v : Int) : Option ((Int × Int) ⊕ (Int)) := loopO (r03_texts_S2 a b) v
theorem r03_texts_L2_eq (a : ByteArray) (b : ByteArray) (v : Int) : r03_texts_L2 a b v = stepB (r03_texts_L2 a b) (r03_texts_S2 a b v) := loopO_eq _ _
def r03_texts_Q2 (a : ByteArray) (b : ByteArray) (r : (Int × Int) ⊕ (Int)) (Q : Exit → S Un → Prop) : Prop := match r with | .inl x => Q .ret (r03_texts_e2_ret a b x.1 x.2) | .inr x => Q (.exit 0) (r03_texts_s2 a b x)
theorem r03_texts_Q2_ret {a : ByteArray} {b : ByteArray} {x : Int × Int} {Q : Exit → S Un → Prop} (h : Q .ret (r03_texts_e2_ret a b x.1 x.2)) : r03_texts_Q2 a b (.inl x) Q := h
theorem r03_texts_Q2_x0 {a : ByteArray} {b : ByteArray} {x : Int} {Q : Exit → S Un → Prop} (h : Q (.exit 0) (r03_texts_s2 a b x)) : r03_texts_Q2 a b (.inr x) Q := h
theorem r03_texts_L2_run {a : ByteArray} {b : ByteArray} {v : Int} {r : (Int × Int) ⊕ (Int)} (h : r03_texts_L2 a b v = some r) (Q : Exit → S Un → Prop) (hQ : r03_texts_Q2 a b r Q) : itersK (N_r03_texts 2) (awp M_r03_texts N_r03_texts (sub (bodyOf Tryz.f133) [1, 0, 1, 2, 2])) Q (r03_texts_s2 a b v) := by
  refine @loop_run _ _ (r03_texts_S2 a b) (fun v => itersK (N_r03_texts 2) (awp M_r03_texts N_r03_texts (sub (bodyOf Tryz.f133) [1, 0, 1, 2, 2])) Q (r03_texts_s2 a b v)) (fun r => r03_texts_Q2 a b r Q) ?_ v r h hQ
  intro v o h hI
  unfold r03_texts_S2 at h
  rcases ite_some h with ⟨c1, h2⟩ | ⟨c1, h2⟩
  · rcases ite_some h2 with ⟨c3, h4⟩ | ⟨c3, h4⟩
    · obtain ⟨c5, h6⟩ := ob_some h4
      obtain ⟨c7, h8⟩ := ob_some h6
      rcases ite_some h8 with ⟨c9, h10⟩ | ⟨c9, h10⟩
      · obtain ⟨c11, h12⟩ := ob_some h10
        obtain ⟨c13, h14⟩ := ob_some h12
        cases h14
        exact itersK_mk 1 (mpr (r03_texts_l2 a b v 0 Q) (cnd_t c1 (cnd_t c3 (And.intro c5 (And.intro c7 (cnd_t c9 (And.intro c11 (And.intro c13 hI))))))))
      · cases h10
        obtain ⟨k15, hk16⟩ := itersK_get hI
        exact itersK_mk (k15 + 1) (mpr (r03_texts_l2 a b v k15 Q) (cnd_t c1 (cnd_t c3 (And.intro c5 (And.intro c7 (cnd_f (bfalse c9) hk16))))))
    · cases h4
      exact itersK_mk 1 (mpr (r03_texts_l2 a b v 0 Q) (cnd_t c1 (cnd_f (bfalse c3) hI)))
  · cases h2
    exact itersK_mk 1 (mpr (r03_texts_l2 a b v 0 Q) (cnd_f (bfalse c1) hI))
def r03_texts_fn (a : ByteArray) (b : ByteArray) : Option (Int) :=
  (r03_texts_L2 a b (0 : Int)) >>= fun o17 => match o17 with
   | .inl o18 =>
     some (o18.2)
   | .inr o19 =>
     some (r03_ints (↑a.size : Int) (↑b.size : Int))
theorem r03_texts_run {a : ByteArray} {b : ByteArray} {r : Int} (h : r03_texts_fn a b = some r) : Runs (awp M_r03_texts N_r03_texts (bodyOf Tryz.f133) (entry Tryz.f133.ntmps 0 [.d (.v (cs a)), .d (.v (cs b))]) (retQ M_r03_texts Tryz.f133.results.toList [.d] fun rs os => rs = A_r03_texts r ∧ os = O_r03_texts r)) := by
  constructor
  rw [r03_texts_in a b (fun rs os => rs = A_r03_texts r ∧ os = O_r03_texts r)]
  unfold r03_texts_fn at h
  obtain ⟨o20, ho21, h22⟩ := bind_some h
  rcases o20 with o23 | o24
  · cases h22
    exact (r03_texts_L2_run ho21 _ (r03_texts_Q2_ret (mpr (r03_texts_a2_ret a b o23.1 o23.2 _) ⟨rfl, rfl⟩)))
  · cases h22
    exact (r03_texts_L2_run ho21 _ (r03_texts_Q2_x0 (mpr (r03_texts_a2_x0 a b o24 _) ⟨rfl, rfl⟩)))
def r03_texts (a b : ByteArray) : Int := cmpS a b
@[simp] theorem r03_texts_eq (a b : ByteArray) : r03_texts a b = cmpS a b := by unfold r03_texts; rfl
theorem r03_texts_loop (a b : ByteArray) (ha : WStr a) (hb : WStr b) : ∀ (ra rb : List UInt8) (i : Nat), a.toList.drop i = ra → b.toList.drop i = rb → i ≤ a.size → i ≤ b.size →
    ∃ o, r03_texts_L2 a b i = some o ∧ (match o with | .inl o => o.2 | .inr _ => cmpI a.size b.size) = cmpL ra rb := by
  intro ra
  induction ra with
  | nil =>
    intro rb i h1 h2 h3 h4
    have e1 := drop_len h1; have e2 := drop_len h2
    rw [toList_size] at e1 e2
    simp only [List.length_nil] at e1
    have hn : ¬ ((i : Int) < a.size) := by omega
    refine ⟨.inr i, by rw [r03_texts_L2_eq, r03_texts_S2]; simp [hn], ?_⟩
    simp only
    cases rb with
    | nil => simp at e2; unfold cmpI cmpL; rw [if_neg (by omega), if_neg (by omega)]
    | cons y rb => simp at e2; unfold cmpI cmpL; rw [if_pos (by omega)]
  | cons x ra ih =>
    intro rb i h1 h2 h3 h4
    obtain ⟨a1, a2, a3, _⟩ := drop_cons h1
    rw [toList_size] at a1
    have hp : (i : Int) < a.size := by omega
    cases rb with
    | nil =>
      have e2 := drop_len h2
      rw [toList_size] at e2
      simp only [List.length_nil] at e2
      have hn : ¬ ((i : Int) < b.size) := by omega
      refine ⟨.inr i, by rw [r03_texts_L2_eq, r03_texts_S2]; simp [hn, hp], ?_⟩
      simp only; unfold cmpI cmpL; rw [if_neg (by omega), if_pos (by omega)]
    | cons y rb =>
      obtain ⟨b1, b2, b3, _⟩ := drop_cons h2
      rw [toList_size] at b1
      have hq : (i : Int) < b.size := by omega
      have hi : (0 : Int) ≤ i := by omega
      rw [r03_texts_L2_eq, r03_texts_S2]
      simp only [hp, hq, hi, decide_true, if_true, true_and, and_self, Int.toNat_natCast, a2, b2]
      by_cases hxy : x = y
      · subst hxy
        simp only [bne_self_eq_false, Bool.false_eq_true, if_false]
        rw [wrap_succ a1 ha]
        simpa only [cmpL, if_true, stepB_inl] using ih rb (i + 1) a3 b3 (by omega) (by omega)
      · have hne : ((x.toNat : Int) != (y.toNat : Int)) = true := by
          rw [bne_iff_ne]; intro e; exact hxy (UInt8.toNat_inj.1 (by omega))
        have hx := x.toNat_lt; have hy := y.toNat_lt
        refine ⟨_, by rw [if_pos hne, stepB_inr], ?_⟩
        simp only [cmpL, hxy, if_false, r03_ints_spec]
        rw [wrap_id (by omega), wrap_id (by omega)]
theorem r03_texts_spec (a b : ByteArray) (ha : WStr a) (hb : WStr b) : r03_texts_fn a b = some (r03_texts a b) := by
  obtain ⟨o, ho, e⟩ := r03_texts_loop a b ha hb _ _ 0 rfl rfl (by omega) (by omega)
  unfold r03_texts_fn r03_texts cmpS
  rw [show (0 : Int) = ((0 : Nat) : Int) from rfl, ho]
  simp only [List.drop_zero] at e
  rw [← e]
  cases o <;> simp
def F_r03_texts : FnC Un := fun args => match args with
  | [x0, x1] => (dStr x0).bind fun a => (dStr x1).bind fun b => some ([], A_r03_texts (r03_texts a b), O_r03_texts (r03_texts a b))
  | _ => none
theorem ok_r03_texts : FnOK 133 F_r03_texts := by
  intro args ob rs os h hob
  unfold F_r03_texts at h
  split at h
  · simp only [Option.bind_eq_some_iff, Option.some.injEq, Prod.mk.injEq] at h
    obtain ⟨a, e0, b, e1, rfl, rfl, rfl⟩ := h
    obtain rfl := dStr_eq e0
    obtain rfl := dStr_eq e1
    exact ⟨fn_contract (M := M_r03_texts) rfl (tbl_ok (l1 := [(132, F_r03_ints)]) (l2 := []) (l3 := []) (l4 := []) (l5 := []) ⟨ok_r03_ints, trivial⟩ trivial trivial trivial trivial) Tryz.func133 (by kernel_rfl) N_r03_texts 0 [.d] (fun hwf => r03_texts_run (r03_texts_spec a b (wfArg hwf (a := .d (.v (cs a))) (List.mem_of_getElem? (i := 0) rfl)) (wfArg hwf (a := .d (.v (cs b))) (List.mem_of_getElem? (i := 1) rfl)))), hasBody_of Tryz.func133 (by kernel_rfl) (by kernel_rfl)⟩
  · simp at h
def M_r03_Order : Mc Un := mach (tbl [(132, F_r03_ints), (133, F_r03_texts)]) (tbl []) (tbl []) (tbl []) (tbl [])
def N_r03_Order : Nat → NS := fun l => (look l []).getD ⟨[], [], [], [], [], false⟩
def A_r03_Order (r : Int) : List (A Un) := [.c (.s (.int .i64 r))]
def O_r03_Order (_r : Int) : List (Ob Un) := []
theorem r03_Order_in (a : Val) (b : Val) (K : List (A Un) → List (Ob Un) → Prop) :
    awp M_r03_Order N_r03_Order (bodyOf Tryz.f131) (entry Tryz.f131.ntmps 0 [.d (.agg (enc Ty.val a)), .d (.agg (enc Ty.val b))]) (retQ M_r03_Order Tryz.f131.results.toList [.d] K) =
(cnd (a.kind != b.kind)
 (K (A_r03_Order (r03_ints a.kind b.kind)) (O_r03_Order (r03_ints a.kind b.kind)))
 (cnd (a.n != b.n)
  (K (A_r03_Order (r03_ints a.n b.n)) (O_r03_Order (r03_ints a.n b.n)))
  (K (A_r03_Order (r03_texts a.s b.s)) (O_r03_Order (r03_texts a.s b.s))))) := by kernel_rfl
def r03_Order_fn (a : Val) (b : Val) : Option (Int) :=
  if (a.kind != b.kind) = true then
   some (r03_ints a.kind b.kind)
  else
   if (a.n != b.n) = true then
    some (r03_ints a.n b.n)
   else
    some (r03_texts a.s b.s)
theorem r03_Order_run {a : Val} {b : Val} {r : Int} (h : r03_Order_fn a b = some r) : Runs (awp M_r03_Order N_r03_Order (bodyOf Tryz.f131) (entry Tryz.f131.ntmps 0 [.d (.agg (enc Ty.val a)), .d (.agg (enc Ty.val b))]) (retQ M_r03_Order Tryz.f131.results.toList [.d] fun rs os => rs = A_r03_Order r ∧ os = O_r03_Order r)) := by
  constructor
  rw [r03_Order_in a b (fun rs os => rs = A_r03_Order r ∧ os = O_r03_Order r)]
  unfold r03_Order_fn at h
  rcases ite_some h with ⟨c1, h2⟩ | ⟨c1, h2⟩
  · cases h2
    exact (cnd_t c1 ⟨rfl, rfl⟩)
  · rcases ite_some h2 with ⟨c3, h4⟩ | ⟨c3, h4⟩
    · cases h4
      exact (cnd_f (bfalse c1) (cnd_t c3 ⟨rfl, rfl⟩))
    · cases h4
      exact (cnd_f (bfalse c1) (cnd_f (bfalse c3) ⟨rfl, rfl⟩))
def r03_Order (a b : Val) : Int := ordV a b
@[simp] theorem r03_Order_eq (a b : Val) : r03_Order a b = ordV a b := by unfold r03_Order; rfl
theorem r03_Order_spec (a b : Val) (_ha : WS .val a) (_hb : WS .val b) : r03_Order_fn a b = some (r03_Order a b) := by
  unfold r03_Order_fn r03_Order ordV
  simp only [bne_iff_ne, ne_eq, ite_not, r03_ints_spec, r03_texts_eq]
  split
  · split <;> rfl
  · rfl
def F_r03_Order : FnC Un := fun args => match args with
  | [x0, x1] => (dS .val x0).bind fun a => (dS .val x1).bind fun b => some ([], A_r03_Order (r03_Order a b), O_r03_Order (r03_Order a b))
  | _ => none
theorem ok_r03_Order : FnOK 131 F_r03_Order := by
  intro args ob rs os h hob
  unfold F_r03_Order at h
  split at h
  · simp only [Option.bind_eq_some_iff, Option.some.injEq, Prod.mk.injEq] at h
    obtain ⟨a, e0, b, e1, rfl, rfl, rfl⟩ := h
    obtain rfl := dS_eq e0
    obtain rfl := dS_eq e1
    exact ⟨fn_contract (M := M_r03_Order) rfl (tbl_ok (l1 := [(132, F_r03_ints), (133, F_r03_texts)]) (l2 := []) (l3 := []) (l4 := []) (l5 := []) ⟨ok_r03_ints, ok_r03_texts, trivial⟩ trivial trivial trivial trivial) Tryz.func131 (by kernel_rfl) N_r03_Order 0 [.d] (fun hwf => r03_Order_run (r03_Order_spec a b (wfArg hwf (a := .d (.agg (enc Ty.val a))) (List.mem_of_getElem? (i := 0) rfl)) (wfArg hwf (a := .d (.agg (enc Ty.val b))) (List.mem_of_getElem? (i := 1) rfl)))), hasBody_of Tryz.func131 (by kernel_rfl) (by kernel_rfl)⟩
  · simp at h
def M_r03_Orders : Mc Un := mach (tbl [(131, F_r03_Order), (132, F_r03_ints)]) (tbl []) (tbl []) (tbl []) (tbl [])
def N_r03_Orders : Nat → NS := fun l => (look l [(2, { ts := [true, true, false, false, true, true, false, false, false, false, false, false, false, false, false, false, false, false, false, false, false, false, false, false, false, false, false, false, false, false, false, false, false, false, false, false, false, false, false, false, false, false], bs := [false, false, false, false, false, false, false, false, false, false, false, false, false, false, false, false, false, false, false, false, false, false, false, false, false, false, false, false, false, false, false, false, false, false, false, false, false, false, false, false, false, false], nm := [], gb := [], gs := [] })]).getD ⟨[], [], [], [], [], false⟩
def A_r03_Orders (r : Int) : List (A Un) := [.c (.s (.int .i64 r))]
def O_r03_Orders (_r : Int) : List (Ob Un) := []
def r03_Orders_s2 (a : List Val) (b : List Val) (v0 : Int) : S Un := (st 42 42 168 0 [(0, AV.one (A.c (C.sl Ty.val a false))), (1, AV.one (A.c (C.sl Ty.val b false))), (4, AV.one (A.c (C.s (Value.int IntKind.i64 (0 : Int))))), (5, AV.one (A.c (C.s (Value.int IntKind.i64 v0))))] [] [])
def r03_Orders_e2_ret (a : List Val) (b : List Val) (v0 : Int) (v1 : Int) : S Un := (st 42 42 168 0 [(0, AV.one (A.c (C.sl Ty.val a false))), (1, AV.one (A.c (C.sl Ty.val b false))), (4, AV.one (A.c (C.s (Value.int IntKind.i64 v1)))), (5, AV.one (A.c (C.s (Value.int IntKind.i64 v0))))] [] [])
theorem r03_Orders_in (a : List Val) (b : List Val) (K : List (A Un) → List (Ob Un) → Prop) :
    awp M_r03_Orders N_r03_Orders (bodyOf Tryz.f130) (entry Tryz.f130.ntmps 0 [.d (.v (.dat (U := Un) Ty.val a)), .d (.v (.dat (U := Un) Ty.val b))]) (retQ M_r03_Orders Tryz.f130.results.toList [.d] K) =
(itersK (N_r03_Orders 2) (awp M_r03_Orders N_r03_Orders (sub (bodyOf Tryz.f130) [1, 0, 1, 2, 2])) (ctxK M_r03_Orders N_r03_Orders (bodyOf Tryz.f130) [1, 0, 1, 2] (retQ M_r03_Orders Tryz.f130.results.toList [.d] K)) (r03_Orders_s2 a b (0 : Int))) := by kernel_rfl
theorem r03_Orders_l2 (a : List Val) (b : List Val) (v0 : Int) (k : Nat) (Q : Exit → S Un → Prop) :
    iterK (N_r03_Orders 2) (awp M_r03_Orders N_r03_Orders (sub (bodyOf Tryz.f130) [1, 0, 1, 2, 2])) Q (k + 1) (r03_Orders_s2 a b v0) =
(cnd (decide (v0 < (↑a.length : Int)))
 (cnd (decide (v0 < (↑b.length : Int)))
  (((0 : Int) ≤ v0 ∧ v0 < (↑a.length : Int)) ∧
  (((0 : Int) ≤ v0 ∧ v0 < (↑b.length : Int)) ∧
  (cnd (r03_Order (a.getD v0.toNat zeroVal) (b.getD v0.toNat zeroVal) != (0 : Int))
   (((0 : Int) ≤ v0 ∧ v0 < (↑a.length : Int)) ∧
   (((0 : Int) ≤ v0 ∧ v0 < (↑b.length : Int)) ∧
   (Q .ret (r03_Orders_e2_ret a b v0 (r03_Order (a.getD v0.toNat zeroVal) (b.getD v0.toNat zeroVal))))))
   (iterK (N_r03_Orders 2) (awp M_r03_Orders N_r03_Orders (sub (bodyOf Tryz.f130) [1, 0, 1, 2, 2])) Q k (r03_Orders_s2 a b (IntKind.i64.wrap (v0 + (1 : Int))))))))
  (Q (.exit 0) (r03_Orders_s2 a b v0)))
 (Q (.exit 0) (r03_Orders_s2 a b v0))) := by kernel_rfl
theorem r03_Orders_a2_ret (a : List Val) (b : List Val) (v0 : Int) (v1 : Int) (K : List (A Un) → List (Ob Un) → Prop) :
    ctxK M_r03_Orders N_r03_Orders (bodyOf Tryz.f130) [1, 0, 1, 2] (retQ M_r03_Orders Tryz.f130.results.toList [.d] K) .ret (r03_Orders_e2_ret a b v0 v1) =
(K (A_r03_Orders (v1)) (O_r03_Orders (v1))) := by kernel_rfl
theorem r03_Orders_a2_x0 (a : List Val) (b : List Val) (v0 : Int) (K : List (A Un) → List (Ob Un) → Prop) :
    ctxK M_r03_Orders N_r03_Orders (bodyOf Tryz.f130) [1, 0, 1, 2] (retQ M_r03_Orders Tryz.f130.results.toList [.d] K) (.exit 0) (r03_Orders_s2 a b v0) =
(K (A_r03_Orders (r03_ints (↑a.length : Int) (↑b.length : Int))) (O_r03_Orders (r03_ints (↑a.length : Int) (↑b.length : Int)))) := by kernel_rfl
def r03_Orders_S2 (a : List Val) (b : List Val) (v : Int) : Option ((Int) ⊕ ((Int × Int) ⊕ (Int))) :=
  if (decide (v < (↑a.length : Int))) = true then
   if (decide (v < (↑b.length : Int))) = true then
    if (0 : Int) ≤ v ∧ v < (↑a.length : Int) then
     if (0 : Int) ≤ v ∧ v < (↑b.length : Int) then
      if (r03_Order (a.getD v.toNat zeroVal) (b.getD v.toNat zeroVal) != (0 : Int)) = true then
       if (0 : Int) ≤ v ∧ v < (↑a.length : Int) then
        if (0 : Int) ≤ v ∧ v < (↑b.length : Int) then
         some (.inr (.inl (v, (r03_Order (a.getD v.toNat zeroVal) (b.getD v.toNat zeroVal)))))
        else none
       else none
      else
       some (.inl (IntKind.i64.wrap (v + (1 : Int))))
     else none
    else none
   else
    some (.inr (.inr v))
  else
   some (.inr (.inr v))
def r03_Orders_L2 (a : List Val) (b : List Val) (v : Int) : Option ((Int × Int) ⊕ (Int)) := loopO (r03_Orders_S2 a b) v
theorem r03_Orders_L2_eq (a : List Val) (b : List Val) (v : Int) : r03_Orders_L2 a b v = stepB (r03_Orders_L2 a b) (r03_Orders_S2 a b v) := loopO_eq _ _
def r03_Orders_Q2 (a : List Val) (b : List Val) (r : (Int × Int) ⊕ (Int)) (Q : Exit → S Un → Prop) : Prop := match r with | .inl x => Q .ret (r03_Orders_e2_ret a b x.1 x.2) | .inr x => Q (.exit 0) (r03_Orders_s2 a b x)
theorem r03_Orders_Q2_ret {a : List Val} {b : List Val} {x : Int × Int} {Q : Exit → S Un → Prop} (h : Q .ret (r03_Orders_e2_ret a b x.1 x.2)) : r03_Orders_Q2 a b (.inl x) Q := h
theorem r03_Orders_Q2_x0 {a : List Val} {b : List Val} {x : Int} {Q : Exit → S Un → Prop} (h : Q (.exit 0) (r03_Orders_s2 a b x)) : r03_Orders_Q2 a b (.inr x) Q := h
theorem r03_Orders_L2_run {a : List Val} {b : List Val} {v : Int} {r : (Int × Int) ⊕ (Int)} (h : r03_Orders_L2 a b v = some r) (Q : Exit → S Un → Prop) (hQ : r03_Orders_Q2 a b r Q) : itersK (N_r03_Orders 2) (awp M_r03_Orders N_r03_Orders (sub (bodyOf Tryz.f130) [1, 0, 1, 2, 2])) Q (r03_Orders_s2 a b v) := by
  refine @loop_run _ _ (r03_Orders_S2 a b) (fun v => itersK (N_r03_Orders 2) (awp M_r03_Orders N_r03_Orders (sub (bodyOf Tryz.f130) [1, 0, 1, 2, 2])) Q (r03_Orders_s2 a b v)) (fun r => r03_Orders_Q2 a b r Q) ?_ v r h hQ
  intro v o h hI
  unfold r03_Orders_S2 at h
  rcases ite_some h with ⟨c1, h2⟩ | ⟨c1, h2⟩
  · rcases ite_some h2 with ⟨c3, h4⟩ | ⟨c3, h4⟩
    · obtain ⟨c5, h6⟩ := ob_some h4
      obtain ⟨c7, h8⟩ := ob_some h6
      rcases ite_some h8 with ⟨c9, h10⟩ | ⟨c9, h10⟩
      · obtain ⟨c11, h12⟩ := ob_some h10
        obtain ⟨c13, h14⟩ := ob_some h12
        cases h14
        exact itersK_mk 1 (mpr (r03_Orders_l2 a b v 0 Q) (cnd_t c1 (cnd_t c3 (And.intro c5 (And.intro c7 (cnd_t c9 (And.intro c11 (And.intro c13 hI))))))))
      · cases h10
        obtain ⟨k15, hk16⟩ := itersK_get hI
        exact itersK_mk (k15 + 1) (mpr (r03_Orders_l2 a b v k15 Q) (cnd_t c1 (cnd_t c3 (And.intro c5 (And.intro c7 (cnd_f (bfalse c9) hk16))))))
    · cases h4
      exact itersK_mk 1 (mpr (r03_Orders_l2 a b v 0 Q) (cnd_t c1 (cnd_f (bfalse c3) hI)))
  · cases h2
    exact itersK_mk 1 (mpr (r03_Orders_l2 a b v 0 Q) (cnd_f (bfalse c1) hI))
def r03_Orders_fn (a : List Val) (b : List Val) : Option (Int) :=
  (r03_Orders_L2 a b (0 : Int)) >>= fun o17 => match o17 with
   | .inl o18 =>
     some (o18.2)
   | .inr o19 =>
     some (r03_ints (↑a.length : Int) (↑b.length : Int))
theorem r03_Orders_run {a : List Val} {b : List Val} {r : Int} (h : r03_Orders_fn a b = some r) : Runs (awp M_r03_Orders N_r03_Orders (bodyOf Tryz.f130) (entry Tryz.f130.ntmps 0 [.d (.v (.dat (U := Un) Ty.val a)), .d (.v (.dat (U := Un) Ty.val b))]) (retQ M_r03_Orders Tryz.f130.results.toList [.d] fun rs os => rs = A_r03_Orders r ∧ os = O_r03_Orders r)) := by
  constructor
  rw [r03_Orders_in a b (fun rs os => rs = A_r03_Orders r ∧ os = O_r03_Orders r)]
  unfold r03_Orders_fn at h
  obtain ⟨o20, ho21, h22⟩ := bind_some h
  rcases o20 with o23 | o24
  · cases h22
    exact (r03_Orders_L2_run ho21 _ (r03_Orders_Q2_ret (mpr (r03_Orders_a2_ret a b o23.1 o23.2 _) ⟨rfl, rfl⟩)))
  · cases h22
    exact (r03_Orders_L2_run ho21 _ (r03_Orders_Q2_x0 (mpr (r03_Orders_a2_x0 a b o24 _) ⟨rfl, rfl⟩)))
def r03_Orders (a b : List Val) : Int := ordR a b
@[simp] theorem r03_Orders_eq (a b : List Val) : r03_Orders a b = ordR a b := by unfold r03_Orders; rfl
theorem r03_Orders_loop (a b : List Val) (ha : WL .val a) (hb : WL .val b) : ∀ (ra rb : List Val) (i : Nat), a.drop i = ra → b.drop i = rb → i ≤ a.length → i ≤ b.length →
    ∃ o, r03_Orders_L2 a b i = some o ∧ (match o with | .inl o => o.2 | .inr _ => cmpI a.length b.length) = ordR ra rb := by
  intro ra
  induction ra with
  | nil =>
    intro rb i h1 h2 h3 h4
    have e1 := drop_len h1; have e2 := drop_len h2
    simp only [List.length_nil] at e1
    have hn : ¬ ((i : Int) < a.length) := by omega
    refine ⟨.inr i, by rw [r03_Orders_L2_eq, r03_Orders_S2]; simp [hn], ?_⟩
    simp only
    cases rb with
    | nil => simp at e2; unfold cmpI ordR; rw [if_neg (by omega), if_neg (by omega)]
    | cons y rb => simp at e2; unfold cmpI ordR; rw [if_pos (by omega)]
  | cons x ra ih =>
    intro rb i h1 h2 h3 h4
    obtain ⟨a1, a2, a3, _⟩ := drop_cons h1
    have hp : (i : Int) < a.length := by omega
    cases rb with
    | nil =>
      have e2 := drop_len h2
      simp only [List.length_nil] at e2
      have hn : ¬ ((i : Int) < b.length) := by omega
      refine ⟨.inr i, by rw [r03_Orders_L2_eq, r03_Orders_S2]; simp [hn, hp], ?_⟩
      simp only; unfold cmpI ordR; rw [if_neg (by omega), if_pos (by omega)]
    | cons y rb =>
      obtain ⟨b1, b2, b3, _⟩ := drop_cons h2
      have hq : (i : Int) < b.length := by omega
      have hi : (0 : Int) ≤ i := by omega
      rw [r03_Orders_L2_eq, r03_Orders_S2]
      simp only [hp, hq, hi, decide_true, if_true, true_and, and_self, Int.toNat_natCast, a2, b2, bne_iff_ne, ne_eq, ite_not, r03_Order_eq]
      by_cases hxy : ordV x y = 0
      · rw [if_pos hxy, wrap_succ a1 ha.len]
        simpa only [ordR, hxy, if_true, stepB_inl] using ih rb (i + 1) a3 b3 (by omega) (by omega)
      · exact ⟨_, by rw [if_neg hxy, stepB_inr], by simp only [ordR, hxy, if_false]⟩
theorem r03_Orders_spec (a b : List Val) (ha : WL .val a) (hb : WL .val b) : r03_Orders_fn a b = some (r03_Orders a b) := by
  obtain ⟨o, ho, e⟩ := r03_Orders_loop a b ha hb _ _ 0 rfl rfl (by omega) (by omega)
  unfold r03_Orders_fn r03_Orders
  rw [show (0 : Int) = ((0 : Nat) : Int) from rfl, ho]
  simp only [List.drop_zero] at e
  rw [← e]
  cases o <;> simp
def F_r03_Orders : FnC Un := fun args => match args with
  | [x0, x1] => (dL .val x0).bind fun a => (dL .val x1).bind fun b => some ([], A_r03_Orders (r03_Orders a b), O_r03_Orders (r03_Orders a b))
  | _ => none
theorem ok_r03_Orders : FnOK 130 F_r03_Orders := by
  intro args ob rs os h hob
  unfold F_r03_Orders at h
  split at h
  · simp only [Option.bind_eq_some_iff, Option.some.injEq, Prod.mk.injEq] at h
    obtain ⟨a, e0, b, e1, rfl, rfl, rfl⟩ := h
    obtain rfl := dL_eq e0
    obtain rfl := dL_eq e1
    exact ⟨fn_contract (M := M_r03_Orders) rfl (tbl_ok (l1 := [(131, F_r03_Order), (132, F_r03_ints)]) (l2 := []) (l3 := []) (l4 := []) (l5 := []) ⟨ok_r03_Order, ok_r03_ints, trivial⟩ trivial trivial trivial trivial) Tryz.func130 (by kernel_rfl) N_r03_Orders 0 [.d] (fun hwf => r03_Orders_run (r03_Orders_spec a b (wfArg hwf (a := .d (.v (.dat (U := Un) Ty.val a))) (List.mem_of_getElem? (i := 0) rfl)) (wfArg hwf (a := .d (.v (.dat (U := Un) Ty.val b))) (List.mem_of_getElem? (i := 1) rfl)))), hasBody_of Tryz.func130 (by kernel_rfl) (by kernel_rfl)⟩
  · simp at h
end
end Go.Proofs.YtjmpnpkcgkhagaaGreat.B
