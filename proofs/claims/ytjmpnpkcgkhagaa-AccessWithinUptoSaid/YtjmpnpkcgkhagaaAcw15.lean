/- Part 15 of the proof: Sscal3 Lbulkstr BLaw Lstrings Slstr. -/
import Derived.Lib.OthersKept
import Derived.Lib.TrimU
import Derived.Deep.LoopGhost
import Derived.Shelf.Abstract
import Derived.Test.YtjmpnpkcgkhagaaAcw14
namespace Go.Proofs.Ytjmpnpkcgkhagaa.B
open Go Go.RowKit
set_option maxRecDepth 100000
noncomputable section
attribute [local irreducible] awp ctxK itersK iterK retQ retGQ awf ctxF loopF
def shortV (v : Val) : Prop := v.s.size ≤ 2000000
mutual
def strT : Term → Prop
  | .mk _ v _ _ _ kids _ _ => v.s.size ≤ 2000000 ∧ strTs kids
def strTs : List Term → Prop
  | [] => True
  | t :: l => strT t ∧ strTs l
end
theorem strT_eq (t : Term) : strT t ↔ (t.v.s.size ≤ 2000000 ∧ strTs t.kids) := by cases t; simp only [strT, Term.v_mk, Term.kids_mk]
theorem strTs_mem : ∀ {l : List Term}, strTs l ↔ ∀ t ∈ l, strT t
  | [] => by simp [strTs]
  | t :: l => by simp only [strTs, List.mem_cons, forall_eq_or_imp, strTs_mem (l := l)]
def envOK (env : List (List Val)) : Prop := ∀ r ∈ env, ∀ v ∈ r, shortV v
theorem short_zero : shortV zeroVal := Nat.zero_le _
theorem short_num (n : Int) : shortV (value_Num n) := Nat.zero_le _
theorem short_told (n : Int) (b : Bool) : shortV (scalar_told n b) := by
  unfold scalar_told; split
  · exact short_zero
  · exact short_num n
theorem short_bool (b : Bool) : shortV (value_Bool b) := by rw [value_Bool_spec]; exact Nat.zero_le _
theorem short_tri (a : Int) : shortV (tri_Value a) := by
  unfold tri_Value
  repeat' split
  all_goals exact Nat.zero_le _
theorem short_cmp (op : Int) (a b : Val) : shortV (cmpO op a b) := by
  unfold cmpO; split
  · exact Nat.zero_le _
  · exact short_zero
theorem short_getD {l : List Val} (h : ∀ x ∈ l, shortV x) (i : Nat) : shortV (l.getD i zeroVal) := by
  rw [List.getD_eq_getElem?_getD]
  cases e : l[i]? with
  | none => exact short_zero
  | some v => exact h v (List.mem_of_getElem? e)
theorem short_cases : ∀ (l : List Val), (∀ x ∈ l, shortV x) → shortV (casesL l)
  | [], _ => short_zero
  | [x], h => h x (by simp)
  | c :: v :: r, h => by
    simp only [casesL]
    split
    · exact h v (by simp)
    · exact short_cases r fun x hx => h x (by simp [hx])
theorem short_ite {c : Prop} [Decidable c] {a b : Val} (ha : c → shortV a) (hb : ¬ c → shortV b) : shortV (if c then a else b) := by split <;> simp_all
theorem short_called (name : ByteArray) {l : List Val} (h : ∀ x ∈ l, shortV x) : shortV (scalar_called name l) := by
  have g := short_getD h
  have gt : ∀ (x : Val) f b, shortV x → shortV (value_Str (turnS x.s f b)) := fun x f b hx => by
    show (turnS x.s f b).size ≤ 2000000
    rw [turnS_size]; exact hx
  unfold scalar_called firstV called3 called2
  repeat' split
  all_goals first | exact short_zero | exact g _ | exact short_told _ _ | exact short_num _ | exact gt _ _ _ (g _)
theorem short_apply (op : Int) (name : ByteArray) {l : List Val} (h : ∀ x ∈ l, shortV x) : shortV (scalar_Apply op name l) := by
  have g := short_getD h
  unfold scalar_Apply
  split
  · exact short_zero
  unfold applyB
  repeat' (first | refine short_ite (fun _ => ?_) (fun _ => ?_) | exact short_zero | exact short_told _ _ | exact short_bool _ | exact short_cmp _ _ _ | exact short_tri _ | (unfold scalar_both; exact short_tri _) | (unfold scalar_among; exact short_tri _) | exact short_cases l h | exact short_called name h)
  all_goals first
    | exact g _
    | (show (turnS _ _ _).size ≤ 2000000; rw [turnS_size]; exact g _)
    | (rename_i hs; show (_ ++ _ : ByteArray).size ≤ 2000000; rw [ByteArray.size_append]; omega)
theorem short_col {env : List (List Val)} (h : envOK env) (d a : Int) : shortV (colV d a env) := by
  unfold colV
  split
  · rename_i hc
    have hm : env.getD d.toNat [] ∈ env := by
      rw [List.getD_eq_getElem?_getD, List.getElem?_eq_getElem (by omega)]; exact List.getElem_mem _
    exact short_getD (h _ hm) _
  · exact short_zero
mutual
theorem short_eval {env : List (List Val)} (h : envOK env) : ∀ t : Term, strT t → shortV (evalG scalar_Apply env t)
  | .mk op v depth at_ name kids _ _, ht => by
    simp only [strT] at ht
    simp only [evalG]
    split
    · exact ht.1
    · split
      · exact short_col h _ _
      · split
        · exact short_zero
        · exact short_apply _ _ (short_evals h kids ht.2)
theorem short_evals {env : List (List Val)} (h : envOK env) : ∀ l : List Term, strTs l → ∀ x ∈ evalGs scalar_Apply env l, shortV x
  | [], _ => by simp [evalGs]
  | t :: l, ht => by
    simp only [strTs] at ht
    simp only [evalGs, List.mem_cons, forall_eq_or_imp]
    exact ⟨short_eval h t ht.1, short_evals h l ht.2⟩
end
def scalar_Eval (t : Term) (env : List (List Val)) : Val := evalG scalar_Apply env t
def A_scalar_Eval (r : Val) : List (A Un) := [.agg (encC Ty.val r)]
def O_scalar_Eval (_r : Val) : List (Ob Un) := []
def Fm_scalar_Eval (m : Nat) : FnC Un := fun args => match args with
  | [x0, x1] => (dS .term x0).bind fun t => (dL .row x1).bind fun env => some ([t.ht < m, t.sz ≤ 2000000, strT t, envOK env], A_scalar_Eval (scalar_Eval t env), O_scalar_Eval (scalar_Eval t env))
  | _ => none
def M_scalar_Eval (m : Nat) : Mc Un := mach (tbl [(20, Fm_scalar_Eval m), (30, F_scalar_Apply)]) (tbl []) (tbl []) (tbl []) (tbl [])
def R_scalar_Eval (r : Val) : RF Un := (A_scalar_Eval r, O_scalar_Eval r)
def N_scalar_Eval : Nat → NS := fun l => (look l [(14, { ts := bl 81 32281802128991715382, bs := bl 81 20, nm := [(.sl 5, 324)], cs := true })]).getD ⟨[], [], [], [], [], true⟩
def scalar_Eval_s14 (t : Term) (env : List (List Val)) (v0 : Int) (v1 : List Val) : S Un := (st 81 81 325 0 [(1, al .row env), (2, ax 2), (4, ax 4), (5, ao 324), (62, al .term t.kids), (63, ai (↑t.kids.length : Int)), (64, ai v0)] [(2, bg .term t), (4, bg .val zeroVal)] [(324, some ⟨(0 : Nat), Ty.val, v1, some (0 : Nat), true⟩)])
def scalar_Eval_B14 : Code := sub (bodyOf Try.f20) [1, 1, 1, 0, 1, 2, 2]
def scalar_Eval_L14 (m : Nat) : S Un → Option (EX Un) := loopF (N_scalar_Eval 14) (fun s Q => awf (M_scalar_Eval m) N_scalar_Eval scalar_Eval_B14 s Q)
def scalar_Eval_C14 (m : Nat) : Exit → S Un → Option (RF Un) := ctxF (M_scalar_Eval m) N_scalar_Eval (bodyOf Try.f20) [1, 1, 1, 0, 1, 2] (retF (M_scalar_Eval m) Try.f20.results.toList [.d])
def scalar_Eval_fn (m : Nat) (t : Term) (env : List (List Val)) : Option (RF Un) := awf (M_scalar_Eval m) N_scalar_Eval (bodyOf Try.f20) (entry Try.f20.ntmps 1 [.d (.agg (enc Ty.term t)), .d (.v (.dat (U := Un) Ty.row env))]) (retF (M_scalar_Eval m) Try.f20.results.toList [.d])
theorem scalar_Eval_in (m : Nat) (t : Term) (env : List (List Val)) : scalar_Eval_fn m t env =
 cndO (t.op == 1)
  (some (R_scalar_Eval (t.v)))
  (cndO (t.op == 2)
   (cndO (decide (t.depth ≥ 0))
    (cndO (decide (t.depth < (↑env.length : Int)))
     (cndO (decide (t.at_ ≥ 0))
      (obO (0 ≤ t.depth ∧ t.depth < (↑env.length : Int))
       (cndO (decide (t.at_ < (↑(List.length (env.getD t.depth.toNat [])) : Int)))
        (obO (0 ≤ t.depth ∧ t.depth < (↑env.length : Int))
         (obO (0 ≤ t.at_ ∧ t.at_ < (↑(List.length (env.getD t.depth.toNat [])) : Int))
          (some (R_scalar_Eval (List.getD (env.getD t.depth.toNat []) t.at_.toNat zeroVal)))))
        (some (R_scalar_Eval (zeroVal)))))
      (some (R_scalar_Eval (zeroVal))))
     (some (R_scalar_Eval (zeroVal))))
    (some (R_scalar_Eval (zeroVal))))
   (cndO (t.op == 26)
    (some (R_scalar_Eval (zeroVal)))
    (cndO (t.op == 27)
     (some (R_scalar_Eval (zeroVal)))
     (cndO (t.op == 28)
      (some (R_scalar_Eval (zeroVal)))
      (obO ((0 : Int) ≤ (0 : Int) ∧ (0 : Int) ≤ (↑t.kids.length : Int) ∧ (↑t.kids.length : Int).toNat * (32 : Nat) ≤ roomB)
       ((scalar_Eval_L14 m (scalar_Eval_s14 t env (0 : Int) ([]))).bind (thenX (scalar_Eval_C14 m)))))))) := by kernel_rfl
theorem scalar_Eval_l14 (m : Nat) (t : Term) (env : List (List Val)) (v0 : Int) (v1 : List Val) : scalar_Eval_L14 m (scalar_Eval_s14 t env v0 v1) =
 cndO (decide (v0 < (↑t.kids.length : Int)))
  (obO (0 ≤ v0 ∧ v0 < (↑t.kids.length : Int))
   (obO ((Term.ids (t.kids.getD v0.toNat zeroTerm)).ht < m)
    (obO ((Term.ids (t.kids.getD v0.toNat zeroTerm)).sz ≤ (2000000 : Nat))
     (obO (strT (Term.ids (t.kids.getD v0.toNat zeroTerm)))
      (obO (envOK env)
       (obO ((v1.length + [(scalar_Eval (Term.ids (t.kids.getD v0.toNat zeroTerm)) env)].length) * (32 : Nat) ≤ roomB)
        (scalar_Eval_L14 m (scalar_Eval_s14 t env (IntKind.i64.wrap (v0 + 1)) (v1 ++ [(scalar_Eval (Term.ids (t.kids.getD v0.toNat zeroTerm)) env)])))))))))
  (some (.exit 1, (scalar_Eval_s14 t env v0 v1))) := (loopF_eq (N_scalar_Eval 14) scalar_Eval_B14 _).trans (by kernel_rfl)
theorem scalar_Eval_a14_x1 (m : Nat) (t : Term) (env : List (List Val)) (v0 : Int) (v1 : List Val) : scalar_Eval_C14 m (.exit 1) (scalar_Eval_s14 t env v0 v1) =
 obO (txts v1)
  (some (R_scalar_Eval (scalar_Apply t.op t.name v1))) := by kernel_rfl
theorem eval_loop (m : Nat) (t : Term) (env : List (List Val)) (ht : WS .term t) (hm : t.ht < m + 1) (h1 : t.sz ≤ 2000000) (h2 : strT t) (h3 : envOK env) :
    (scalar_Eval_L14 m (scalar_Eval_s14 t env (0 : Int) [])).bind (thenX (scalar_Eval_C14 m)) = some (R_scalar_Eval (scalar_Apply t.op t.name (evalGs scalar_Apply env t.kids))) := by
  have hk : WL .term t.kids := ht.term_kids
  have hsz := t.sz_eq
  have hlen := szTs_len t.kids
  have hst := (strT_eq t).1 h2
  obtain ⟨lp, _⟩ := loop_fold (e := .exit 1) (L := scalar_Eval_L14 m) (st := fun (o : List Val) i => scalar_Eval_s14 t env i o) (l := t.kids) (d := zeroTerm) (g := fun o x => o ++ [scalar_Eval x env]) (fun i o => o.length = i) hk.len
    (fun o i x hi hx hI => by
      have hI' : o.length = i := hI
      have hmem : x ∈ t.kids := by rw [← hx, List.getD_eq_getElem?_getD, List.getElem?_eq_getElem (by omega)]; exact List.getElem_mem _
      refine ⟨by show (o ++ [_]).length = i + 1; rw [List.length_append, List.length_singleton]; omega, ?_⟩
      have hht := Term.ht_kid hmem
      have hxs := szTs_mem hmem
      rw [scalar_Eval_l14]
      simp only [cndO_eq, hi, decide_true, if_true, and_true, Int.toNat_natCast, hx, Term.ids_eq]
      rw [obO_pos (by omega), obO_pos (by omega), obO_pos (by omega), obO_pos (strTs_mem.1 hst.2 x hmem), obO_pos h3, obO_pos (by unfold roomB; rw [List.length_singleton]; omega)])
    (fun o _ => by rw [scalar_Eval_l14]; simp [cndO_eq]) [] rfl
  rw [snoc_fold, List.nil_append] at lp
  have he : t.kids.map (fun x => scalar_Eval x env) = evalGs scalar_Apply env t.kids := (evalGs_map _ _ _).symm
  rw [he] at lp
  refine (loop_end lp).trans ?_
  rw [scalar_Eval_a14_x1, obO_pos]
  refine ⟨by rw [evalGs_map, List.length_map]; omega, short_evals h3 t.kids hst.2⟩
theorem scalar_Eval_spec (m : Nat) (t : Term) (env : List (List Val)) (ht : WS .term t) (_he : WL .row env) (hm : t.ht < m + 1) (h1 : t.sz ≤ 2000000) (h2 : strT t) (h3 : envOK env) : scalar_Eval_fn m t env = some (R_scalar_Eval (scalar_Eval t env)) := by
  have hlen := szTs_len t.kids
  have hsz := t.sz_eq
  rw [scalar_Eval_in, eval_loop m t env ht hm h1 h2 h3]
  have e : scalar_Eval t env = evalG scalar_Apply env t := rfl
  rw [e, evalG_eq]
  simp only [cndO_or]
  simp only [cndO_eq, Bool.or_eq_true, beq_iff_eq, decide_eq_true_eq]
  by_cases c1 : t.op = 1
  · rw [if_pos c1, if_pos c1]
  rw [if_neg c1, if_neg c1]
  by_cases c2 : t.op = 2
  · rw [if_pos c2, if_pos c2]
    unfold colV
    by_cases d1 : t.depth ≥ 0
    · rw [if_pos d1]
      by_cases d2 : t.depth < (env.length : Int)
      · rw [if_pos d2]
        by_cases d3 : t.at_ ≥ 0
        · rw [if_pos d3, obO_pos ⟨d1, d2⟩]
          by_cases d4 : t.at_ < ((env.getD t.depth.toNat []).length : Int)
          · rw [if_pos d4, if_pos ⟨d1, d2, d3, d4⟩, obO_pos ⟨d1, d2⟩, obO_pos ⟨d3, d4⟩]
          · rw [if_neg d4, if_neg (fun e => d4 e.2.2.2)]
        · rw [if_neg d3, if_neg (fun e => d3 e.2.2.1)]
      · rw [if_neg d2, if_neg (fun e => d2 e.2.1)]
    · rw [if_neg d1, if_neg (fun e => d1 e.1)]
  rw [if_neg c2, if_neg c2]
  by_cases c3 : t.op = 26 ∨ t.op = 27 ∨ t.op = 28
  · rw [if_pos (by omega), if_pos c3]
  · rw [if_neg (by omega), if_neg c3, obO_pos (by unfold roomB; omega)]
theorem okm_scalar_Eval (m : Nat) (h_scalar_Eval : FnOK 20 (Fm_scalar_Eval m)) : FnOK 20 (Fm_scalar_Eval (m + 1)) := by
  intro args ob rs os h hob
  unfold Fm_scalar_Eval at h
  split at h
  · simp only [Option.bind_eq_some_iff, Option.some.injEq, Prod.mk.injEq] at h
    obtain ⟨t, e0, env, e1, rfl, rfl, rfl⟩ := h
    obtain rfl := dS_eq e0
    obtain rfl := dL_eq e1
    exact ⟨fn_contractF (M := (M_scalar_Eval m)) rfl (tbl_ok (l1 := [(20, Fm_scalar_Eval m), (30, F_scalar_Apply)]) (l2 := []) (l3 := []) (l4 := []) (l5 := []) ⟨h_scalar_Eval, ok_scalar_Apply, trivial⟩ trivial trivial trivial trivial) Try.func20 (by kernel_rfl) N_scalar_Eval 1 [.d] (fun hwf => (scalar_Eval_spec m t env (wfArg hwf (a := .d (.agg (enc Ty.term t))) (List.mem_of_getElem? (i := 0) rfl)) (wfArg hwf (a := .d (.v (.dat (U := Un) Ty.row env))) (List.mem_of_getElem? (i := 1) rfl)) (hob _ (List.mem_of_getElem? (i := 0) rfl)) (hob _ (List.mem_of_getElem? (i := 1) rfl)) (hob _ (List.mem_of_getElem? (i := 2) rfl)) (hob _ (List.mem_of_getElem? (i := 3) rfl)))), hasBody_of Try.func20 (by kernel_rfl) (by kernel_rfl)⟩
  · simp at h
theorem okAll_evalG : ∀ m, FnOK 20 (Fm_scalar_Eval m)
  | 0 => by
    skip
    intro args ob rs os h hob
    unfold Fm_scalar_Eval at h
    split at h
    · simp only [Option.bind_eq_some_iff, Option.some.injEq, Prod.mk.injEq] at h
      obtain ⟨_, _, _, _, rfl, _, _⟩ := h
      exact absurd (hob _ (List.mem_of_getElem? (i := 0) rfl)) (Nat.not_lt_zero _)
    · simp at h
  | m + 1 => by
    have ih := okAll_evalG m
    exact okm_scalar_Eval m ih
def F_scalar_Eval : FnC Un := fun args => match args with
  | [x0, x1] => (dS .term x0).bind fun t => (dL .row x1).bind fun env => some ([t.sz ≤ 2000000, strT t, envOK env], A_scalar_Eval (scalar_Eval t env), O_scalar_Eval (scalar_Eval t env))
  | _ => none
theorem ok_scalar_Eval : FnOK 20 F_scalar_Eval := by
  intro args ob rs os h hob
  unfold F_scalar_Eval at h
  split at h
  · simp only [Option.bind_eq_some_iff, Option.some.injEq, Prod.mk.injEq] at h
    obtain ⟨t, e0, env, e1, rfl, rfl, rfl⟩ := h
    refine ((okAll_evalG (t.ht + 1))) _ [t.ht < t.ht + 1, t.sz ≤ 2000000, strT t, envOK env] _ _ (?_ : Fm_scalar_Eval (t.ht + 1) _ = some _) ?_
    · unfold Fm_scalar_Eval
      simp only [e0, e1, Option.bind_some]
    · intro p hp
      simp only [List.mem_cons, List.not_mem_nil, or_false] at hp
      rcases hp with rfl | rfl | rfl | rfl
      · exact Nat.lt_succ_self _
      · exact hob _ (List.mem_of_getElem? (i := 0) rfl)
      · exact hob _ (List.mem_of_getElem? (i := 1) rfl)
      · exact hob _ (List.mem_of_getElem? (i := 2) rfl)
  · simp at h
def M_scalar_Truth : Mc Un := mach (tbl [(20, F_scalar_Eval), (19, F_tri_From)]) (tbl []) (tbl []) (tbl []) (tbl [])
def A_scalar_Truth (r : Int) : List (A Un) := [.c (.s (.int .i64 r))]
def O_scalar_Truth (_r : Int) : List (Ob Un) := []
def R_scalar_Truth (r : Int) : RF Un := (A_scalar_Truth r, O_scalar_Truth r)
def N_scalar_Truth : Nat → NS := fun l => (look l []).getD ⟨[], [], [], [], [], true⟩
def scalar_Truth_fn (t : Term) (env : List (List Val)) : Option (RF Un) := awf M_scalar_Truth N_scalar_Truth (bodyOf Try.f7) (entry Try.f7.ntmps 0 [.d (.agg (enc Ty.term t)), .d (.v (.dat (U := Un) Ty.row env))]) (retF M_scalar_Truth Try.f7.results.toList [.d])
theorem scalar_Truth_in (t : Term) (env : List (List Val)) : scalar_Truth_fn t env =
 obO ((Term.ids t).sz ≤ (2000000 : Nat))
  (obO (strT (Term.ids t))
   (obO (envOK env)
    (some (R_scalar_Truth (tri_From (scalar_Eval (Term.ids t) env)))))) := by kernel_rfl
def scalar_Truth (t : Term) (env : List (List Val)) : Int := tri_From (scalar_Eval t env)
theorem scalar_Truth_spec (t : Term) (env : List (List Val)) (_ht : WS .term t) (_he : WL .row env) (h1 : t.sz ≤ 2000000) (h2 : strT t) (h3 : envOK env) : scalar_Truth_fn t env = some (R_scalar_Truth (scalar_Truth t env)) := by
  rw [scalar_Truth_in, Term.ids_eq, obO_pos h1, obO_pos h2, obO_pos h3]
  rfl
def F_scalar_Truth : FnC Un := fun args => match args with
  | [x0, x1] => (dS .term x0).bind fun t => (dL .row x1).bind fun env => some ([t.sz ≤ 2000000, strT t, envOK env], A_scalar_Truth (scalar_Truth t env), O_scalar_Truth (scalar_Truth t env))
  | _ => none
theorem ok_scalar_Truth : FnOK 7 F_scalar_Truth := by
  intro args ob rs os h hob
  unfold F_scalar_Truth at h
  split at h
  · simp only [Option.bind_eq_some_iff, Option.some.injEq, Prod.mk.injEq] at h
    obtain ⟨t, e0, env, e1, rfl, rfl, rfl⟩ := h
    obtain rfl := dS_eq e0
    obtain rfl := dL_eq e1
    exact ⟨fn_contractF (M := M_scalar_Truth) rfl (tbl_ok (l1 := [(20, F_scalar_Eval), (19, F_tri_From)]) (l2 := []) (l3 := []) (l4 := []) (l5 := []) ⟨ok_scalar_Eval, ok_tri_From, trivial⟩ trivial trivial trivial trivial) Try.func7 (by kernel_rfl) N_scalar_Truth 0 [.d] (fun hwf => (scalar_Truth_spec t env (wfArg hwf (a := .d (.agg (enc Ty.term t))) (List.mem_of_getElem? (i := 0) rfl)) (wfArg hwf (a := .d (.v (.dat (U := Un) Ty.row env))) (List.mem_of_getElem? (i := 1) rfl)) (hob _ (List.mem_of_getElem? (i := 0) rfl)) (hob _ (List.mem_of_getElem? (i := 1) rfl)) (hob _ (List.mem_of_getElem? (i := 2) rfl)))), hasBody_of Try.func7 (by kernel_rfl) (by kernel_rfl)⟩
  · simp at h
end
end Go.Proofs.Ytjmpnpkcgkhagaa.B
namespace Go.Proofs.Ytjmpnpkcgkhagaa.B
open Go Go.RowKit
set_option linter.unusedVariables false
theorem BK.str_inv {s : ByteArray} {n : Nat} (h : BK (cs s) n) : s.size ≤ n := by
  cases h with
  | s _ _ h => exact h s rfl
mutual
theorem bkStr : ∀ (t : Term) (n : Nat), BKS (enc .term t) n → n ≤ 2000000 → strT t
  | .mk op v depth at_ name kids sub type, n, h, hn => by
    obtain ⟨_, _, _, h, q1⟩ := h.cons_inv
    obtain ⟨_, _, _, h, q2⟩ := h.cons_inv
    obtain ⟨_, _, _, h, q3⟩ := h.cons_inv
    obtain ⟨_, _, k0, h, q4⟩ := h.cons_inv
    obtain ⟨_, _, _, h, q5⟩ := h.cons_inv
    obtain ⟨_, _, _, h, q6⟩ := h.cons_inv
    obtain ⟨_, _, _, h, q7⟩ := h.cons_inv
    obtain ⟨_, _, k1, h, q8⟩ := h.cons_inv
    have e0 := k0.str_inv
    have e1 := bkStrs kids _ k1.dat_inv (by omega)
    simp only [strT]
    exact ⟨by show v.s.size ≤ _; have : v.s.size ≤ _ := e0; omega, e1⟩
theorem bkStrs : ∀ (l : List Term) (n : Nat), BKL .term l n → n ≤ 2000000 → strTs l
  | [], _, _, _ => trivial
  | t :: r, n, h, hn => by
    obtain ⟨_, _, h1, h2, _⟩ := h.cons_inv
    exact ⟨bkStr t _ h1 (by omega), bkStrs r _ h2 (by omega)⟩
end
theorem bkRow : ∀ (l : List Val) (n : Nat), BKL .val l n → n ≤ 2000000 → ∀ v ∈ l, shortV v
  | [], _, _, _ => by simp
  | x :: r, n, h, hn => by
    obtain ⟨_, _, h1, h2, _⟩ := h.cons_inv
    obtain ⟨_, _, _, h1, q2⟩ := h1.cons_inv
    obtain ⟨_, _, _, h1, q3⟩ := h1.cons_inv
    obtain ⟨_, _, k0, _, q4⟩ := h1.cons_inv
    intro v hv
    rcases List.mem_cons.1 hv with rfl | hv
    · have e0 := k0.str_inv
      show v.s.size ≤ _
      have : v.s.size ≤ _ := e0
      omega
    · exact bkRow r _ h2 (by omega) v hv
theorem env_one {l : List Val} (h : ∀ v ∈ l, shortV v) : envOK [l] := by
  intro r hr; rw [List.mem_singleton] at hr; rw [hr]; exact h
end Go.Proofs.Ytjmpnpkcgkhagaa.B
namespace Go.Proofs.Ytjmpnpkcgkhagaa.B
open Go Go.RowKit Go.ChangeShapes
set_option maxRecDepth 1000000
theorem tot_int {vs : List (V Un)} (h : vs.map flOf = (fls .int).map some) : ∃ x, dec .int vs = some x := by
  have h0 : vs.map flOf = ([.int] : List Fl).map some := h
  clear h
  obtain ⟨a0, r0, rfl, h1⟩ := fl_int h0; clear h0
  obtain rfl := fl_nil h1
  exact ⟨_, rfl⟩
theorem tot_str {vs : List (V Un)} (h : vs.map flOf = (fls .str).map some) : ∃ x, dec .str vs = some x := by
  have h0 : vs.map flOf = ([.str] : List Fl).map some := h
  clear h
  obtain ⟨a0, r0, rfl, h1⟩ := fl_str h0; clear h0
  obtain rfl := fl_nil h1
  exact ⟨_, rfl⟩
theorem tot_row {vs : List (V Un)} (h : vs.map flOf = (fls .row).map some) : ∃ x, dec .row vs = some x := by
  have h0 : vs.map flOf = ([.sl .val] : List Fl).map some := h
  clear h
  obtain ⟨a0, r0, rfl, h1⟩ := fl_sl h0; clear h0
  obtain rfl := fl_nil h1
  exact ⟨_, rfl⟩
theorem tot_ints {vs : List (V Un)} (h : vs.map flOf = (fls .ints).map some) : ∃ x, dec .ints vs = some x := by
  have h0 : vs.map flOf = ([.sl .int] : List Fl).map some := h
  clear h
  obtain ⟨a0, r0, rfl, h1⟩ := fl_sl h0; clear h0
  obtain rfl := fl_nil h1
  exact ⟨_, rfl⟩
theorem tot_pair {vs : List (V Un)} (h : vs.map flOf = (fls .pair).map some) : ∃ x, dec .pair vs = some x := by
  have h0 : vs.map flOf = ([.int, .int] : List Fl).map some := h
  clear h
  obtain ⟨a0, r0, rfl, h1⟩ := fl_int h0; clear h0
  obtain ⟨a1, r1, rfl, h2⟩ := fl_int h1; clear h1
  obtain rfl := fl_nil h2
  exact ⟨_, rfl⟩
theorem tot_val {vs : List (V Un)} (h : vs.map flOf = (fls .val).map some) : ∃ x, dec .val vs = some x := by
  have h0 : vs.map flOf = ([.int, .int, .str] : List Fl).map some := h
  clear h
  obtain ⟨a0, r0, rfl, h1⟩ := fl_int h0; clear h0
  obtain ⟨a1, r1, rfl, h2⟩ := fl_int h1; clear h1
  obtain ⟨a2, r2, rfl, h3⟩ := fl_str h2; clear h2
  obtain rfl := fl_nil h3
  exact ⟨_, rfl⟩
theorem tot_col {vs : List (V Un)} (h : vs.map flOf = (fls .col).map some) : ∃ x, dec .col vs = some x := by
  have h0 : vs.map flOf = ([.str, .str, .int] : List Fl).map some := h
  clear h
  obtain ⟨a0, r0, rfl, h1⟩ := fl_str h0; clear h0
  obtain ⟨a1, r1, rfl, h2⟩ := fl_str h1; clear h1
  obtain ⟨a2, r2, rfl, h3⟩ := fl_int h2; clear h2
  obtain rfl := fl_nil h3
  exact ⟨_, rfl⟩
theorem tot_by_ {vs : List (V Un)} (h : vs.map flOf = (fls .by_).map some) : ∃ x, dec .by_ vs = some x := by
  have h0 : vs.map flOf = ([.int, .bool] : List Fl).map some := h
  clear h
  obtain ⟨a0, r0, rfl, h1⟩ := fl_int h0; clear h0
  obtain ⟨a1, r1, rfl, h2⟩ := fl_bool h1; clear h1
  obtain rfl := fl_nil h2
  exact ⟨_, rfl⟩
theorem tot_bound {vs : List (V Un)} (h : vs.map flOf = (fls .bound).map some) : ∃ x, dec .bound vs = some x := by
  have h0 : vs.map flOf = ([.bool, .bool, .sl .val] : List Fl).map some := h
  clear h
  obtain ⟨a0, r0, rfl, h1⟩ := fl_bool h0; clear h0
  obtain ⟨a1, r1, rfl, h2⟩ := fl_bool h1; clear h1
  obtain ⟨a2, r2, rfl, h3⟩ := fl_sl h2; clear h2
  obtain rfl := fl_nil h3
  exact ⟨_, rfl⟩
theorem tot_often {vs : List (V Un)} (h : vs.map flOf = (fls .often).map some) : ∃ x, dec .often vs = some x := by
  have h0 : vs.map flOf = ([.int, .int, .str, .int] : List Fl).map some := h
  clear h
  obtain ⟨a0, r0, rfl, h1⟩ := fl_int h0; clear h0
  obtain ⟨a1, r1, rfl, h2⟩ := fl_int h1; clear h1
  obtain ⟨a2, r2, rfl, h3⟩ := fl_str h2; clear h2
  obtain ⟨a3, r3, rfl, h4⟩ := fl_int h3; clear h3
  obtain rfl := fl_nil h4
  exact ⟨_, rfl⟩
theorem tot_colStat {vs : List (V Un)} (h : vs.map flOf = (fls .colStat).map some) : ∃ x, dec .colStat vs = some x := by
  have h0 : vs.map flOf = ([.int, .int, .sl .val, .sl .often] : List Fl).map some := h
  clear h
  obtain ⟨a0, r0, rfl, h1⟩ := fl_int h0; clear h0
  obtain ⟨a1, r1, rfl, h2⟩ := fl_int h1; clear h1
  obtain ⟨a2, r2, rfl, h3⟩ := fl_sl h2; clear h2
  obtain ⟨a3, r3, rfl, h4⟩ := fl_sl h3; clear h3
  obtain rfl := fl_nil h4
  exact ⟨_, rfl⟩
theorem tot_data {vs : List (V Un)} (h : vs.map flOf = (fls .data).map some) : ∃ x, dec .data vs = some x := by
  have h0 : vs.map flOf = ([.str, .sl .row] : List Fl).map some := h
  clear h
  obtain ⟨a0, r0, rfl, h1⟩ := fl_str h0; clear h0
  obtain ⟨a1, r1, rfl, h2⟩ := fl_sl h1; clear h1
  obtain rfl := fl_nil h2
  exact ⟨_, rfl⟩
theorem tot_acc {vs : List (V Un)} (h : vs.map flOf = (fls .acc).map some) : ∃ x, dec .acc vs = some x := by
  have h0 : vs.map flOf = ([.str, .bool, .int, .int, .int, .int, .int, .str, .sl .val] : List Fl).map some := h
  clear h
  obtain ⟨a0, r0, rfl, h1⟩ := fl_str h0; clear h0
  obtain ⟨a1, r1, rfl, h2⟩ := fl_bool h1; clear h1
  obtain ⟨a2, r2, rfl, h3⟩ := fl_int h2; clear h2
  obtain ⟨a3, r3, rfl, h4⟩ := fl_int h3; clear h3
  obtain ⟨a4, r4, rfl, h5⟩ := fl_int h4; clear h4
  obtain ⟨a5, r5, rfl, h6⟩ := fl_int h5; clear h5
  obtain ⟨a6, r6, rfl, h7⟩ := fl_int h6; clear h6
  obtain ⟨a7, r7, rfl, h8⟩ := fl_str h7; clear h7
  obtain ⟨a8, r8, rfl, h9⟩ := fl_sl h8; clear h8
  obtain rfl := fl_nil h9
  exact ⟨_, rfl⟩
theorem tot_stat {vs : List (V Un)} (h : vs.map flOf = (fls .stat).map some) : ∃ x, dec .stat vs = some x := by
  have h0 : vs.map flOf = ([.str, .int, .int, .sl .colStat] : List Fl).map some := h
  clear h
  obtain ⟨a0, r0, rfl, h1⟩ := fl_str h0; clear h0
  obtain ⟨a1, r1, rfl, h2⟩ := fl_int h1; clear h1
  obtain ⟨a2, r2, rfl, h3⟩ := fl_int h2; clear h2
  obtain ⟨a3, r3, rfl, h4⟩ := fl_sl h3; clear h3
  obtain rfl := fl_nil h4
  exact ⟨_, rfl⟩
theorem tot_column {vs : List (V Un)} (h : vs.map flOf = (fls .column).map some) : ∃ x, dec .column vs = some x := by
  have h0 : vs.map flOf = ([.int, .int, .sl .val, .sl .often, .int, .int, .int] : List Fl).map some := h
  clear h
  obtain ⟨a0, r0, rfl, h1⟩ := fl_int h0; clear h0
  obtain ⟨a1, r1, rfl, h2⟩ := fl_int h1; clear h1
  obtain ⟨a2, r2, rfl, h3⟩ := fl_sl h2; clear h2
  obtain ⟨a3, r3, rfl, h4⟩ := fl_sl h3; clear h3
  obtain ⟨a4, r4, rfl, h5⟩ := fl_int h4; clear h4
  obtain ⟨a5, r5, rfl, h6⟩ := fl_int h5; clear h5
  obtain ⟨a6, r6, rfl, h7⟩ := fl_int h6; clear h6
  obtain rfl := fl_nil h7
  exact ⟨_, rfl⟩
theorem tot_term {vs : List (V Un)} (h : vs.map flOf = (fls .term).map some) : ∃ x, dec .term vs = some x := by
  have h0 : vs.map flOf = ([.int, .int, .int, .str, .int, .int, .str, .sl .term, .sl .rel, .int] : List Fl).map some := h
  clear h
  obtain ⟨a0, r0, rfl, h1⟩ := fl_int h0; clear h0
  obtain ⟨a1, r1, rfl, h2⟩ := fl_int h1; clear h1
  obtain ⟨a2, r2, rfl, h3⟩ := fl_int h2; clear h2
  obtain ⟨a3, r3, rfl, h4⟩ := fl_str h3; clear h3
  obtain ⟨a4, r4, rfl, h5⟩ := fl_int h4; clear h4
  obtain ⟨a5, r5, rfl, h6⟩ := fl_int h5; clear h5
  obtain ⟨a6, r6, rfl, h7⟩ := fl_str h6; clear h6
  obtain ⟨a7, r7, rfl, h8⟩ := fl_sl h7; clear h7
  obtain ⟨a8, r8, rfl, h9⟩ := fl_sl h8; clear h8
  obtain ⟨a9, r9, rfl, h10⟩ := fl_int h9; clear h9
  obtain rfl := fl_nil h10
  exact ⟨_, rfl⟩
theorem tot_agg {vs : List (V Un)} (h : vs.map flOf = (fls .agg).map some) : ∃ x, dec .agg vs = some x := by
  have h0 : vs.map flOf = ([.str, .bool, .sl .term] : List Fl).map some := h
  clear h
  obtain ⟨a0, r0, rfl, h1⟩ := fl_str h0; clear h0
  obtain ⟨a1, r1, rfl, h2⟩ := fl_bool h1; clear h1
  obtain ⟨a2, r2, rfl, h3⟩ := fl_sl h2; clear h2
  obtain rfl := fl_nil h3
  exact ⟨_, rfl⟩
theorem tot_rel {vs : List (V Un)} (h : vs.map flOf = (fls .rel).map some) : ∃ x, dec .rel vs = some x := by
  have h0 : vs.map flOf = ([.int, .str, .sl .col, .sl .rel, .sl .term, .sl .agg, .sl .by_, .int, .int, .bool, .sl .row] : List Fl).map some := h
  clear h
  obtain ⟨a0, r0, rfl, h1⟩ := fl_int h0; clear h0
  obtain ⟨a1, r1, rfl, h2⟩ := fl_str h1; clear h1
  obtain ⟨a2, r2, rfl, h3⟩ := fl_sl h2; clear h2
  obtain ⟨a3, r3, rfl, h4⟩ := fl_sl h3; clear h3
  obtain ⟨a4, r4, rfl, h5⟩ := fl_sl h4; clear h4
  obtain ⟨a5, r5, rfl, h6⟩ := fl_sl h5; clear h5
  obtain ⟨a6, r6, rfl, h7⟩ := fl_sl h6; clear h6
  obtain ⟨a7, r7, rfl, h8⟩ := fl_int h7; clear h7
  obtain ⟨a8, r8, rfl, h9⟩ := fl_int h8; clear h8
  obtain ⟨a9, r9, rfl, h10⟩ := fl_bool h9; clear h9
  obtain ⟨a10, r10, rfl, h11⟩ := fl_sl h10; clear h10
  obtain rfl := fl_nil h11
  exact ⟨_, rfl⟩
theorem tot_plan {vs : List (V Un)} (h : vs.map flOf = (fls .plan).map some) : ∃ x, dec .plan vs = some x := by
  have h0 : vs.map flOf = ([.int, .str, .str, .sl .col, .sl .plan, .sl .term, .sl .term, .sl .term, .sl .agg, .sl .by_, .sl .int, .bool, .bool, .sl .val, .bool, .bool, .sl .val, .int, .int, .bool, .sl .row, .int, .int] : List Fl).map some := h
  clear h
  obtain ⟨a0, r0, rfl, h1⟩ := fl_int h0; clear h0
  obtain ⟨a1, r1, rfl, h2⟩ := fl_str h1; clear h1
  obtain ⟨a2, r2, rfl, h3⟩ := fl_str h2; clear h2
  obtain ⟨a3, r3, rfl, h4⟩ := fl_sl h3; clear h3
  obtain ⟨a4, r4, rfl, h5⟩ := fl_sl h4; clear h4
  obtain ⟨a5, r5, rfl, h6⟩ := fl_sl h5; clear h5
  obtain ⟨a6, r6, rfl, h7⟩ := fl_sl h6; clear h6
  obtain ⟨a7, r7, rfl, h8⟩ := fl_sl h7; clear h7
  obtain ⟨a8, r8, rfl, h9⟩ := fl_sl h8; clear h8
  obtain ⟨a9, r9, rfl, h10⟩ := fl_sl h9; clear h9
  obtain ⟨a10, r10, rfl, h11⟩ := fl_sl h10; clear h10
  obtain ⟨a11, r11, rfl, h12⟩ := fl_bool h11; clear h11
  obtain ⟨a12, r12, rfl, h13⟩ := fl_bool h12; clear h12
  obtain ⟨a13, r13, rfl, h14⟩ := fl_sl h13; clear h13
  obtain ⟨a14, r14, rfl, h15⟩ := fl_bool h14; clear h14
  obtain ⟨a15, r15, rfl, h16⟩ := fl_bool h15; clear h15
  obtain ⟨a16, r16, rfl, h17⟩ := fl_sl h16; clear h16
  obtain ⟨a17, r17, rfl, h18⟩ := fl_int h17; clear h17
  obtain ⟨a18, r18, rfl, h19⟩ := fl_int h18; clear h18
  obtain ⟨a19, r19, rfl, h20⟩ := fl_bool h19; clear h19
  obtain ⟨a20, r20, rfl, h21⟩ := fl_sl h20; clear h20
  obtain ⟨a21, r21, rfl, h22⟩ := fl_int h21; clear h21
  obtain ⟨a22, r22, rfl, h23⟩ := fl_int h22; clear h22
  obtain rfl := fl_nil h23
  exact ⟨_, rfl⟩
theorem tot_span {vs : List (V Un)} (h : vs.map flOf = (fls .span).map some) : ∃ x, dec .span vs = some x := by
  have h0 : vs.map flOf = ([.sl .val, .bool, .bool, .sl .val, .bool, .bool, .sl .val, .int, .sl .term] : List Fl).map some := h
  clear h
  obtain ⟨a0, r0, rfl, h1⟩ := fl_sl h0; clear h0
  obtain ⟨a1, r1, rfl, h2⟩ := fl_bool h1; clear h1
  obtain ⟨a2, r2, rfl, h3⟩ := fl_bool h2; clear h2
  obtain ⟨a3, r3, rfl, h4⟩ := fl_sl h3; clear h3
  obtain ⟨a4, r4, rfl, h5⟩ := fl_bool h4; clear h4
  obtain ⟨a5, r5, rfl, h6⟩ := fl_bool h5; clear h5
  obtain ⟨a6, r6, rfl, h7⟩ := fl_sl h6; clear h6
  obtain ⟨a7, r7, rfl, h8⟩ := fl_int h7; clear h7
  obtain ⟨a8, r8, rfl, h9⟩ := fl_sl h8; clear h8
  obtain rfl := fl_nil h9
  exact ⟨_, rfl⟩
theorem tot_u8 {vs : List (V Un)} (h : vs.map flOf = (fls .u8).map some) : ∃ x, dec .u8 vs = some x := by
  have h0 : vs.map flOf = ([.num .u8] : List Fl).map some := h
  clear h
  obtain ⟨a0, r0, rfl, h1⟩ := fl_num h0; clear h0
  obtain rfl := fl_nil h1
  exact ⟨_, rfl⟩
theorem tot_bol {vs : List (V Un)} (h : vs.map flOf = (fls .bol).map some) : ∃ x, dec .bol vs = some x := by
  have h0 : vs.map flOf = ([.bool] : List Fl).map some := h
  clear h
  obtain ⟨a0, r0, rfl, h1⟩ := fl_bool h0; clear h0
  obtain rfl := fl_nil h1
  exact ⟨_, rfl⟩
theorem tot_sign {vs : List (V Un)} (h : vs.map flOf = (fls .sign).map some) : ∃ x, dec .sign vs = some x := by
  have h0 : vs.map flOf = ([.int, .num .u8] : List Fl).map some := h
  clear h
  obtain ⟨a0, r0, rfl, h1⟩ := fl_int h0; clear h0
  obtain ⟨a1, r1, rfl, h2⟩ := fl_num h1; clear h1
  obtain rfl := fl_nil h2
  exact ⟨_, rfl⟩
theorem tot_bunch {vs : List (V Un)} (h : vs.map flOf = (fls .bunch).map some) : ∃ x, dec .bunch vs = some x := by
  have h0 : vs.map flOf = ([.sl .val, .sl .row] : List Fl).map some := h
  clear h
  obtain ⟨a0, r0, rfl, h1⟩ := fl_sl h0; clear h0
  obtain ⟨a1, r1, rfl, h2⟩ := fl_sl h1; clear h1
  obtain rfl := fl_nil h2
  exact ⟨_, rfl⟩
theorem tot_wld {vs : List (V Un)} (h : vs.map flOf = (fls .wld).map some) : ∃ x, dec .wld vs = some x := by
  have h0 : vs.map flOf = ([.sl .row, .sl .data] : List Fl).map some := h
  clear h
  obtain ⟨a0, r0, rfl, h1⟩ := fl_sl h0; clear h0
  obtain ⟨a1, r1, rfl, h2⟩ := fl_sl h1; clear h1
  obtain rfl := fl_nil h2
  exact ⟨_, rfl⟩
theorem decTot : DecTot := by
  intro τ vs h
  cases τ with
  | int => exact tot_int h
  | str => exact tot_str h
  | row => exact tot_row h
  | ints => exact tot_ints h
  | pair => exact tot_pair h
  | u8 => exact tot_u8 h
  | bol => exact tot_bol h
  | val => exact tot_val h
  | col => exact tot_col h
  | by_ => exact tot_by_ h
  | bound => exact tot_bound h
  | often => exact tot_often h
  | colStat => exact tot_colStat h
  | data => exact tot_data h
  | acc => exact tot_acc h
  | stat => exact tot_stat h
  | column => exact tot_column h
  | term => exact tot_term h
  | agg => exact tot_agg h
  | rel => exact tot_rel h
  | plan => exact tot_plan h
  | sign => exact tot_sign h
  | bunch => exact tot_bunch h
  | wld => exact tot_wld h
  | span => exact tot_span h
theorem sz_pos : ∀ τ, 0 < sz τ := by intro τ; cases τ <;> decide
def byt : Ty → Nat
  | .int => 8
  | .str => 16
  | .row => 24
  | .ints => 24
  | .pair => 16
  | .u8 => 1
  | .bol => 1
  | .sign => 16
  | .bunch => 48
  | .wld => 48
  | .val => 32
  | .col => 40
  | .by_ => 16
  | .bound => 32
  | .often => 40
  | .colStat => 64
  | .data => 40
  | .acc => 104
  | .stat => 56
  | .column => 88
  | .term => 128
  | .agg => 48
  | .rel => 192
  | .plan => 360
  | .span => 120
def tl : Option (TI Un) → TI Un
  | some (.sl _ .pair _) => .oth
  | some x => x
  | none => .oth
theorem tl_sl {x : TI Un} {e : TypeId} {τ : Ty} {b : Nat} (h : tl (some x) = .sl e τ b) : x = .sl e τ b ∧ τ ≠ .pair := by
  cases x with
  | sl e' τ' b' =>
    cases τ' <;> simp [tl] at h <;> (obtain ⟨rfl, rfl, rfl⟩ := h; exact ⟨rfl, by simp⟩)
  | _ => simp [tl] at h
def tiL (t : TypeId) : TI Un := tl (look t tab)
noncomputable def lay1 : TI Un → Bool
  | .sl _ .pair _ => true
  | .sl e τ b => lay Try.prog tiL 8 e == some (fls τ) && Try.prog.cellsOf e == sz τ && Try.prog.bytesOf e == byt τ && b == byt τ
  | _ => true
theorem lay1_sl {e : TypeId} {τ : Ty} {b : Nat} (h : lay1 (.sl e τ b) = true) (hp : τ ≠ .pair)   : (lay Try.prog tiL 8 e = some (fls τ) ∧ Try.prog.cellsOf e = sz τ) ∧ Try.prog.bytesOf e = byt τ := by
  cases τ <;> first | exact absurd rfl hp | (simp only [lay1, Bool.and_eq_true, beq_iff_eq] at h; exact h.1)
noncomputable def layB : Bool := tab.all fun x => lay1 x.2
theorem layB_true : layB = true := by kernel_rfl
theorem layOf {t e : TypeId} {τ : Ty} {b : Nat} (h : tiL t = .sl e τ b) : (lay Try.prog tiL 8 e = some (fls τ) ∧ Try.prog.cellsOf e = sz τ) ∧ Try.prog.underlying t = some (.slice e) := by
  have hb := layB_true
  unfold layB at hb
  rw [List.all_eq_true] at hb
  unfold tiL at h
  cases hl : look t tab with
  | none => rw [hl] at h; simp [tl] at h
  | some x =>
    rw [hl] at h
    have hm := hb _ (look_mem hl)
    obtain ⟨rfl, hp⟩ := tl_sl h
    have ht := (tabOK (fun _ => none) (fun _ => none) (fun _ => none) (fun _ => none) (fun _ => none)).ti t
    have hti : (mach (fun _ => none) (fun _ => none) (fun _ => none) (fun _ => none) (fun _ => none)).ti t = .sl e τ b := by
      unfold Mc.ti mach; simp only [hl]
    rw [hti] at ht
    exact ⟨(lay1_sl hm hp).1, ht.2.1⟩
theorem bytOf {t e : TypeId} {τ : Ty} {b : Nat} (h : tiL t = .sl e τ b) : Try.prog.bytesOf e = byt τ := by
  have hb := layB_true
  unfold layB at hb
  rw [List.all_eq_true] at hb
  unfold tiL at h
  cases hl : look t tab with
  | none => rw [hl] at h; simp [tl] at h
  | some x =>
    rw [hl] at h
    have hm := hb _ (look_mem hl)
    obtain ⟨rfl, hp⟩ := tl_sl h
    exact (lay1_sl hm hp).2
section
variable {H : Type} {enc' : TypeId × Value → H} {w : World} {spare : Nat → Bool} {held : Bool} {base : Nat} {r : Reach} {b0 : Nat}
theorem trod_lawU {t : TypeId} {cs : List Value} {d : DataW H} {ps : List MemPlace} {k : Nat} {fl : List Fl} (h : ∃ n, DataW.trod enc' Try.prog w 0 spare held n t cs = some (d, ps)) (hl : lay Try.prog tiL k t = some fl) :
    ∃ vs, All2 (VRel En (StA w) w) cs vs ∧ vs.map flOf = fl.map some ∧ ((∀ q ∈ d.weights Try.prog t, q ≤ reachBytes) → ∀ v ∈ vs, VB byt v) ∧ BKS vs (Rows.uptoBulk d - 1) := by
  obtain ⟨n, h⟩ := h
  exact trod_data (fun t e τ b ht => bytOf ht) (fun t e τ b ht => ⟨8, (layOf ht).1.1⟩) decTot sz_pos (fun t e τ b ht => (layOf ht).1.2) n t cs _ k fl h hl
theorem arg_slU {t e : TypeId} {τ : Ty} {b : Nat} (ht : tiL t = .sl e τ b) {v : Value} {d : DataW H} {ps : List MemPlace} (hval : Value.okWide Try.prog w r b0 t v) (hd : DataW.Trod enc' Try.prog w 0 spare held t v d ps) :
    ∃ l : List (Den τ), DRel Try.prog En (StA w) w v (.d (.v (.dat (U := Un) τ l))) ∧ ((∀ q ∈ d.weights Try.prog t, q ≤ reachBytes) → VB byt (.dat (U := Un) τ l)) ∧ BKL τ l (Rows.uptoBulk d - 1) := by
  have hu := (layOf ht).2
  obtain ⟨a, len, cap, rfl⟩ := Go.WideShapes.okWide_slice hu hval
  obtain ⟨vs, h1, h2, h4, h5⟩ := trod_lawU (k := 1) (fl := [.sl τ]) hd (by simp only [lay, hu, ht, if_true])
  obtain ⟨l, rs, rfl, h3⟩ := fl_sl h2
  refine ⟨l, h1.1, fun hq => h4 hq _ List.mem_cons_self, ?_⟩
  cases h5 with
  | cons _ _ a c _ g1 g2 hn =>
    cases g1 with
    | dat _ _ _ g3 => exact g3.mono (by omega)
end
def isSl (τ : Ty) : TI Un → Bool
  | .sl _ τ' _ => decide (τ' = τ)
  | _ => false
theorem tiL_sl {t : TypeId} {τ : Ty} (h : isSl τ (tiL t) = true) : tiL t = .sl (match tiL t with | .sl e _ _ => e | _ => 0) τ (match tiL t with | .sl _ _ b => b | _ => 0) := by
  cases hx : tiL t with
  | sl e τ' b =>
    rw [hx] at h
    have : τ' = τ := of_decide_eq_true h
    subst this; rfl
  | _ => rw [hx] at h; simp [isSl] at h
theorem law_calls {f : FuncId} {F : FnC Un} (hok : FnOK f F) {args : List (D Un)} {ob : List Prop} (hF : F args = some (ob, [.c (.s (.bool true))], [])) (hob : ∀ p ∈ ob, p) {w : World} {vs : List Value} (hrel : All2 (DRel Try.prog En (StA w) w) vs args) :
    Calls Try.prog f vs.toArray w fun e w' => e = .returned (.bool true) ∧ Ext w w' := by
  refine ((hok args ob _ [] hF hob).1 w (StA w) vs (fun b o h => h) hrel).mono ?_
  rintro e w' ⟨v, rfl, hx, g, -, -, -, hr, -⟩
  exact ⟨by rw [show v = .bool true from hr.1], hx⟩
end Go.Proofs.Ytjmpnpkcgkhagaa.B
namespace Go.Proofs.Ytjmpnpkcgkhagaa.B
open Go Go.RowKit
set_option maxRecDepth 1000000
def isB1 : Option (List Prop × List (D0 Un)) → Bool
  | some ([], [.v (.s (.bool _))]) => true
  | _ => false
noncomputable def boolOf (p : Prop) : Bool := @decide p (Classical.propDecidable p)
theorem boolOf_iff {p : Prop} : boolOf p = true ↔ p := @decide_eq_true_iff p (Classical.propDecidable p)
noncomputable def runesOK (φ : FV Un) : Bool := boolOf (∀ c : Nat, c ≤ 1114111 → isB1 (φ [.v (.s (.int .i32 c))]) = true)
def runeP (φ : FV Un) (c : Nat) : Bool :=
  match φ [.v (.s (.int .i32 c))] with
  | some (_, [.v (.s (.bool b))]) => b
  | _ => false
theorem runesOK_iff (φ : FV Un) : runesOK φ = true ↔ ∀ c, c ≤ 1114111 → φ [.v (.s (.int .i32 (c : Nat)))] = some ([], [.v (.s (.bool (runeP φ c)))]) := by
  unfold runesOK
  refine boolOf_iff.trans ?_
  refine forall_congr' fun c => forall_congr' fun _ => ?_
  unfold isB1 runeP
  split
  · rename_i b e
    rw [e]; simp
  · rename_i hn
    refine ⟨fun h => by simp at h, fun h => absurd h ?_⟩
    intro h
    exact hn _ h
def idxFrom (p : Nat → Bool) (t : Bool) (s : ByteArray) : Nat → Nat → Int
  | 0, _ => -1
  | f + 1, pos => if pos < s.size then (if p (Utf8.decode s pos).1 = t then (pos : Int) else idxFrom p t s f (pos + (Utf8.decode s pos).2)) else -1
@[irreducible] def idxF (p : Nat → Bool) (t : Bool) (s : ByteArray) : Int := idxFrom p t s s.size 0
theorem idxFrom_end (p : Nat → Bool) (t : Bool) (s : ByteArray) (f pos : Nat) (h : ¬ pos < s.size) : idxFrom p t s f pos = -1 := by cases f <;> simp [idxFrom, h]
set_option maxHeartbeats 2000000 in
set_option maxRecDepth 1000000 in
theorem indexFunc_walk (g : Nat) (lb : Array Value) (hg : HasBody Try.prog g) (p : Nat → Bool) (truth : Bool) (s : ByteArray) (w : World)
    (hp : ∀ (W : World) (x : Nat), x ≤ 1114111 → Below w.heap.size w W → Calls Try.prog g (#[.int .i32 (x : Int)] ++ lb) W fun e W' => e = .returned (.bool (p x)) ∧ Below W.heap.size W W') :
    Calls Try.prog 34 #[.string s, .func (.func g) #[] lb, .bool truth] w fun e w' => e = .returned (.int .i64 (idxF p truth s)) ∧ Below w.heap.size w w' := by
  have eg : ∀ args w, (callFunc g args).run Try.prog w = .ok (.enter g args) w := by
    obtain ⟨fn, c, h1, h2, h3⟩ := hg
    exact enters_of h1 h3 h2
  unfold idxF
  go_enter Try.func34, Try.ntmps34
  go_wp2
  go_loopg [] s.size (fun gf wx => ∃ pos : Nat, wx.heap[w.heap.size]? = some (.stringIter s pos) ∧ Below w.heap.size w wx ∧ idxFrom p truth s gf pos = idxFrom p truth s s.size 0 ∧ s.size ≤ pos + gf)
  case atStart => exact ⟨0, World.iter_heap w s 0, (Below.refl _ w).alloc (Nat.le_refl _) _, rfl, by omega⟩
  case round =>
    obtain ⟨pos, hit, hbw, hleft, hfu⟩ := hrel
    by_cases hps : pos < s.size
    · obtain ⟨g', rfl⟩ : ∃ g', gk = g' + 1 := ⟨gk - 1, by omega⟩
      have hnx : ∀ ty, (Instr.next (.pointer (some ⟨w.heap.size, 0, none⟩)) true ty).run Try.prog wr = _ := fun ty => Lib.run_next_any_at wr w.heap.size s pos ty hit hps
      have hwd := Lib.width_pos s pos
      obtain ⟨R, hR⟩ : ∃ R, (Utf8.decode s pos).1 = R := ⟨_, rfl⟩
      obtain ⟨K, hK⟩ : ∃ K, (Utf8.decode s pos).2 = K := ⟨_, rfl⟩
      simp only [idxFrom, hps, if_true, hR, hK] at hleft
      rw [hR, hK] at hnx
      rw [hK] at hwd
      have hit2 := Lib.iterAt_heap wr w.heap.size s pos (pos + K) hit
      have hbw2 := Lib.below_iterAt hbw (k := w.heap.size) (Nat.le_refl _) s (pos + K)
      obtain ⟨W, hWd⟩ : ∃ W, wr.iterAt w.heap.size s (pos + K) = W := ⟨_, rfl⟩
      rw [hWd] at hnx hit2 hbw2
      have hlt : w.heap.size < W.heap.size := (Array.getElem?_eq_some_iff.1 hit2).1
      have cS : Calls Try.prog g (#[.int .i32 (R : Int)] ++ lb) W _ := hp W R (by rw [← hR]; exact Lib.rune_le s pos) hbw2
      clear hp
      cases hsp : p R <;> cases truth <;> rw [hsp] at cS <;> simp only [hsp, if_true, Bool.false_eq_true, Bool.true_eq_false, if_false] at hleft
      · go_wp2_with (go_at_fn g; refine cS.mono ?_; rintro e W' ⟨rfl, hb⟩)
        go_ret
        exact ⟨by rw [← hleft] <;> rfl, hbw2.trans (hb.mono hbw2.size)⟩
      · go_wp2_with (go_at_fn g; refine cS.mono ?_; rintro e W' ⟨rfl, hb⟩)
        go_roundg g'
        case measure => omega
        case rel => exact ⟨pos + K, (hb.block _ hlt).trans hit2, hbw2.trans (hb.mono hbw2.size), hleft, by omega⟩
      · go_wp2_with (go_at_fn g; refine cS.mono ?_; rintro e W' ⟨rfl, hb⟩)
        go_roundg g'
        case measure => omega
        case rel => exact ⟨pos + K, (hb.block _ hlt).trans hit2, hbw2.trans (hb.mono hbw2.size), hleft, by omega⟩
      · go_wp2_with (go_at_fn g; refine cS.mono ?_; rintro e W' ⟨rfl, hb⟩)
        go_ret
        exact ⟨by rw [← hleft] <;> rfl, hbw2.trans (hb.mono hbw2.size)⟩
    · have hnx : ∀ ty, (Instr.next (.pointer (some ⟨w.heap.size, 0, none⟩)) true ty).run Try.prog wr = _ := fun ty => Lib.run_next_end_at wr w.heap.size s pos ty hit hps
      rw [idxFrom_end p truth s gk pos hps] at hleft
      go_wp2
      go_ret
      exact ⟨by rw [← hleft] <;> rfl, hbw⟩
noncomputable def F_strings_indexFunc : FnC Un := fun args => match args with
  | [x0, x1, x2] => (dStr x0).bind fun s => (dF x1).bind fun φ => (dB x2).bind fun t => some ([runesOK φ = true], [.c (.s (.int .i64 (idxF (runeP φ) t s)))], [])
  | _ => none
theorem idxFrom_range (p : Nat → Bool) (t : Bool) (s : ByteArray) : ∀ (f pos : Nat), idxFrom p t s f pos = -1 ∨ ((pos : Int) ≤ idxFrom p t s f pos ∧ idxFrom p t s f pos < s.size)
  | 0, _ => .inl rfl
  | f + 1, pos => by
    simp only [idxFrom]
    split
    · split
      · right; omega
      · rcases idxFrom_range p t s f (pos + (Utf8.decode s pos).2) with h | h
        · exact .inl h
        · right; omega
    · exact .inl rfl
theorem idxF_range (p : Nat → Bool) (t : Bool) (s : ByteArray) : -1 ≤ idxF p t s ∧ idxF p t s ≤ s.size := by
  unfold idxF
  rcases idxFrom_range p t s s.size 0 with h | h <;> omega
theorem ok_strings_indexFunc : FnOK 34 F_strings_indexFunc := by
  intro args ob rs os h hob
  unfold F_strings_indexFunc at h
  split at h
  · rename_i x0 x1 x2
    simp only [Option.bind_eq_some_iff, Option.some.injEq, Prod.mk.injEq] at h
    obtain ⟨s, e0, φ, e1, t, e2, rfl, rfl, rfl⟩ := h
    obtain rfl := dStr_eq e0
    obtain rfl := dF_eq e1
    obtain rfl := dB_eq e2
    have hr := (runesOK_iff φ).1 (hob _ (by simp))
    refine ⟨?_, hasBody_of Try.func34 (by kernel_rfl) (by kernel_rfl)⟩
    intro w St vs hbd hvs
    match vs, hvs with
    | [v0, v1, v2], ⟨h0, ⟨g, caps, e1, hg, hgv⟩, h2, _⟩ =>
      have e0 : v0 = .string s ∧ oneC (.string s) = true := by
        have h0' : VRel En St w v0 (.s (.string s)) := h0
        cases h0' with | s _ h => exact ⟨rfl, h⟩
      have e2 : v2 = .bool t := by
        have h2' : VRel En St w v2 (.s (.bool t)) := h2
        cases h2' with | s _ _ => rfl
      obtain ⟨e0, hsz⟩ := e0
      subst e0; subst e1; subst e2
      have hsz' := oneC_str.1 hsz
      have := indexFunc_walk g caps hg (runeP φ) t s w (fun W x hx hb => by
        have hk : Keeps St w St W := fun b o hs => ⟨hs, Below.cell hb (hbd b o hs)⟩
        have := hgv St W hk (fun b o hs => Nat.lt_of_lt_of_le (hbd b o hs) hb.size) [.v (.s (.int .i32 (x : Nat)))] [] _ (hr x hx) (by simp) [.int .i32 (x : Int)] ⟨.s _ (by
          refine oneC_int.2 ⟨?_, ?_⟩
          · have : IntKind.i32.min = -2147483648 := rfl
            omega
          · have : IntKind.i32.max = 2147483647 := rfl
            omega), trivial⟩
        refine Calls.mono this ?_
        rintro e W' ⟨v, rfl, hext, St', _, _, hrr⟩
        have hv : VRel En St' W' v (.s (.bool (runeP φ x))) := hrr
        cases hv with | s _ _ => exact ⟨rfl, hext⟩)
      refine Calls.mono this ?_
      rintro e w' ⟨rfl, hb⟩
      let gg : G := { β := fun _ => 0, lb := fun _ => False, ω := fun _ _ => none, tk := fun _ => (none, 0) }
      have hin := idxF_range (runeP φ) t s
      refine ⟨_, rfl, hb, gg, fun _ h => h, fun b o x _ h => by simp [gg] at h, fun b o x h => by simp [gg] at h, ⟨rfl, oneC_i64.2 (by omega)⟩, fun k o h => by simp at h⟩
  · simp at h
end Go.Proofs.Ytjmpnpkcgkhagaa.B
namespace Go.Proofs.Ytjmpnpkcgkhagaa.B
open Go Go.RowKit
set_option maxRecDepth 100000
noncomputable section
attribute [local irreducible] awp ctxK itersK iterK retQ retGQ
def M_strings_IndexFunc : Mc Un := mach (tbl [(34, F_strings_indexFunc)]) (tbl []) (tbl []) (tbl []) (tbl [])
def N_strings_IndexFunc : Nat → NS := fun l => (look l []).getD ⟨[], [], [], [], [], false⟩
def A_strings_IndexFunc (r : Int) : List (A Un) := [.c (.s (.int .i64 r))]
def O_strings_IndexFunc (_r : Int) : List (Ob Un) := []
theorem strings_IndexFunc_in (s : ByteArray) (φ : FV Un) (K : List (A Un) → List (Ob Un) → Prop) :
    awp M_strings_IndexFunc N_strings_IndexFunc (bodyOf Try.f26) (entry Try.f26.ntmps 0 [.d (.v (cs s)), .fn φ]) (retQ M_strings_IndexFunc Try.f26.results.toList [.d] K) =
((runesOK φ = true) ∧
(K (A_strings_IndexFunc (idxF (runeP φ) true s)) (O_strings_IndexFunc (idxF (runeP φ) true s)))) := by kernel_rfl
def strings_IndexFunc_fn (s : ByteArray) (φ : FV Un) : Option (Int) :=
  if runesOK φ = true then
   some (idxF (runeP φ) true s)
  else none
theorem strings_IndexFunc_run {s : ByteArray} {φ : FV Un} {r : Int} (h : strings_IndexFunc_fn s φ = some r) : Runs (awp M_strings_IndexFunc N_strings_IndexFunc (bodyOf Try.f26) (entry Try.f26.ntmps 0 [.d (.v (cs s)), .fn φ]) (retQ M_strings_IndexFunc Try.f26.results.toList [.d] fun rs os => rs = A_strings_IndexFunc r ∧ os = O_strings_IndexFunc r)) := by
  constructor
  rw [strings_IndexFunc_in s φ (fun rs os => rs = A_strings_IndexFunc r ∧ os = O_strings_IndexFunc r)]
  unfold strings_IndexFunc_fn at h
  obtain ⟨c1, h2⟩ := ob_some h
  cases h2
  exact (And.intro c1 ⟨rfl, rfl⟩)
def strings_IndexFunc (s : ByteArray) (φ : FV Un) : Int := idxF (runeP φ) true s
theorem strings_IndexFunc_spec (s : ByteArray) (φ : FV Un) (_hs : WStr s) (h : runesOK φ = true) : strings_IndexFunc_fn s φ = some (strings_IndexFunc s φ) := by
  simp [strings_IndexFunc_fn, strings_IndexFunc, h]
def F_strings_IndexFunc : FnC Un := fun args => match args with
  | [x0, x1] => (dStr x0).bind fun s => (dF x1).bind fun φ => some ([runesOK φ = true], A_strings_IndexFunc (strings_IndexFunc s φ), O_strings_IndexFunc (strings_IndexFunc s φ))
  | _ => none
theorem ok_strings_IndexFunc : FnOK 26 F_strings_IndexFunc := by
  intro args ob rs os h hob
  unfold F_strings_IndexFunc at h
  split at h
  · simp only [Option.bind_eq_some_iff, Option.some.injEq, Prod.mk.injEq] at h
    obtain ⟨s, e0, φ, e1, rfl, rfl, rfl⟩ := h
    obtain rfl := dStr_eq e0
    obtain rfl := dF_eq e1
    exact ⟨fn_contract (M := M_strings_IndexFunc) rfl (tbl_ok (l1 := [(34, F_strings_indexFunc)]) (l2 := []) (l3 := []) (l4 := []) (l5 := []) ⟨ok_strings_indexFunc, trivial⟩ trivial trivial trivial trivial) Try.func26 (by kernel_rfl) N_strings_IndexFunc 0 [.d] (fun hwf => strings_IndexFunc_run (strings_IndexFunc_spec s φ (wfArg hwf (a := .d (.v (cs s))) (List.mem_of_getElem? (i := 0) rfl)) (hob _ (List.mem_of_getElem? (i := 0) rfl)))), hasBody_of Try.func26 (by kernel_rfl) (by kernel_rfl)⟩
  · simp at h
end
end Go.Proofs.Ytjmpnpkcgkhagaa.B
