/- Part 7 of the proof: Salg3 Sgraph1 Sgraph2 Sref27b Slaw27g. -/
import Derived.Test.YtmpnompddfhkeaaGreatGL6
namespace Go.Proofs.YtmpnompddfhkeaaGreat.B
open Go Go.RowKit
set_option maxRecDepth 100000
noncomputable section
attribute [local irreducible] awp ctxK itersK iterK retQ retGQ awf ctxF loopF
def envOK (env : List Int) (n : Nat) : Prop := env.length + n ≤ 8000000
def colAt (depth at_ : Int) (env : List Int) : Bool := decide (0 ≤ depth ∧ depth < env.length ∧ 0 ≤ at_ ∧ at_ < env.getD depth.toNat 0)
def manyOK (op type : Int) (name : ByteArray) (n s : Nat) : Bool :=
  (manyN op name).2.2.2 && decide (0 ≤ type ∧ type ≤ 3) && decide ((manyN op name).1 ≤ n) && decide ((manyN op name).2.1 < 0 ∨ (n : Int) ≤ (manyN op name).2.1) && decide ((s : Int) = (manyN op name).2.2.1)
def inW (kids : List Rel) : Int := kids.foldl (fun a k => IntKind.i64.wrap (a + widthR k)) 0
def keysOK (keys : List By) (n : Int) : Bool := keys.all fun k => decide (0 ≤ k.at_ ∧ k.at_ ≤ IntKind.i64.wrap (n - 1))
def rowsOK (rows : List (List Val)) (n : Nat) : Bool := rows.all fun x => decide (x.length = n) && x.all rightV
def aggNm (name : ByteArray) : Bool := cont_str [(ByteArray.mk #[99, 111, 117, 110, 116]), (ByteArray.mk #[115, 117, 109]), (ByteArray.mk #[109, 105, 110]), (ByteArray.mk #[109, 97, 120])] name
def headOK (r : Rel) : Bool := decide (kidsN r.op = r.kids.length) && decide ((r.cols.length : Int) = widthR r) && bareR r
mutual
def termOK : Term → List Int → Bool
  | .mk op v depth at_ name kids sub type, env =>
    manyOK op type name kids.length sub.length &&
    (if op = 1 then rightV v else if op = 2 then colAt depth at_ env else termsOK kids env && subsOK sub env (decide (op = 26 ∨ op = 28)))
def termsOK : List Term → List Int → Bool
  | [], _ => true
  | t :: l, env => termOK t env && termsOK l env
def subsOK : List Rel → List Int → Bool → Bool
  | [], _, _ => true
  | r :: l, env, one => (relOK r env && (!one || widthR r == 1)) && subsOK l env one
def aggOK : Agg → List Int → Bool
  | .mk name distinct t, env => aggNm name && (if t.length = 0 then (name.toList == (ByteArray.mk #[99, 111, 117, 110, 116]).toList) && !distinct else decide (t.length = 1) && termsOK t env)
def aggsOK : List Agg → List Int → Bool
  | [], _ => true
  | a :: l, env => aggOK a env && aggsOK l env
def relOK : Rel → List Int → Bool
  | .mk op table cols kids terms aggs keys limit skip all rows, env =>
    headOK (.mk op table cols kids terms aggs keys limit skip all rows) && relsOK kids env &&
    (if op = 1 then !(table.toList == (ByteArray.mk #[]).toList)
     else if op = 2 then rowsOK rows cols.length
     else if op = 3 ∨ op = 6 then decide (terms.length = 1) && termsOK terms (inW kids :: env)
     else if op = 5 then decide (terms.length ≤ 1) && termsOK terms (inW kids :: env)
     else if op = 4 then termsOK terms (inW kids :: env)
     else if op = 7 then termsOK terms (inW kids :: env) && aggsOK aggs (inW kids :: env)
     else if op = 9 ∨ op = 10 ∨ op = 11 then widthR (kids.getD 0 zeroRel) == widthR (kids.getD 1 zeroRel)
     else if op = 12 then keysOK keys (inW kids)
     else if op = 13 then decide (-1 ≤ limit ∧ limit ≤ 1000000000000000) && decide (0 ≤ skip ∧ skip ≤ 1000000000000000)
     else true)
def relsOK : List Rel → List Int → Bool
  | [], _ => true
  | r :: l, env => relOK r env && relsOK l env
end
theorem termOK_eq (t : Term) (env : List Int) : termOK t env = (manyOK t.op t.type t.name t.kids.length t.sub.length && (if t.op = 1 then rightV t.v else if t.op = 2 then colAt t.depth t.at_ env else termsOK t.kids env && subsOK t.sub env (decide (t.op = 26 ∨ t.op = 28)))) := by cases t; simp only [termOK]; rfl
theorem aggOK_eq (a : Agg) (env : List Int) : aggOK a env = (aggNm a.name && (if a.t.length = 0 then (a.name.toList == (ByteArray.mk #[99, 111, 117, 110, 116]).toList) && !a.distinct else decide (a.t.length = 1) && termsOK a.t env)) := by cases a; simp only [aggOK]; rfl
theorem relOK_eq (r : Rel) (env : List Int) : relOK r env = (headOK r && relsOK r.kids env &&
    (if r.op = 1 then !(r.table.toList == (ByteArray.mk #[]).toList)
     else if r.op = 2 then rowsOK r.rows r.cols.length
     else if r.op = 3 ∨ r.op = 6 then decide (r.terms.length = 1) && termsOK r.terms (inW r.kids :: env)
     else if r.op = 5 then decide (r.terms.length ≤ 1) && termsOK r.terms (inW r.kids :: env)
     else if r.op = 4 then termsOK r.terms (inW r.kids :: env)
     else if r.op = 7 then termsOK r.terms (inW r.kids :: env) && aggsOK r.aggs (inW r.kids :: env)
     else if r.op = 9 ∨ r.op = 10 ∨ r.op = 11 then widthR (r.kids.getD 0 zeroRel) == widthR (r.kids.getD 1 zeroRel)
     else if r.op = 12 then keysOK r.keys (inW r.kids)
     else if r.op = 13 then decide (-1 ≤ r.limit ∧ r.limit ≤ 1000000000000000) && decide (0 ≤ r.skip ∧ r.skip ≤ 1000000000000000)
     else true)) := by cases r; simp only [relOK]; rfl
theorem termsOK_all (env : List Int) : ∀ l : List Term, l.all (fun k => termOK k env) = termsOK l env
  | [] => rfl
  | t :: l => by simp only [List.all_cons, termsOK, termsOK_all env l]
theorem aggsOK_all (env : List Int) : ∀ l : List Agg, l.all (fun k => aggOK k env) = aggsOK l env
  | [] => rfl
  | t :: l => by simp only [List.all_cons, aggsOK, aggsOK_all env l]
theorem relsOK_all (env : List Int) : ∀ l : List Rel, l.all (fun k => relOK k env) = relsOK l env
  | [] => rfl
  | t :: l => by simp only [List.all_cons, relsOK, relsOK_all env l]
theorem subsOK_all (env : List Int) (one : Bool) : ∀ l : List Rel, l.all (fun k => relOK k env && (!one || widthR k == 1)) = subsOK l env one
  | [] => rfl
  | t :: l => by simp only [List.all_cons, subsOK, subsOK_all env one l]
def algebra_Term (t : Term) (env : List Int) : Bool := termOK t env
def algebra_told (a : Agg) (env : List Int) : Bool := aggOK a env
def algebra_Rel (r : Rel) (env : List Int) : Bool := relOK r env
theorem aggT_ht {a : Agg} {k : Term} (h : k ∈ a.t) : k.ht < a.ht := by
  cases a; simp only [Agg.t_mk] at h; simp only [Agg.ht]; have := htTs_mem h; omega
theorem cndO_rc {β : Type} (R : Bool → β) {q x : Bool} : cndO q (some (R x)) (some (R false)) = some (R (q && x)) := by cases q <;> rfl
theorem cndO_rd {β : Type} (R : Bool → β) {q x : Bool} : cndO q (some (R false)) (some (R x)) = some (R (!q && x)) := by cases q <;> rfl
def A_algebra_Term (r : Bool) : List (A Un) := [.c (.s (.bool r))]
def O_algebra_Term (_r : Bool) : List (Ob Un) := []
def Fm_algebra_Term (m : Nat) : FnC Un := fun args => match args with
  | [x0, x1] => (dS .term x0).bind fun t => (dL .int x1).bind fun env => some ([2 * t.ht < m, envOK env t.ht], A_algebra_Term (algebra_Term t env), O_algebra_Term (algebra_Term t env))
  | _ => none
def A_algebra_told (r : Bool) : List (A Un) := [.c (.s (.bool r))]
def O_algebra_told (_r : Bool) : List (Ob Un) := []
def Fm_algebra_told (m : Nat) : FnC Un := fun args => match args with
  | [x0, x1] => (dS .agg x0).bind fun a => (dL .int x1).bind fun env => some ([2 * a.ht + 1 < m, envOK env a.ht], A_algebra_told (algebra_told a env), O_algebra_told (algebra_told a env))
  | _ => none
def A_algebra_Rel (r : Bool) : List (A Un) := [.c (.s (.bool r))]
def O_algebra_Rel (_r : Bool) : List (Ob Un) := []
def Fm_algebra_Rel (m : Nat) : FnC Un := fun args => match args with
  | [x0, x1] => (dS .rel x0).bind fun r => (dL .int x1).bind fun env => some ([2 * r.ht + 1 < m, envOK env r.ht], A_algebra_Rel (algebra_Rel r env), O_algebra_Rel (algebra_Rel r env))
  | _ => none
def M_at1 (m : Nat) : Mc Un := mach (tbl [(31, Fm_algebra_Term m)]) (tbl []) (tbl []) (tbl []) (tbl [])
def A_at1 (r : Bool) : List (A Un) := [.c (.s (.bool r))]
def O_at1 (_r : Bool) : List (Ob Un) := []
def R_at1 (r : Bool) : RF Un := (A_at1 r, O_at1 r)
def N_at1 : Nat → NS := fun l => (look l []).getD ⟨[], [], [], [], []⟩
def at1_fn (m : Nat) (k : Term) (env : List Int) : Option (RF Un) := awf (M_at1 m) N_at1 (bodyOf Tryz.f101) (entry Tryz.f101.ntmps 0 [.d (.agg (enc Ty.term k)), .box [.v (.dat (U := Un) Ty.int env)]]) (retF (M_at1 m) Tryz.f101.results.toList [.d])
theorem at1_in (m : Nat) (k : Term) (env : List Int) : at1_fn m k env =
 obO ((2 : Nat) * (Term.ids k).ht < m)
  (obO (envOK env (Term.ids k).ht)
   (some (R_at1 (algebra_Term (Term.ids k) env)))) := by kernel_rfl
def at1 (k : Term) (env : List Int) : Bool := termOK k env
theorem at1_spec (m : Nat) (k : Term) (env : List Int) (_hk : WS .term k) (_he : WL .int env) (h : 2 * k.ht < m) (h2 : envOK env k.ht) : at1_fn m k env = some (R_at1 (at1 k env)) := by
  rw [at1_in, Term.ids_eq, obO_pos h, obO_pos h2]; rfl
def L_at1 (m : Nat) : List (List (DC Un)) → Option (FV Un) := fun dl => match dl with
  | [b0] => (bL .int b0).bind fun env => some (fvo_S_term_to_b (fun k => (2 * k.ht < m) ∧ (envOK env k.ht)) (fun k => at1 k env))
  | _ => none
theorem okL_at1 (m : Nat) (h_algebra_Term : FnOK 31 (Fm_algebra_Term m)) (h_algebra_told : FnOK 37 (Fm_algebra_told m)) (h_algebra_Rel : FnOK 7 (Fm_algebra_Rel m)) : ClOK 101 (L_at1 m) := by
  refine ⟨hasBody_of Tryz.func101 (by kernel_rfl) (by kernel_rfl), fun dl φ args ob rs hF hφ hob => ?_⟩
  unfold L_at1 at hF
  split at hF
  · simp only [Option.bind_eq_some_iff, Option.some.injEq] at hF
    obtain ⟨env, g0, hE⟩ := hF
    subst hE
    obtain rfl := bL_eq g0
    unfold fvo_S_term_to_b at hφ
    split at hφ
    · simp only [Option.bind_eq_some_iff, Option.some.injEq, Prod.mk.injEq] at hφ
      obtain ⟨k, e0, rfl, rfl⟩ := hφ
      simp only [List.map_cons, List.map_nil, List.cons_append, List.nil_append]
      rw [dS_eq e0]
      exact Contract.data (fn_contractF (M := (M_at1 m)) rfl (tbl_ok (l1 := [(31, Fm_algebra_Term m)]) (l2 := []) (l3 := []) (l4 := []) (l5 := []) ⟨h_algebra_Term, trivial⟩ trivial trivial trivial trivial) Tryz.func101 (by kernel_rfl) N_at1 0 [.d] (fun hwf => (at1_spec m k env (wfArg hwf (a := .d (.agg (enc Ty.term k))) (List.mem_of_getElem? (i := 0) rfl)) (wfArg hwf (a := .box [.v (.dat (U := Un) Ty.int env)]) (List.mem_of_getElem? (i := 1) rfl)) ((hob _ (List.mem_of_getElem? (i := 0) rfl)).1) ((hob _ (List.mem_of_getElem? (i := 0) rfl)).2))))
    · simp at hφ
  · simp at hF
def M_at2 (m : Nat) : Mc Un := mach (tbl [(7, Fm_algebra_Rel m), (24, F_algebra_Width)]) (tbl []) (tbl []) (tbl []) (tbl [])
def A_at2 (r : Bool) : List (A Un) := [.c (.s (.bool r))]
def O_at2 (_r : Bool) : List (Ob Un) := []
def R_at2 (r : Bool) : RF Un := (A_at2 r, O_at2 r)
def N_at2 : Nat → NS := fun l => (look l []).getD ⟨[], [], [], [], []⟩
def at2_fn (m : Nat) (r : Rel) (env : List Int) (one : Bool) : Option (RF Un) := awf (M_at2 m) N_at2 (bodyOf Tryz.f102) (entry Tryz.f102.ntmps 0 [.d (.agg (enc Ty.rel r)), .box [.v (.dat (U := Un) Ty.int env)], .box [.v (cb one)]]) (retF (M_at2 m) Tryz.f102.results.toList [.d])
theorem at2_in (m : Nat) (r : Rel) (env : List Int) (one : Bool) : at2_fn m r env one =
 obO ((2 : Nat) * (Rel.ids r).ht + (1 : Nat) < m)
  (obO (envOK env (Rel.ids r).ht)
   (cndO (algebra_Rel (Rel.ids r) env)
    (cndO (!one)
     (some (R_at2 (true)))
     (some (R_at2 (algebra_Width (Rel.ids r) == 1))))
    (some (R_at2 (false))))) := by kernel_rfl
def at2 (r : Rel) (env : List Int) (one : Bool) : Bool := relOK r env && (!one || widthR r == 1)
theorem at2_spec (m : Nat) (r : Rel) (env : List Int) (one : Bool) (_hr : WS .rel r) (_he : WL .int env) (h : 2 * r.ht + 1 < m) (h2 : envOK env r.ht) : at2_fn m r env one = some (R_at2 (at2 r env one)) := by
  rw [at2_in, Rel.ids_eq, obO_pos h, obO_pos h2, aW_eq]
  unfold at2 algebra_Rel
  cases relOK r env <;> cases one <;> rfl
def L_at2 (m : Nat) : List (List (DC Un)) → Option (FV Un) := fun dl => match dl with
  | [b0, b1] => (bL .int b0).bind fun env => (bB b1).bind fun one => some (fvo_S_rel_to_b (fun r => (2 * r.ht + 1 < m) ∧ (envOK env r.ht)) (fun r => at2 r env one))
  | _ => none
theorem okL_at2 (m : Nat) (h_algebra_Term : FnOK 31 (Fm_algebra_Term m)) (h_algebra_told : FnOK 37 (Fm_algebra_told m)) (h_algebra_Rel : FnOK 7 (Fm_algebra_Rel m)) : ClOK 102 (L_at2 m) := by
  refine ⟨hasBody_of Tryz.func102 (by kernel_rfl) (by kernel_rfl), fun dl φ args ob rs hF hφ hob => ?_⟩
  unfold L_at2 at hF
  split at hF
  · simp only [Option.bind_eq_some_iff, Option.some.injEq] at hF
    obtain ⟨env, g0, one, g1, hE⟩ := hF
    subst hE
    obtain rfl := bL_eq g0
    obtain rfl := bB_eq g1
    unfold fvo_S_rel_to_b at hφ
    split at hφ
    · simp only [Option.bind_eq_some_iff, Option.some.injEq, Prod.mk.injEq] at hφ
      obtain ⟨r, e0, rfl, rfl⟩ := hφ
      simp only [List.map_cons, List.map_nil, List.cons_append, List.nil_append]
      rw [dS_eq e0]
      exact Contract.data (fn_contractF (M := (M_at2 m)) rfl (tbl_ok (l1 := [(7, Fm_algebra_Rel m), (24, F_algebra_Width)]) (l2 := []) (l3 := []) (l4 := []) (l5 := []) ⟨h_algebra_Rel, ok_algebra_Width, trivial⟩ trivial trivial trivial trivial) Tryz.func102 (by kernel_rfl) N_at2 0 [.d] (fun hwf => (at2_spec m r env one (wfArg hwf (a := .d (.agg (enc Ty.rel r))) (List.mem_of_getElem? (i := 0) rfl)) (wfArg hwf (a := .box [.v (.dat (U := Un) Ty.int env)]) (List.mem_of_getElem? (i := 1) rfl)) ((hob _ (List.mem_of_getElem? (i := 0) rfl)).1) ((hob _ (List.mem_of_getElem? (i := 0) rfl)).2))))
    · simp at hφ
  · simp at hF
def M_algebra_Term (m : Nat) : Mc Un := mach (tbl [(99, F_algebra_many), (40, F_algebra_between), (100, F_value_Right), (29, F_ev_term), (26, F_ev_rel)]) (tbl []) (tbl [(101, L_at1 m), (102, L_at2 m)]) (tbl []) (tbl [])
def R_algebra_Term (r : Bool) : RF Un := (A_algebra_Term r, O_algebra_Term r)
def N_algebra_Term : Nat → NS := fun l => (look l []).getD ⟨[], [], [], [], []⟩
def algebra_Term_fn (m : Nat) (t : Term) (env : List Int) : Option (RF Un) := awf (M_algebra_Term m) N_algebra_Term (bodyOf Tryz.f31) (entry Tryz.f31.ntmps 0 [.d (.agg (enc Ty.term t)), .d (.v (.dat (U := Un) Ty.int env))]) (retF (M_algebra_Term m) Tryz.f31.results.toList [.d])
def algebra_Term_t1 (m : Nat) (t : Term) (env : List Int) : Option (RF Un) :=
 cndO ((↑t.sub.length : Int) != (algebra_many (Term.ids t)).snd.snd.fst)
  (some (R_algebra_Term (false)))
  (cndO (t.op == 1)
   (some (R_algebra_Term (value_Right t.v)))
   (cndO (t.op == 2)
    (cndO (algebra_between t.depth (0 : Int) (IntKind.i64.wrap ((↑env.length : Int) - (1 : Int))))
     (cndO (decide (t.at_ ≥ 0))
      (obO (0 ≤ t.depth ∧ t.depth < (↑env.length : Int))
       (some (R_algebra_Term (decide (t.at_ < env.getD t.depth.toNat (0 : Int))))))
      (some (R_algebra_Term (false))))
     (some (R_algebra_Term (false))))
    (cndO (t.op == 26)
     (obO ((fvo_S_term_to_b (fun k => (2 : Nat) * k.ht < m ∧ envOK env k.ht) fun k => at1 k env) = fvo_S_term_to_b (po_S_term_to_b (fvo_S_term_to_b (fun k => (2 : Nat) * k.ht < m ∧ envOK env k.ht) fun k => at1 k env)) (pf_S_term_to_b (fvo_S_term_to_b (fun k => (2 : Nat) * k.ht < m ∧ envOK env k.ht) fun k => at1 k env)))
      (obO (allO_term (po_S_term_to_b (fvo_S_term_to_b (fun k => (2 : Nat) * k.ht < m ∧ envOK env k.ht) fun k => at1 k env)) t.kids)
       (cndO (ev_term t.kids (po_S_term_to_b (fvo_S_term_to_b (fun k => (2 : Nat) * k.ht < m ∧ envOK env k.ht) fun k => at1 k env)) (pf_S_term_to_b (fvo_S_term_to_b (fun k => (2 : Nat) * k.ht < m ∧ envOK env k.ht) fun k => at1 k env)))
        (obO ((fvo_S_rel_to_b (fun r => (2 : Nat) * r.ht + (1 : Nat) < m ∧ envOK env r.ht) fun r => at2 r env true) = fvo_S_rel_to_b (po_S_rel_to_b (fvo_S_rel_to_b (fun r => (2 : Nat) * r.ht + (1 : Nat) < m ∧ envOK env r.ht) fun r => at2 r env true)) (pf_S_rel_to_b (fvo_S_rel_to_b (fun r => (2 : Nat) * r.ht + (1 : Nat) < m ∧ envOK env r.ht) fun r => at2 r env true)))
         (obO (allO_rel (po_S_rel_to_b (fvo_S_rel_to_b (fun r => (2 : Nat) * r.ht + (1 : Nat) < m ∧ envOK env r.ht) fun r => at2 r env true)) t.sub)
          (some (R_algebra_Term (ev_rel t.sub (po_S_rel_to_b (fvo_S_rel_to_b (fun r => (2 : Nat) * r.ht + (1 : Nat) < m ∧ envOK env r.ht) fun r => at2 r env true)) (pf_S_rel_to_b (fvo_S_rel_to_b (fun r => (2 : Nat) * r.ht + (1 : Nat) < m ∧ envOK env r.ht) fun r => at2 r env true)))))))
        (some (R_algebra_Term (false))))))
     (obO ((fvo_S_term_to_b (fun k => (2 : Nat) * k.ht < m ∧ envOK env k.ht) fun k => at1 k env) = fvo_S_term_to_b (po_S_term_to_b (fvo_S_term_to_b (fun k => (2 : Nat) * k.ht < m ∧ envOK env k.ht) fun k => at1 k env)) (pf_S_term_to_b (fvo_S_term_to_b (fun k => (2 : Nat) * k.ht < m ∧ envOK env k.ht) fun k => at1 k env)))
      (obO (allO_term (po_S_term_to_b (fvo_S_term_to_b (fun k => (2 : Nat) * k.ht < m ∧ envOK env k.ht) fun k => at1 k env)) t.kids)
       (cndO (ev_term t.kids (po_S_term_to_b (fvo_S_term_to_b (fun k => (2 : Nat) * k.ht < m ∧ envOK env k.ht) fun k => at1 k env)) (pf_S_term_to_b (fvo_S_term_to_b (fun k => (2 : Nat) * k.ht < m ∧ envOK env k.ht) fun k => at1 k env)))
        (obO ((fvo_S_rel_to_b (fun r => (2 : Nat) * r.ht + (1 : Nat) < m ∧ envOK env r.ht) fun r => at2 r env (t.op == 28)) = fvo_S_rel_to_b (po_S_rel_to_b (fvo_S_rel_to_b (fun r => (2 : Nat) * r.ht + (1 : Nat) < m ∧ envOK env r.ht) fun r => at2 r env (t.op == 28))) (pf_S_rel_to_b (fvo_S_rel_to_b (fun r => (2 : Nat) * r.ht + (1 : Nat) < m ∧ envOK env r.ht) fun r => at2 r env (t.op == 28))))
         (obO (allO_rel (po_S_rel_to_b (fvo_S_rel_to_b (fun r => (2 : Nat) * r.ht + (1 : Nat) < m ∧ envOK env r.ht) fun r => at2 r env (t.op == 28))) t.sub)
          (some (R_algebra_Term (ev_rel t.sub (po_S_rel_to_b (fvo_S_rel_to_b (fun r => (2 : Nat) * r.ht + (1 : Nat) < m ∧ envOK env r.ht) fun r => at2 r env (t.op == 28))) (pf_S_rel_to_b (fvo_S_rel_to_b (fun r => (2 : Nat) * r.ht + (1 : Nat) < m ∧ envOK env r.ht) fun r => at2 r env (t.op == 28))))))))
        (some (R_algebra_Term (false)))))))))
theorem algebra_Term_in (m : Nat) (t : Term) (env : List Int) : algebra_Term_fn m t env =
 cndO (!(algebra_many (Term.ids t)).snd.snd.snd)
  (some (R_algebra_Term (false)))
  (cndO (!algebra_between t.type (0 : Int) (3 : Int))
   (some (R_algebra_Term (false)))
   (cndO (decide ((↑t.kids.length : Int) < (algebra_many (Term.ids t)).fst))
    (some (R_algebra_Term (false)))
    (cndO (decide ((algebra_many (Term.ids t)).snd.fst ≥ 0))
     (cndO (decide ((↑t.kids.length : Int) > (algebra_many (Term.ids t)).snd.fst))
      (some (R_algebra_Term (false)))
      (algebra_Term_t1 m t env))
     (algebra_Term_t1 m t env)))) := by kernel_rfl
theorem algebra_Term_spec (m : Nat) (t : Term) (env : List Int) (_ht : WS .term t) (he : WL .int env) (h : 2 * t.ht < m + 1) (h2 : envOK env t.ht) : algebra_Term_fn m t env = some (R_algebra_Term (algebra_Term t env)) := by
  have hlen := he.len
  have o1 : allO_term (fun k => 2 * k.ht < m ∧ envOK env k.ht) t.kids := fun x hx => by
    have := Term.ht_kid hx
    unfold envOK at h2 ⊢
    exact ⟨by omega, by omega⟩
  have o2 : allO_rel (fun r => 2 * r.ht + 1 < m ∧ envOK env r.ht) t.sub := fun x hx => by
    have := Term.ht_sub hx
    unfold envOK at h2 ⊢
    exact ⟨by omega, by omega⟩
  have e1 : algebra_Term_t1 m t env = some (R_algebra_Term (decide ((t.sub.length : Int) = (manyN t.op t.name).2.2.1) && (if t.op = 1 then rightV t.v else if t.op = 2 then colAt t.depth t.at_ env else termsOK t.kids env && subsOK t.sub env (decide (t.op = 26 ∨ t.op = 28))))) := by
    unfold algebra_Term_t1
    simp only [Term.ids_eq, pofvo_S_term_to_b, pffvo_S_term_to_b, pofvo_S_rel_to_b, pffvo_S_rel_to_b]
    have p0 : ∀ x : Option (RF Un), obO True x = x := fun x => obO_pos trivial
    have p1 : ∀ x : Option (RF Un), obO (allO_term (fun k => 2 * k.ht < m ∧ envOK env k.ht) t.kids) x = x := fun x => obO_pos o1
    have p2 : ∀ x : Option (RF Un), obO (allO_rel (fun r => 2 * r.ht + 1 < m ∧ envOK env r.ht) t.sub) x = x := fun x => obO_pos o2
    simp only [p0, p1, p2, cndO_rc]
    unfold ev_term ev_rel at1 at2 algebra_many value_Right
    simp only [termsOK_all, subsOK_all]
    by_cases hs : (t.sub.length : Int) = (manyN t.op t.name).2.2.1
    · rw [decide_eq_true hs, Bool.true_and, cndO_eq, if_neg (by simpa using hs), cndO_eq]
      by_cases h1 : t.op = 1
      · rw [if_pos (by simpa using h1), if_pos h1]
      rw [if_neg (by simpa using h1), if_neg h1, cndO_eq]
      by_cases h3 : t.op = 2
      · rw [if_pos (by simpa using h3), if_pos h3, between_eq, wrap_id (by omega)]
        by_cases h4 : 0 ≤ t.depth ∧ t.depth ≤ (env.length : Int) - 1
        · rw [decide_eq_true h4, cndO_eq, if_pos rfl, obO_pos (by omega), cndO_rc]
          congr 2
          unfold colAt
          rw [Bool.eq_iff_iff, Bool.and_eq_true, decide_eq_true_eq, decide_eq_true_eq, decide_eq_true_eq]
          constructor
          · rintro ⟨a, b⟩; exact ⟨h4.1, by omega, a, b⟩
          · rintro ⟨_, _, a, b⟩; exact ⟨a, b⟩
        · rw [decide_eq_false h4, cndO_eq, if_neg (by decide)]
          congr 2
          unfold colAt
          symm
          rw [decide_eq_false_iff_not]
          rintro ⟨a, b, _⟩; exact h4 ⟨a, by omega⟩
      · rw [if_neg (by simpa using h3), if_neg h3, cndO_eq]
        by_cases h5 : t.op = 26
        · rw [if_pos (by simpa using h5), decide_eq_true (show t.op = 26 ∨ t.op = 28 from .inl h5)]
        · rw [if_neg (by simpa using h5)]
          have : (t.op == 28) = decide (t.op = 26 ∨ t.op = 28) := by
            rw [Bool.eq_iff_iff, beq_iff_eq, decide_eq_true_eq]; omega
          rw [this]
    · rw [decide_eq_false hs, Bool.false_and, cndO_eq, if_pos (by simpa using hs)]
  rw [algebra_Term_in, e1, between_eq, Term.ids_eq]
  unfold algebra_Term algebra_many
  rw [termOK_eq]
  unfold manyOK
  generalize (manyN t.op t.name).2.2.2 = b1
  generalize (if t.op = 1 then rightV t.v else if t.op = 2 then colAt t.depth t.at_ env else termsOK t.kids env && subsOK t.sub env (decide (t.op = 26 ∨ t.op = 28))) = b2
  generalize (manyN t.op t.name).1 = n1
  generalize (manyN t.op t.name).2.1 = n2
  generalize decide ((t.sub.length : Int) = (manyN t.op t.name).2.2.1) = b3
  rw [cndO_rd]
  by_cases hn : n2 ≥ 0
  · rw [show decide (n2 ≥ 0) = true from decide_eq_true hn]
    have : decide (n2 < 0 ∨ (t.kids.length : Int) ≤ n2) = !decide ((t.kids.length : Int) > n2) := by
      rw [← decide_not, decide_eq_decide]; omega
    have e4 : decide (n1 ≤ (t.kids.length : Int)) = !decide ((t.kids.length : Int) < n1) := by rw [← decide_not, decide_eq_decide]; omega
    rw [this, e4]
    cases b1 <;> cases decide (0 ≤ t.type ∧ t.type ≤ 3) <;> cases decide ((t.kids.length : Int) < n1) <;> cases decide ((t.kids.length : Int) > n2) <;> cases b3 <;> rfl
  · rw [show decide (n2 ≥ 0) = false from decide_eq_false hn]
    have : decide (n2 < 0 ∨ (t.kids.length : Int) ≤ n2) = true := by rw [decide_eq_true_eq]; omega
    have e4 : decide (n1 ≤ (t.kids.length : Int)) = !decide ((t.kids.length : Int) < n1) := by rw [← decide_not, decide_eq_decide]; omega
    rw [this, e4]
    cases b1 <;> cases decide (0 ≤ t.type ∧ t.type ≤ 3) <;> cases decide ((t.kids.length : Int) < n1) <;> cases b3 <;> rfl
theorem okm_algebra_Term (m : Nat) (h_algebra_Term : FnOK 31 (Fm_algebra_Term m)) (h_algebra_told : FnOK 37 (Fm_algebra_told m)) (h_algebra_Rel : FnOK 7 (Fm_algebra_Rel m)) : FnOK 31 (Fm_algebra_Term (m + 1)) := by
  intro args ob rs os h hob
  unfold Fm_algebra_Term at h
  split at h
  · simp only [Option.bind_eq_some_iff, Option.some.injEq, Prod.mk.injEq] at h
    obtain ⟨t, e0, env, e1, rfl, rfl, rfl⟩ := h
    obtain rfl := dS_eq e0
    obtain rfl := dL_eq e1
    exact ⟨fn_contractF (M := (M_algebra_Term m)) rfl (tbl_ok (l1 := [(99, F_algebra_many), (40, F_algebra_between), (100, F_value_Right), (29, F_ev_term), (26, F_ev_rel)]) (l2 := []) (l3 := [(101, L_at1 m), (102, L_at2 m)]) (l4 := []) (l5 := []) ⟨ok_algebra_many, ok_algebra_between, ok_value_Right, ok_ev_term, ok_ev_rel, trivial⟩ trivial ⟨(okL_at1 m h_algebra_Term h_algebra_told h_algebra_Rel), (okL_at2 m h_algebra_Term h_algebra_told h_algebra_Rel), trivial⟩ trivial trivial) Tryz.func31 (by kernel_rfl) N_algebra_Term 0 [.d] (fun hwf => (algebra_Term_spec m t env (wfArg hwf (a := .d (.agg (enc Ty.term t))) (List.mem_of_getElem? (i := 0) rfl)) (wfArg hwf (a := .d (.v (.dat (U := Un) Ty.int env))) (List.mem_of_getElem? (i := 1) rfl)) (hob _ (List.mem_of_getElem? (i := 0) rfl)) (hob _ (List.mem_of_getElem? (i := 1) rfl)))), hasBody_of Tryz.func31 (by kernel_rfl) (by kernel_rfl)⟩
  · simp at h
def M_algebra_told (m : Nat) : Mc Un := mach (tbl [(109, F_cont_str), (31, Fm_algebra_Term m)]) (tbl []) (tbl []) (tbl []) (tbl [])
def R_algebra_told (r : Bool) : RF Un := (A_algebra_told r, O_algebra_told r)
def N_algebra_told : Nat → NS := fun l => (look l []).getD ⟨[], [], [], [], []⟩
def algebra_told_fn (m : Nat) (a : Agg) (env : List Int) : Option (RF Un) := awf (M_algebra_told m) N_algebra_told (bodyOf Tryz.f37) (entry Tryz.f37.ntmps 0 [.d (.agg (enc Ty.agg a)), .d (.v (.dat (U := Un) Ty.int env))]) (retF (M_algebra_told m) Tryz.f37.results.toList [.d])
theorem algebra_told_in (m : Nat) (a : Agg) (env : List Int) : algebra_told_fn m a env =
 cndO (!cont_str [(ByteArray.mk #[99, 111, 117, 110, 116]), (ByteArray.mk #[115, 117, 109]), (ByteArray.mk #[109, 105, 110]), (ByteArray.mk #[109, 97, 120])] a.name)
  (some (R_algebra_told (false)))
  (cndO ((↑a.t.length : Int) == (0 : Int))
   (cndO (a.name.toList == (ByteArray.mk #[99, 111, 117, 110, 116]).toList)
    (some (R_algebra_told (!a.distinct)))
    (some (R_algebra_told (false))))
   (cndO ((↑a.t.length : Int) == (1 : Int))
    (obO ((0 : Int) ≤ (0 : Int) ∧ (0 : Int) < (↑a.t.length : Int))
     (obO ((2 : Nat) * (Term.ids (a.t.getD 0 zeroTerm)).ht < m)
      (obO (envOK env (Term.ids (a.t.getD 0 zeroTerm)).ht)
       (some (R_algebra_told (algebra_Term (Term.ids (a.t.getD 0 zeroTerm)) env))))))
    (some (R_algebra_told (false))))) := by kernel_rfl
theorem algebra_told_spec (m : Nat) (a : Agg) (env : List Int) (_ha : WS .agg a) (_he : WL .int env) (h : 2 * a.ht + 1 < m + 1) (h2 : envOK env a.ht) : algebra_told_fn m a env = some (R_algebra_told (algebra_told a env)) := by
  rw [algebra_told_in]
  unfold algebra_told
  rw [aggOK_eq, Term.ids_eq]
  unfold algebra_Term
  show cndO (!aggNm a.name) _ _ = _
  cases aggNm a.name
  · rfl
  · rw [Bool.true_and]
    simp only [Bool.not_true]
    show cndO ((a.t.length : Int) == 0) _ _ = _
    by_cases h0 : a.t.length = 0
    · rw [if_pos h0, cndO_eq, if_pos (by rw [h0]; rfl), cndO_rc]
    · rw [if_neg h0, cndO_eq, if_neg (by simpa using h0)]
      by_cases h1 : a.t.length = 1
      · have hm := getD_mem (d := zeroTerm) (i := 0) (l := a.t) (by omega)
        have hh := aggT_ht hm
        have e : a.t = [a.t.getD 0 zeroTerm] := by
          cases hl : a.t with
          | nil => rw [hl] at h0; simp at h0
          | cons x l =>
            rw [hl] at h1
            cases l with
            | nil => rfl
            | cons y l => simp at h1
        rw [decide_eq_true h1, Bool.true_and, cndO_eq, if_pos (by rw [h1]; rfl), obO_pos (by omega), obO_pos (by omega), obO_pos (by unfold envOK at h2 ⊢; omega)]
        congr 2
        conv => rhs; rw [e]
        simp only [termsOK, Bool.and_true]
      · rw [decide_eq_false h1, Bool.false_and, cndO_eq, if_neg (by simp; omega)]
theorem okm_algebra_told (m : Nat) (h_algebra_Term : FnOK 31 (Fm_algebra_Term m)) (h_algebra_told : FnOK 37 (Fm_algebra_told m)) (h_algebra_Rel : FnOK 7 (Fm_algebra_Rel m)) : FnOK 37 (Fm_algebra_told (m + 1)) := by
  intro args ob rs os h hob
  unfold Fm_algebra_told at h
  split at h
  · simp only [Option.bind_eq_some_iff, Option.some.injEq, Prod.mk.injEq] at h
    obtain ⟨a, e0, env, e1, rfl, rfl, rfl⟩ := h
    obtain rfl := dS_eq e0
    obtain rfl := dL_eq e1
    exact ⟨fn_contractF (M := (M_algebra_told m)) rfl (tbl_ok (l1 := [(109, F_cont_str), (31, Fm_algebra_Term m)]) (l2 := []) (l3 := []) (l4 := []) (l5 := []) ⟨ok_cont_str, h_algebra_Term, trivial⟩ trivial trivial trivial trivial) Tryz.func37 (by kernel_rfl) N_algebra_told 0 [.d] (fun hwf => (algebra_told_spec m a env (wfArg hwf (a := .d (.agg (enc Ty.agg a))) (List.mem_of_getElem? (i := 0) rfl)) (wfArg hwf (a := .d (.v (.dat (U := Un) Ty.int env))) (List.mem_of_getElem? (i := 1) rfl)) (hob _ (List.mem_of_getElem? (i := 0) rfl)) (hob _ (List.mem_of_getElem? (i := 1) rfl)))), hasBody_of Tryz.func37 (by kernel_rfl) (by kernel_rfl)⟩
  · simp at h
def M_ar1 (m : Nat) : Mc Un := mach (tbl [(7, Fm_algebra_Rel m)]) (tbl []) (tbl []) (tbl []) (tbl [])
def A_ar1 (r : Bool) : List (A Un) := [.c (.s (.bool r))]
def O_ar1 (_r : Bool) : List (Ob Un) := []
def R_ar1 (r : Bool) : RF Un := (A_ar1 r, O_ar1 r)
def N_ar1 : Nat → NS := fun l => (look l []).getD ⟨[], [], [], [], []⟩
def ar1_fn (m : Nat) (k : Rel) (env : List Int) : Option (RF Un) := awf (M_ar1 m) N_ar1 (bodyOf Tryz.f27) (entry Tryz.f27.ntmps 0 [.d (.agg (enc Ty.rel k)), .box [.v (.dat (U := Un) Ty.int env)]]) (retF (M_ar1 m) Tryz.f27.results.toList [.d])
theorem ar1_in (m : Nat) (k : Rel) (env : List Int) : ar1_fn m k env =
 obO ((2 : Nat) * (Rel.ids k).ht + (1 : Nat) < m)
  (obO (envOK env (Rel.ids k).ht)
   (some (R_ar1 (algebra_Rel (Rel.ids k) env)))) := by kernel_rfl
def ar1 (k : Rel) (env : List Int) : Bool := relOK k env
theorem ar1_spec (m : Nat) (k : Rel) (env : List Int) (_hk : WS .rel k) (_he : WL .int env) (h : 2 * k.ht + 1 < m) (h2 : envOK env k.ht) : ar1_fn m k env = some (R_ar1 (ar1 k env)) := by
  rw [ar1_in, Rel.ids_eq, obO_pos h, obO_pos h2]; rfl
def L_ar1 (m : Nat) : List (List (DC Un)) → Option (FV Un) := fun dl => match dl with
  | [b0] => (bL .int b0).bind fun env => some (fvo_S_rel_to_b (fun k => (2 * k.ht + 1 < m) ∧ (envOK env k.ht)) (fun k => ar1 k env))
  | _ => none
theorem okL_ar1 (m : Nat) (h_algebra_Term : FnOK 31 (Fm_algebra_Term m)) (h_algebra_told : FnOK 37 (Fm_algebra_told m)) (h_algebra_Rel : FnOK 7 (Fm_algebra_Rel m)) : ClOK 27 (L_ar1 m) := by
  refine ⟨hasBody_of Tryz.func27 (by kernel_rfl) (by kernel_rfl), fun dl φ args ob rs hF hφ hob => ?_⟩
  unfold L_ar1 at hF
  split at hF
  · simp only [Option.bind_eq_some_iff, Option.some.injEq] at hF
    obtain ⟨env, g0, hE⟩ := hF
    subst hE
    obtain rfl := bL_eq g0
    unfold fvo_S_rel_to_b at hφ
    split at hφ
    · simp only [Option.bind_eq_some_iff, Option.some.injEq, Prod.mk.injEq] at hφ
      obtain ⟨k, e0, rfl, rfl⟩ := hφ
      simp only [List.map_cons, List.map_nil, List.cons_append, List.nil_append]
      rw [dS_eq e0]
      exact Contract.data (fn_contractF (M := (M_ar1 m)) rfl (tbl_ok (l1 := [(7, Fm_algebra_Rel m)]) (l2 := []) (l3 := []) (l4 := []) (l5 := []) ⟨h_algebra_Rel, trivial⟩ trivial trivial trivial trivial) Tryz.func27 (by kernel_rfl) N_ar1 0 [.d] (fun hwf => (ar1_spec m k env (wfArg hwf (a := .d (.agg (enc Ty.rel k))) (List.mem_of_getElem? (i := 0) rfl)) (wfArg hwf (a := .box [.v (.dat (U := Un) Ty.int env)]) (List.mem_of_getElem? (i := 1) rfl)) ((hob _ (List.mem_of_getElem? (i := 0) rfl)).1) ((hob _ (List.mem_of_getElem? (i := 0) rfl)).2))))
    · simp at hφ
  · simp at hF
def M_ar21 (m : Nat) : Mc Un := mach (tbl [(31, Fm_algebra_Term m)]) (tbl []) (tbl []) (tbl []) (tbl [])
def A_ar21 (r : Bool) : List (A Un) := [.c (.s (.bool r))]
def O_ar21 (_r : Bool) : List (Ob Un) := []
def R_ar21 (r : Bool) : RF Un := (A_ar21 r, O_ar21 r)
def N_ar21 : Nat → NS := fun l => (look l []).getD ⟨[], [], [], [], []⟩
def ar21_fn (m : Nat) (t : Term) (under : List Int) : Option (RF Un) := awf (M_ar21 m) N_ar21 (bodyOf Tryz.f30) (entry Tryz.f30.ntmps 0 [.d (.agg (enc Ty.term t)), .box [.v (.dat (U := Un) Ty.int under)]]) (retF (M_ar21 m) Tryz.f30.results.toList [.d])
theorem ar21_in (m : Nat) (t : Term) (under : List Int) : ar21_fn m t under =
 obO ((2 : Nat) * (Term.ids t).ht < m)
  (obO (envOK under (Term.ids t).ht)
   (some (R_ar21 (algebra_Term (Term.ids t) under)))) := by kernel_rfl
def ar21 (t : Term) (under : List Int) : Bool := termOK t under
theorem ar21_spec (m : Nat) (t : Term) (under : List Int) (_ht : WS .term t) (_he : WL .int under) (h : 2 * t.ht < m) (h2 : envOK under t.ht) : ar21_fn m t under = some (R_ar21 (ar21 t under)) := by
  rw [ar21_in, Term.ids_eq, obO_pos h, obO_pos h2]; rfl
def L_ar21 (m : Nat) : List (List (DC Un)) → Option (FV Un) := fun dl => match dl with
  | [b0] => (bL .int b0).bind fun under => some (fvo_S_term_to_b (fun t => (2 * t.ht < m) ∧ (envOK under t.ht)) (fun t => ar21 t under))
  | _ => none
theorem okL_ar21 (m : Nat) (h_algebra_Term : FnOK 31 (Fm_algebra_Term m)) (h_algebra_told : FnOK 37 (Fm_algebra_told m)) (h_algebra_Rel : FnOK 7 (Fm_algebra_Rel m)) : ClOK 30 (L_ar21 m) := by
  refine ⟨hasBody_of Tryz.func30 (by kernel_rfl) (by kernel_rfl), fun dl φ args ob rs hF hφ hob => ?_⟩
  unfold L_ar21 at hF
  split at hF
  · simp only [Option.bind_eq_some_iff, Option.some.injEq] at hF
    obtain ⟨under, g0, hE⟩ := hF
    subst hE
    obtain rfl := bL_eq g0
    unfold fvo_S_term_to_b at hφ
    split at hφ
    · simp only [Option.bind_eq_some_iff, Option.some.injEq, Prod.mk.injEq] at hφ
      obtain ⟨t, e0, rfl, rfl⟩ := hφ
      simp only [List.map_cons, List.map_nil, List.cons_append, List.nil_append]
      rw [dS_eq e0]
      exact Contract.data (fn_contractF (M := (M_ar21 m)) rfl (tbl_ok (l1 := [(31, Fm_algebra_Term m)]) (l2 := []) (l3 := []) (l4 := []) (l5 := []) ⟨h_algebra_Term, trivial⟩ trivial trivial trivial trivial) Tryz.func30 (by kernel_rfl) N_ar21 0 [.d] (fun hwf => (ar21_spec m t under (wfArg hwf (a := .d (.agg (enc Ty.term t))) (List.mem_of_getElem? (i := 0) rfl)) (wfArg hwf (a := .box [.v (.dat (U := Un) Ty.int under)]) (List.mem_of_getElem? (i := 1) rfl)) ((hob _ (List.mem_of_getElem? (i := 0) rfl)).1) ((hob _ (List.mem_of_getElem? (i := 0) rfl)).2))))
    · simp at hφ
  · simp at hF
def M_ar2 (m : Nat) : Mc Un := mach (tbl [(29, F_ev_term)]) (tbl []) (tbl [(30, L_ar21 m)]) (tbl []) (tbl [])
def A_ar2 (r : Bool) : List (A Un) := [.c (.s (.bool r))]
def O_ar2 (_r : Bool) : List (Ob Un) := []
def R_ar2 (r : Bool) : RF Un := (A_ar2 r, O_ar2 r)
def N_ar2 : Nat → NS := fun l => (look l []).getD ⟨[], [], [], [], []⟩
def ar2_fn (m : Nat) (least : Int) (most : Int) (r : Rel) (under : List Int) : Option (RF Un) := awf (M_ar2 m) N_ar2 (bodyOf Tryz.f28) (entry Tryz.f28.ntmps 0 [.d (.v (.s (.int .i64 least))), .d (.v (.s (.int .i64 most))), .box ((enc Ty.rel r).map .v), .box [.v (.dat (U := Un) Ty.int under)]]) (retF (M_ar2 m) Tryz.f28.results.toList [.d])
theorem ar2_in (m : Nat) (least : Int) (most : Int) (r : Rel) (under : List Int) : ar2_fn m least most r under =
 cndO (decide ((↑r.terms.length : Int) ≥ least))
  (cndO (decide ((↑r.terms.length : Int) ≤ most))
   (obO ((fvo_S_term_to_b (fun t => (2 : Nat) * t.ht < m ∧ envOK under t.ht) fun t => ar21 t under) = fvo_S_term_to_b (po_S_term_to_b (fvo_S_term_to_b (fun t => (2 : Nat) * t.ht < m ∧ envOK under t.ht) fun t => ar21 t under)) (pf_S_term_to_b (fvo_S_term_to_b (fun t => (2 : Nat) * t.ht < m ∧ envOK under t.ht) fun t => ar21 t under)))
    (obO (allO_term (po_S_term_to_b (fvo_S_term_to_b (fun t => (2 : Nat) * t.ht < m ∧ envOK under t.ht) fun t => ar21 t under)) r.terms)
     (some (R_ar2 (ev_term r.terms (po_S_term_to_b (fvo_S_term_to_b (fun t => (2 : Nat) * t.ht < m ∧ envOK under t.ht) fun t => ar21 t under)) (pf_S_term_to_b (fvo_S_term_to_b (fun t => (2 : Nat) * t.ht < m ∧ envOK under t.ht) fun t => ar21 t under)))))))
   (some (R_ar2 (false))))
  (some (R_ar2 (false))) := by kernel_rfl
def ar2 (least most : Int) (r : Rel) (under : List Int) : Bool := decide ((r.terms.length : Int) ≥ least) && (decide ((r.terms.length : Int) ≤ most) && termsOK r.terms under)
theorem ar2_spec (m : Nat) (least most : Int) (r : Rel) (under : List Int) (_hl : WI least) (_hm : WI most) (_hr : WS .rel r) (_he : WL .int under) (h : 2 * htTs r.terms < m) (h2 : envOK under (htTs r.terms)) : ar2_fn m least most r under = some (R_ar2 (ar2 least most r under)) := by
  have o1 : allO_term (fun t => 2 * t.ht < m ∧ envOK under t.ht) r.terms := fun x hx => by
    have := htTs_mem hx
    unfold envOK at h2 ⊢
    exact ⟨by omega, by omega⟩
  rw [ar2_in]
  simp only [pofvo_S_term_to_b, pffvo_S_term_to_b]
  rw [obO_pos trivial, obO_pos o1]
  simp only [cndO_rc]
  unfold ar2 ev_term ar21
  rw [termsOK_all]
def L_ar2 (m : Nat) : List (List (DC Un)) → Option (FV Un) := fun dl => match dl with
  | [b0, b1] => (bS .rel b0).bind fun r => (bL .int b1).bind fun under => some (fvo_i_i64_i_i64_to_b (fun least most => (2 * htTs r.terms < m) ∧ (envOK under (htTs r.terms))) (fun least most => ar2 least most r under))
  | _ => none
theorem okL_ar2 (m : Nat) (h_algebra_Term : FnOK 31 (Fm_algebra_Term m)) (h_algebra_told : FnOK 37 (Fm_algebra_told m)) (h_algebra_Rel : FnOK 7 (Fm_algebra_Rel m)) : ClOK 28 (L_ar2 m) := by
  refine ⟨hasBody_of Tryz.func28 (by kernel_rfl) (by kernel_rfl), fun dl φ args ob rs hF hφ hob => ?_⟩
  unfold L_ar2 at hF
  split at hF
  · simp only [Option.bind_eq_some_iff, Option.some.injEq] at hF
    obtain ⟨r, g0, under, g1, hE⟩ := hF
    subst hE
    obtain rfl := bS_eq g0
    obtain rfl := bL_eq g1
    unfold fvo_i_i64_i_i64_to_b at hφ
    split at hφ
    · simp only [Option.bind_eq_some_iff, Option.some.injEq, Prod.mk.injEq] at hφ
      obtain ⟨least, e0, most, e1, rfl, rfl⟩ := hφ
      simp only [List.map_cons, List.map_nil, List.cons_append, List.nil_append]
      rw [dI_eq e0]
      rw [dI_eq e1]
      exact Contract.data (fn_contractF (M := (M_ar2 m)) rfl (tbl_ok (l1 := [(29, F_ev_term)]) (l2 := []) (l3 := [(30, L_ar21 m)]) (l4 := []) (l5 := []) ⟨ok_ev_term, trivial⟩ trivial ⟨(okL_ar21 m h_algebra_Term h_algebra_told h_algebra_Rel), trivial⟩ trivial trivial) Tryz.func28 (by kernel_rfl) N_ar2 0 [.d] (fun hwf => (ar2_spec m least most r under (wfArg hwf (a := .d (.v (.s (.int .i64 least)))) (List.mem_of_getElem? (i := 0) rfl)) (wfArg hwf (a := .d (.v (.s (.int .i64 most)))) (List.mem_of_getElem? (i := 1) rfl)) (wfArg hwf (a := .box ((enc Ty.rel r).map .v)) (List.mem_of_getElem? (i := 2) rfl)) (wfArg hwf (a := .box [.v (.dat (U := Un) Ty.int under)]) (List.mem_of_getElem? (i := 3) rfl)) ((hob _ (List.mem_of_getElem? (i := 0) rfl)).1) ((hob _ (List.mem_of_getElem? (i := 0) rfl)).2))))
    · simp at hφ
  · simp at hF
def M_ar3 (_m : Nat) : Mc Un := mach (tbl [(34, F_value_Rights)]) (tbl []) (tbl []) (tbl []) (tbl [])
def A_ar3 (r : Bool) : List (A Un) := [.c (.s (.bool r))]
def O_ar3 (_r : Bool) : List (Ob Un) := []
def R_ar3 (r : Bool) : RF Un := (A_ar3 r, O_ar3 r)
def N_ar3 : Nat → NS := fun l => (look l []).getD ⟨[], [], [], [], []⟩
def ar3_fn (m : Nat) (x : List Val) (r : Rel) : Option (RF Un) := awf (M_ar3 m) N_ar3 (bodyOf Tryz.f33) (entry Tryz.f33.ntmps 0 [.d (.v (.dat (U := Un) Ty.val x)), .box ((enc Ty.rel r).map .v)]) (retF (M_ar3 m) Tryz.f33.results.toList [.d])
theorem ar3_in (m : Nat) (x : List Val) (r : Rel) : ar3_fn m x r =
 cndO ((↑x.length : Int) == (↑r.cols.length : Int))
  (some (R_ar3 (value_Rights x)))
  (some (R_ar3 (false))) := by kernel_rfl
def ar3 (x : List Val) (r : Rel) : Bool := decide (x.length = r.cols.length) && x.all rightV
theorem ar3_spec (m : Nat) (x : List Val) (r : Rel) (_hx : WL .val x) (_hr : WS .rel r) (_h : True) : ar3_fn m x r = some (R_ar3 (ar3 x r)) := by
  rw [ar3_in]
  simp only [cndO_rc]
  unfold ar3 value_Rights
  congr 3
  rw [Bool.eq_iff_iff, beq_iff_eq, decide_eq_true_eq]; omega
def L_ar3 (_m : Nat) : List (List (DC Un)) → Option (FV Un) := fun dl => match dl with
  | [b0] => (bS .rel b0).bind fun r => some (fvo_L_val_to_b (fun x => True) (fun x => ar3 x r))
  | _ => none
theorem okL_ar3 (m : Nat) (h_algebra_Term : FnOK 31 (Fm_algebra_Term m)) (h_algebra_told : FnOK 37 (Fm_algebra_told m)) (h_algebra_Rel : FnOK 7 (Fm_algebra_Rel m)) : ClOK 33 (L_ar3 m) := by
  refine ⟨hasBody_of Tryz.func33 (by kernel_rfl) (by kernel_rfl), fun dl φ args ob rs hF hφ hob => ?_⟩
  unfold L_ar3 at hF
  split at hF
  · simp only [Option.bind_eq_some_iff, Option.some.injEq] at hF
    obtain ⟨r, g0, hE⟩ := hF
    subst hE
    obtain rfl := bS_eq g0
    unfold fvo_L_val_to_b at hφ
    split at hφ
    · simp only [Option.bind_eq_some_iff, Option.some.injEq, Prod.mk.injEq] at hφ
      obtain ⟨x, e0, rfl, rfl⟩ := hφ
      simp only [List.map_cons, List.map_nil, List.cons_append, List.nil_append]
      rw [dL_eq e0]
      exact Contract.data (fn_contractF (M := (M_ar3 m)) rfl (tbl_ok (l1 := [(34, F_value_Rights)]) (l2 := []) (l3 := []) (l4 := []) (l5 := []) ⟨ok_value_Rights, trivial⟩ trivial trivial trivial trivial) Tryz.func33 (by kernel_rfl) N_ar3 0 [.d] (fun hwf => (ar3_spec m x r (wfArg hwf (a := .d (.v (.dat (U := Un) Ty.val x))) (List.mem_of_getElem? (i := 0) rfl)) (wfArg hwf (a := .box ((enc Ty.rel r).map .v)) (List.mem_of_getElem? (i := 1) rfl)) (hob _ (List.mem_of_getElem? (i := 0) rfl)))))
    · simp at hφ
  · simp at hF
def M_ar4 (m : Nat) : Mc Un := mach (tbl [(37, Fm_algebra_told m)]) (tbl []) (tbl []) (tbl []) (tbl [])
def A_ar4 (r : Bool) : List (A Un) := [.c (.s (.bool r))]
def O_ar4 (_r : Bool) : List (Ob Un) := []
def R_ar4 (r : Bool) : RF Un := (A_ar4 r, O_ar4 r)
def N_ar4 : Nat → NS := fun l => (look l []).getD ⟨[], [], [], [], []⟩
def ar4_fn (m : Nat) (a : Agg) (under : List Int) : Option (RF Un) := awf (M_ar4 m) N_ar4 (bodyOf Tryz.f36) (entry Tryz.f36.ntmps 0 [.d (.agg (enc Ty.agg a)), .box [.v (.dat (U := Un) Ty.int under)]]) (retF (M_ar4 m) Tryz.f36.results.toList [.d])
theorem ar4_in (m : Nat) (a : Agg) (under : List Int) : ar4_fn m a under =
 obO ((2 : Nat) * (Agg.ids a).ht + (1 : Nat) < m)
  (obO (envOK under (Agg.ids a).ht)
   (some (R_ar4 (algebra_told (Agg.ids a) under)))) := by kernel_rfl
def ar4 (a : Agg) (under : List Int) : Bool := aggOK a under
theorem ar4_spec (m : Nat) (a : Agg) (under : List Int) (_ha : WS .agg a) (_he : WL .int under) (h : 2 * a.ht + 1 < m) (h2 : envOK under a.ht) : ar4_fn m a under = some (R_ar4 (ar4 a under)) := by
  rw [ar4_in, Agg.ids_eq, obO_pos h, obO_pos h2]; rfl
def L_ar4 (m : Nat) : List (List (DC Un)) → Option (FV Un) := fun dl => match dl with
  | [b0] => (bL .int b0).bind fun under => some (fvo_S_agg_to_b (fun a => (2 * a.ht + 1 < m) ∧ (envOK under a.ht)) (fun a => ar4 a under))
  | _ => none
theorem okL_ar4 (m : Nat) (h_algebra_Term : FnOK 31 (Fm_algebra_Term m)) (h_algebra_told : FnOK 37 (Fm_algebra_told m)) (h_algebra_Rel : FnOK 7 (Fm_algebra_Rel m)) : ClOK 36 (L_ar4 m) := by
  refine ⟨hasBody_of Tryz.func36 (by kernel_rfl) (by kernel_rfl), fun dl φ args ob rs hF hφ hob => ?_⟩
  unfold L_ar4 at hF
  split at hF
  · simp only [Option.bind_eq_some_iff, Option.some.injEq] at hF
    obtain ⟨under, g0, hE⟩ := hF
    subst hE
    obtain rfl := bL_eq g0
    unfold fvo_S_agg_to_b at hφ
    split at hφ
    · simp only [Option.bind_eq_some_iff, Option.some.injEq, Prod.mk.injEq] at hφ
      obtain ⟨a, e0, rfl, rfl⟩ := hφ
      simp only [List.map_cons, List.map_nil, List.cons_append, List.nil_append]
      rw [dS_eq e0]
      exact Contract.data (fn_contractF (M := (M_ar4 m)) rfl (tbl_ok (l1 := [(37, Fm_algebra_told m)]) (l2 := []) (l3 := []) (l4 := []) (l5 := []) ⟨h_algebra_told, trivial⟩ trivial trivial trivial trivial) Tryz.func36 (by kernel_rfl) N_ar4 0 [.d] (fun hwf => (ar4_spec m a under (wfArg hwf (a := .d (.agg (enc Ty.agg a))) (List.mem_of_getElem? (i := 0) rfl)) (wfArg hwf (a := .box [.v (.dat (U := Un) Ty.int under)]) (List.mem_of_getElem? (i := 1) rfl)) ((hob _ (List.mem_of_getElem? (i := 0) rfl)).1) ((hob _ (List.mem_of_getElem? (i := 0) rfl)).2))))
    · simp at hφ
  · simp at hF
def M_ar5 (_m : Nat) : Mc Un := mach (tbl [(40, F_algebra_between)]) (tbl []) (tbl []) (tbl []) (tbl [])
def A_ar5 (r : Bool) : List (A Un) := [.c (.s (.bool r))]
def O_ar5 (_r : Bool) : List (Ob Un) := []
def R_ar5 (r : Bool) : RF Un := (A_ar5 r, O_ar5 r)
def N_ar5 : Nat → NS := fun l => (look l []).getD ⟨[], [], [], [], []⟩
def ar5_fn (m : Nat) (k : By) (in_ : Int) : Option (RF Un) := awf (M_ar5 m) N_ar5 (bodyOf Tryz.f39) (entry Tryz.f39.ntmps 0 [.d (.agg (enc Ty.by_ k)), .box [.v (.s (.int .i64 in_))]]) (retF (M_ar5 m) Tryz.f39.results.toList [.d])
theorem ar5_in (m : Nat) (k : By) (in_ : Int) : ar5_fn m k in_ =
 some (R_ar5 (algebra_between k.at_ (0 : Int) (IntKind.i64.wrap (in_ - 1)))) := by kernel_rfl
def ar5 (k : By) (in_ : Int) : Bool := decide (0 ≤ k.at_ ∧ k.at_ ≤ IntKind.i64.wrap (in_ - 1))
theorem ar5_spec (m : Nat) (k : By) (in_ : Int) (_hk : WS .by_ k) (_hi : WI in_) (_h : True) : ar5_fn m k in_ = some (R_ar5 (ar5 k in_)) := by
  rw [ar5_in, between_eq]; rfl
def L_ar5 (_m : Nat) : List (List (DC Un)) → Option (FV Un) := fun dl => match dl with
  | [b0] => (bI .i64 b0).bind fun in_ => some (fvo_S_by__to_b (fun k => True) (fun k => ar5 k in_))
  | _ => none
theorem okL_ar5 (m : Nat) (h_algebra_Term : FnOK 31 (Fm_algebra_Term m)) (h_algebra_told : FnOK 37 (Fm_algebra_told m)) (h_algebra_Rel : FnOK 7 (Fm_algebra_Rel m)) : ClOK 39 (L_ar5 m) := by
  refine ⟨hasBody_of Tryz.func39 (by kernel_rfl) (by kernel_rfl), fun dl φ args ob rs hF hφ hob => ?_⟩
  unfold L_ar5 at hF
  split at hF
  · simp only [Option.bind_eq_some_iff, Option.some.injEq] at hF
    obtain ⟨in_, g0, hE⟩ := hF
    subst hE
    obtain rfl := bI_eq g0
    unfold fvo_S_by__to_b at hφ
    split at hφ
    · simp only [Option.bind_eq_some_iff, Option.some.injEq, Prod.mk.injEq] at hφ
      obtain ⟨k, e0, rfl, rfl⟩ := hφ
      simp only [List.map_cons, List.map_nil, List.cons_append, List.nil_append]
      rw [dS_eq e0]
      exact Contract.data (fn_contractF (M := (M_ar5 m)) rfl (tbl_ok (l1 := [(40, F_algebra_between)]) (l2 := []) (l3 := []) (l4 := []) (l5 := []) ⟨ok_algebra_between, trivial⟩ trivial trivial trivial trivial) Tryz.func39 (by kernel_rfl) N_ar5 0 [.d] (fun hwf => (ar5_spec m k in_ (wfArg hwf (a := .d (.agg (enc Ty.by_ k))) (List.mem_of_getElem? (i := 0) rfl)) (wfArg hwf (a := .box [.v (.s (.int .i64 in_))]) (List.mem_of_getElem? (i := 1) rfl)) (hob _ (List.mem_of_getElem? (i := 0) rfl)))))
    · simp at hφ
  · simp at hF
def M_algebra_Rel (m : Nat) : Mc Un := mach (tbl [(23, F_algebra_kids), (24, F_algebra_Width), (25, F_algebra_bare), (26, F_ev_rel), (32, F_ev_row), (35, F_ev_agg), (38, F_ev_by_), (40, F_algebra_between)]) (tbl []) (tbl [(27, L_ar1 m), (28, L_ar2 m), (33, L_ar3 m), (36, L_ar4 m), (39, L_ar5 m)]) (tbl []) (tbl [])
def R_algebra_Rel (r : Bool) : RF Un := (A_algebra_Rel r, O_algebra_Rel r)
def N_algebra_Rel : Nat → NS := fun l => (look l [(5, { ts := bl 127 1924145348652, bs := bl 127 44, nm := [] })]).getD ⟨[], [], [], [], []⟩
def algebra_Rel_c1 (m : Nat) (r : Rel) (env : List Int) (v1 : Int) := ev_agg r.aggs (po_S_agg_to_b (fvo_S_agg_to_b (fun a => (2 : Nat) * a.ht + (1 : Nat) < m ∧ envOK (v1 :: env) a.ht) fun a => ar4 a (v1 :: env))) (pf_S_agg_to_b (fvo_S_agg_to_b (fun a => (2 : Nat) * a.ht + (1 : Nat) < m ∧ envOK (v1 :: env) a.ht) fun a => ar4 a (v1 :: env)))
def algebra_Rel_c2 (r : Rel) (v1 : Int) := ev_by_ r.keys (po_S_by__to_b (fvo_S_by__to_b (fun k => True) fun k => ar5 k v1)) (pf_S_by__to_b (fvo_S_by__to_b (fun k => True) fun k => ar5 k v1))
def algebra_Rel_c3 (r : Rel) := algebra_between r.limit (-1 : Int) (1000000000000000 : Int)
def algebra_Rel_s5 (r : Rel) (env : List Int) (v0 : Int) (v1 : Int) : S Un := (st 127 127 508 0 [(2, ax 2), (3, ax 3), (5, ax 5), (38, al .rel r.kids), (39, ai (↑r.kids.length : Int)), (40, ai v0)] [(2, bg .rel r), (3, some (true, [C.sl Ty.int env false])), (5, bi v1)] [])
def algebra_Rel_B5 : Code := sub (bodyOf Tryz.f7) [1, 1, 1, 0, 1, 2, 2]
def algebra_Rel_L5 (m : Nat) : S Un → Option (EX Un) := loopF (N_algebra_Rel 5) (fun s Q => awf (M_algebra_Rel m) N_algebra_Rel algebra_Rel_B5 s Q)
def algebra_Rel_C5 (m : Nat) : Exit → S Un → Option (RF Un) := ctxF (M_algebra_Rel m) N_algebra_Rel (bodyOf Tryz.f7) [1, 1, 1, 0, 1, 2] (retF (M_algebra_Rel m) Tryz.f7.results.toList [.d])
def algebra_Rel_fn (m : Nat) (r : Rel) (env : List Int) : Option (RF Un) := awf (M_algebra_Rel m) N_algebra_Rel (bodyOf Tryz.f7) (entry Tryz.f7.ntmps 0 [.d (.agg (enc Ty.rel r)), .d (.v (.dat (U := Un) Ty.int env))]) (retF (M_algebra_Rel m) Tryz.f7.results.toList [.d])
theorem algebra_Rel_in (m : Nat) (r : Rel) (env : List Int) : algebra_Rel_fn m r env =
 cndO (algebra_kids r.op != (↑r.kids.length : Int))
  (some (R_algebra_Rel (false)))
  (cndO ((↑r.cols.length : Int) != algebra_Width (Rel.ids r))
   (some (R_algebra_Rel (false)))
   (cndO (!algebra_bare (Rel.ids r))
    (some (R_algebra_Rel (false)))
    (obO ((fvo_S_rel_to_b (fun k => (2 : Nat) * k.ht + (1 : Nat) < m ∧ envOK env k.ht) fun k => ar1 k env) = fvo_S_rel_to_b (po_S_rel_to_b (fvo_S_rel_to_b (fun k => (2 : Nat) * k.ht + (1 : Nat) < m ∧ envOK env k.ht) fun k => ar1 k env)) (pf_S_rel_to_b (fvo_S_rel_to_b (fun k => (2 : Nat) * k.ht + (1 : Nat) < m ∧ envOK env k.ht) fun k => ar1 k env)))
     (obO (allO_rel (po_S_rel_to_b (fvo_S_rel_to_b (fun k => (2 : Nat) * k.ht + (1 : Nat) < m ∧ envOK env k.ht) fun k => ar1 k env)) r.kids)
      (cndO (!ev_rel r.kids (po_S_rel_to_b (fvo_S_rel_to_b (fun k => (2 : Nat) * k.ht + (1 : Nat) < m ∧ envOK env k.ht) fun k => ar1 k env)) (pf_S_rel_to_b (fvo_S_rel_to_b (fun k => (2 : Nat) * k.ht + (1 : Nat) < m ∧ envOK env k.ht) fun k => ar1 k env)))
       (some (R_algebra_Rel (false)))
       ((algebra_Rel_L5 m (algebra_Rel_s5 r env (0 : Int) (0 : Int))).bind (thenX (algebra_Rel_C5 m)))))))) := by kernel_rfl
theorem algebra_Rel_l5 (m : Nat) (r : Rel) (env : List Int) (v0 : Int) (v1 : Int) : algebra_Rel_L5 m (algebra_Rel_s5 r env v0 v1) =
 cndO (decide (v0 < (↑r.kids.length : Int)))
  (obO (0 ≤ v0 ∧ v0 < (↑r.kids.length : Int))
   (algebra_Rel_L5 m (algebra_Rel_s5 r env (IntKind.i64.wrap (v0 + 1)) (IntKind.i64.wrap (v1 + algebra_Width (Rel.ids (r.kids.getD v0.toNat zeroRel)))))))
  (some (.exit 0, (algebra_Rel_s5 r env v0 v1))) := (loopF_eq (N_algebra_Rel 5) algebra_Rel_B5 _).trans (by kernel_rfl)
def algebra_Rel_t1 (m : Nat) (r : Rel) (env : List Int) (v1 : Int) : Option (RF Un) :=
 obO ((2 : Nat) * htTs r.terms < m ∧ envOK (v1 :: env) (htTs r.terms))
  (some (R_algebra_Rel (ar2 (1 : Int) (1 : Int) (Rel.ids r) (v1 :: env))))
def algebra_Rel_t2 (r : Rel) : Option (RF Un) :=
 obO ((0 : Int) ≤ (0 : Int) ∧ (0 : Int) < (↑r.kids.length : Int))
  (obO ((0 : Int) ≤ (1 : Int) ∧ (1 : Int) < (↑r.kids.length : Int))
   (some (R_algebra_Rel (algebra_Width (Rel.ids (r.kids.getD 0 zeroRel)) == algebra_Width (Rel.ids (r.kids.getD 1 zeroRel))))))
def algebra_Rel_t3 (r : Rel) (v1 : Int) : Option (RF Un) :=
 cndO (r.op == 12)
  (obO ((fvo_S_by__to_b (fun k => True) fun k => ar5 k v1) = fvo_S_by__to_b (po_S_by__to_b (fvo_S_by__to_b (fun k => True) fun k => ar5 k v1)) (pf_S_by__to_b (fvo_S_by__to_b (fun k => True) fun k => ar5 k v1)))
   (obO (allO_by_ (po_S_by__to_b (fvo_S_by__to_b (fun k => True) fun k => ar5 k v1)) r.keys)
    (some (R_algebra_Rel (algebra_Rel_c2 r v1)))))
  (cndO (r.op == 13)
   (cndO (algebra_Rel_c3 r)
    (some (R_algebra_Rel (algebra_between r.skip (0 : Int) (1000000000000000 : Int))))
    (some (R_algebra_Rel (false))))
   (some (R_algebra_Rel (true))))
def algebra_Rel_t4 (m : Nat) (r : Rel) (env : List Int) (v1 : Int) : Option (RF Un) :=
 cndO (r.op == 5)
  (obO ((2 : Nat) * htTs r.terms < m ∧ envOK (v1 :: env) (htTs r.terms))
   (some (R_algebra_Rel (ar2 (0 : Int) (1 : Int) (Rel.ids r) (v1 :: env)))))
  (cndO (r.op == 4)
   (obO ((2 : Nat) * htTs r.terms < m ∧ envOK (v1 :: env) (htTs r.terms))
    (some (R_algebra_Rel (ar2 (0 : Int) (↑r.terms.length : Int) (Rel.ids r) (v1 :: env)))))
   (cndO (r.op == 7)
    (obO ((2 : Nat) * htTs r.terms < m ∧ envOK (v1 :: env) (htTs r.terms))
     (cndO (ar2 (0 : Int) (↑r.terms.length : Int) (Rel.ids r) (v1 :: env))
      (obO ((fvo_S_agg_to_b (fun a => (2 : Nat) * a.ht + (1 : Nat) < m ∧ envOK (v1 :: env) a.ht) fun a => ar4 a (v1 :: env)) = fvo_S_agg_to_b (po_S_agg_to_b (fvo_S_agg_to_b (fun a => (2 : Nat) * a.ht + (1 : Nat) < m ∧ envOK (v1 :: env) a.ht) fun a => ar4 a (v1 :: env))) (pf_S_agg_to_b (fvo_S_agg_to_b (fun a => (2 : Nat) * a.ht + (1 : Nat) < m ∧ envOK (v1 :: env) a.ht) fun a => ar4 a (v1 :: env))))
       (obO (allO_agg (po_S_agg_to_b (fvo_S_agg_to_b (fun a => (2 : Nat) * a.ht + (1 : Nat) < m ∧ envOK (v1 :: env) a.ht) fun a => ar4 a (v1 :: env))) r.aggs)
        (some (R_algebra_Rel (algebra_Rel_c1 m r env v1)))))
      (some (R_algebra_Rel (false)))))
    (cndO (r.op == 9)
     (cndO (r.op == 9)
      (algebra_Rel_t2 r)
      (algebra_Rel_t3 r v1))
     (cndO (r.op == 10)
      (cndO (r.op == 10)
       (algebra_Rel_t2 r)
       (algebra_Rel_t3 r v1))
      (cndO (r.op == 11)
       (algebra_Rel_t2 r)
       (algebra_Rel_t3 r v1))))))
theorem algebra_Rel_a5_x0 (m : Nat) (r : Rel) (env : List Int) (v0 : Int) (v1 : Int) : algebra_Rel_C5 m (.exit 0) (algebra_Rel_s5 r env v0 v1) =
 obO (([v1].length + env.length) * (8 : Nat) ≤ roomB)
  (cndO (r.op == 1)
   (some (R_algebra_Rel (!r.table.toList == (ByteArray.mk #[]).toList)))
   (cndO (r.op == 2)
    (obO ((fvo_L_val_to_b (fun x => True) fun x => ar3 x (Rel.ids r)) = fvo_L_val_to_b (po_L_val_to_b (fvo_L_val_to_b (fun x => True) fun x => ar3 x (Rel.ids r))) (pf_L_val_to_b (fvo_L_val_to_b (fun x => True) fun x => ar3 x (Rel.ids r))))
     (obO (allO_row (po_L_val_to_b (fvo_L_val_to_b (fun x => True) fun x => ar3 x (Rel.ids r))) r.rows)
      (some (R_algebra_Rel (ev_row r.rows (po_L_val_to_b (fvo_L_val_to_b (fun x => True) fun x => ar3 x (Rel.ids r))) (pf_L_val_to_b (fvo_L_val_to_b (fun x => True) fun x => ar3 x (Rel.ids r))))))))
    (cndO (r.op == 3)
     (cndO (r.op == 3)
      (algebra_Rel_t1 m r env v1)
      (algebra_Rel_t4 m r env v1))
     (cndO (r.op == 6)
      (algebra_Rel_t1 m r env v1)
      (algebra_Rel_t4 m r env v1))))) := by kernel_rfl
theorem inW_loop (m : Nat) (r : Rel) (env : List Int) (hr : WS .rel r) : algebra_Rel_L5 m (algebra_Rel_s5 r env (0 : Int) (0 : Int)) = some (.exit 0, algebra_Rel_s5 r env (r.kids.length : Int) (inW r.kids)) := by
  obtain ⟨lp, _⟩ := loop_fold (e := .exit 0) (L := algebra_Rel_L5 m) (st := fun (a : Int) i => algebra_Rel_s5 r env i a) (l := r.kids) (d := zeroRel) (g := fun a k => IntKind.i64.wrap (a + widthR k)) (fun _ _ => True) (hr.rel_kids).len
    (fun a i x hi hx _ => by
      refine ⟨trivial, ?_⟩
      rw [algebra_Rel_l5]
      simp only [Rel.ids_eq, aW_eq, cndO_eq, hi, decide_true, if_true, and_true, Int.toNat_natCast, hx]
      rw [obO_pos (by omega)])
    (fun a _ => by rw [algebra_Rel_l5]; simp [cndO_eq]) 0 trivial
  exact lp
theorem algebra_Rel_spec (m : Nat) (r : Rel) (env : List Int) (hr : WS .rel r) (he : WL .int env) (h : 2 * r.ht + 1 < m + 1) (h2 : envOK env r.ht) : algebra_Rel_fn m r env = some (R_algebra_Rel (algebra_Rel r env)) := by
  have hk : htTs r.terms < r.ht ∧ htAs r.aggs < r.ht ∧ htRs r.kids < r.ht := by cases r; simp only [Rel.ht, Rel.kids_mk, Rel.terms_mk, Rel.aggs_mk]; omega
  have h2' := h2
  unfold envOK at h2'
  have o1 : allO_rel (fun k => 2 * k.ht + 1 < m ∧ envOK env k.ht) r.kids := fun x hx => by
    have := Rel.ht_kid hx
    unfold envOK
    exact ⟨by omega, by omega⟩
  have o2 : ∀ v, allO_agg (fun a => 2 * a.ht + 1 < m ∧ envOK (v :: env) a.ht) r.aggs := fun v x hx => by
    have := Rel.ht_agg hx
    unfold envOK
    rw [List.length_cons]
    exact ⟨by omega, by omega⟩
  have ov : ∀ v, envOK (v :: env) (htTs r.terms) := fun v => by unfold envOK; rw [List.length_cons]; omega
  rw [algebra_Rel_in]
  simp only [Rel.ids_eq, pofvo_S_rel_to_b, pffvo_S_rel_to_b]
  rw [obO_pos trivial, obO_pos o1, loop_end (inW_loop m r env hr), algebra_Rel_a5_x0, obO_pos (by unfold roomB; simp only [List.length_cons, List.length_nil]; omega)]
  have t1 : ∀ v, algebra_Rel_t1 m r env v = some (R_algebra_Rel (decide (r.terms.length = 1) && termsOK r.terms (v :: env))) := by
    intro v
    unfold algebra_Rel_t1 ar2
    rw [Rel.ids_eq, obO_pos ⟨by omega, ov v⟩, ← Bool.and_assoc]
    congr 3
    rw [Bool.eq_iff_iff, Bool.and_eq_true, decide_eq_true_eq, decide_eq_true_eq, decide_eq_true_eq]; omega
  have t2 : r.kids.length = 2 → algebra_Rel_t2 r = some (R_algebra_Rel (widthR (r.kids.getD 0 zeroRel) == widthR (r.kids.getD 1 zeroRel))) := by
    intro hl
    unfold algebra_Rel_t2
    rw [obO_pos (by omega), obO_pos (by omega), Rel.ids_eq, Rel.ids_eq, aW_eq, aW_eq]
  have t3 : ∀ v, algebra_Rel_t3 r v = some (R_algebra_Rel (if r.op = 12 then keysOK r.keys v else if r.op = 13 then decide (-1 ≤ r.limit ∧ r.limit ≤ 1000000000000000) && decide (0 ≤ r.skip ∧ r.skip ≤ 1000000000000000) else true)) := by
    intro v
    unfold algebra_Rel_t3 algebra_Rel_c2 algebra_Rel_c3 ev_by_ ar5 keysOK
    simp only [pofvo_S_by__to_b, pffvo_S_by__to_b, between_eq, cndO_rc]
    rw [obO_pos trivial, obO_pos (show allO_by_ _ _ from fun _ _ => trivial), cndO_eq, cndO_eq]
    by_cases h12 : r.op = 12
    · rw [if_pos (by simpa using h12), if_pos h12]
    · rw [if_neg (by simpa using h12), if_neg h12]
      by_cases h13 : r.op = 13
      · rw [if_pos (by simpa using h13), if_pos h13]
      · rw [if_neg (by simpa using h13), if_neg h13]
  have hr2 : algebra_Rel r env = relOK r env := rfl
  rw [hr2, relOK_eq]
  unfold headOK ev_rel ar1
  rw [relsOK_all, aK_eq, aW_eq]
  by_cases hh : ¬ kidsN r.op = (r.kids.length : Int)
  · rw [decide_eq_false hh]
    simp only [Bool.false_and]
    rw [cndO_eq, if_pos (by simpa using hh)]
  replace hh := Classical.not_not.1 hh
  rw [decide_eq_true hh, cndO_eq, if_neg (by simpa using hh)]
  simp only [Bool.true_and]
  by_cases hw : ¬ (r.cols.length : Int) = widthR r
  · rw [decide_eq_false hw]
    simp only [Bool.false_and]
    rw [cndO_eq, if_pos (by simpa using hw)]
  replace hw := Classical.not_not.1 hw
  rw [decide_eq_true hw, cndO_eq, if_neg (by simpa using hw)]
  simp only [Bool.true_and]
  show cndO (!bareR r) _ _ = _
  cases bareR r
  · rfl
  cases relsOK r.kids env
  · rfl
  simp only [Bool.not_true, Bool.true_and]
  show cndO (r.op == 1) _ _ = _
  rw [cndO_eq]
  by_cases h1 : r.op = 1
  · rw [if_pos (by simpa using h1), if_pos h1]
  rw [if_neg (by simpa using h1), if_neg h1, cndO_eq]
  by_cases h2' : r.op = 2
  · rw [if_pos (by simpa using h2'), if_pos h2']
    simp only [pofvo_L_val_to_b, pffvo_L_val_to_b]
    rw [obO_pos trivial, obO_pos (show allO_row _ _ from fun _ _ => trivial)]
    unfold ev_row ar3 rowsOK
    rfl
  rw [if_neg (by simpa using h2'), if_neg h2']
  rw [cndO_or1, cndO_eq, t1]
  by_cases h3 : r.op = 3 ∨ r.op = 6
  · rw [if_pos (by simpa using h3), if_pos h3]
  rw [if_neg (by simpa using h3), if_neg h3]
  unfold algebra_Rel_t4 ar2
  rw [cndO_eq]
  by_cases h5 : r.op = 5
  · rw [if_pos (by simpa using h5), if_pos h5, obO_pos ⟨by omega, ov _⟩, Rel.ids_eq]
    congr 2
    rw [← Bool.and_assoc]
    congr 1
    rw [Bool.eq_iff_iff, Bool.and_eq_true, decide_eq_true_eq, decide_eq_true_eq, decide_eq_true_eq]; omega
  rw [if_neg (by simpa using h5), if_neg h5, cndO_eq]
  have hx : ∀ v, (decide ((r.terms.length : Int) ≥ 0) && (decide ((r.terms.length : Int) ≤ (r.terms.length : Int)) && termsOK r.terms (v :: env))) = termsOK r.terms (v :: env) := by
    intro v
    rw [decide_eq_true (show (r.terms.length : Int) ≥ 0 by omega), decide_eq_true (Int.le_refl _), Bool.true_and, Bool.true_and]
  by_cases h4 : r.op = 4
  · rw [if_pos (by simpa using h4), if_pos h4, obO_pos ⟨by omega, ov _⟩, Rel.ids_eq, hx]
  rw [if_neg (by simpa using h4), if_neg h4, cndO_eq]
  by_cases h7 : r.op = 7
  · unfold algebra_Rel_c1 ev_agg ar4
    simp only [pofvo_S_agg_to_b, pffvo_S_agg_to_b, Rel.ids_eq]
    rw [if_pos (by simpa using h7), if_pos h7, obO_pos ⟨by omega, ov _⟩, obO_pos trivial, obO_pos (o2 _), hx, cndO_rc, aggsOK_all]
  rw [if_neg (by simpa using h7), if_neg h7, t3, cndO_or1, cndO_or1, cndO_eq]
  by_cases h9 : r.op = 9 ∨ r.op = 10 ∨ r.op = 11
  · have : kidsN r.op = 2 := by rcases h9 with e | e | e <;> rw [e] <;> rfl
    rw [if_pos (by simpa using h9), if_pos h9, t2 (by omega)]
  rw [if_neg (by simpa using h9), if_neg h9]
theorem okm_algebra_Rel (m : Nat) (h_algebra_Term : FnOK 31 (Fm_algebra_Term m)) (h_algebra_told : FnOK 37 (Fm_algebra_told m)) (h_algebra_Rel : FnOK 7 (Fm_algebra_Rel m)) : FnOK 7 (Fm_algebra_Rel (m + 1)) := by
  intro args ob rs os h hob
  unfold Fm_algebra_Rel at h
  split at h
  · simp only [Option.bind_eq_some_iff, Option.some.injEq, Prod.mk.injEq] at h
    obtain ⟨r, e0, env, e1, rfl, rfl, rfl⟩ := h
    obtain rfl := dS_eq e0
    obtain rfl := dL_eq e1
    exact ⟨fn_contractF (M := (M_algebra_Rel m)) rfl (tbl_ok (l1 := [(23, F_algebra_kids), (24, F_algebra_Width), (25, F_algebra_bare), (26, F_ev_rel), (32, F_ev_row), (35, F_ev_agg), (38, F_ev_by_), (40, F_algebra_between)]) (l2 := []) (l3 := [(27, L_ar1 m), (28, L_ar2 m), (33, L_ar3 m), (36, L_ar4 m), (39, L_ar5 m)]) (l4 := []) (l5 := []) ⟨ok_algebra_kids, ok_algebra_Width, ok_algebra_bare, ok_ev_rel, ok_ev_row, ok_ev_agg, ok_ev_by_, ok_algebra_between, trivial⟩ trivial ⟨(okL_ar1 m h_algebra_Term h_algebra_told h_algebra_Rel), (okL_ar2 m h_algebra_Term h_algebra_told h_algebra_Rel), (okL_ar3 m h_algebra_Term h_algebra_told h_algebra_Rel), (okL_ar4 m h_algebra_Term h_algebra_told h_algebra_Rel), (okL_ar5 m h_algebra_Term h_algebra_told h_algebra_Rel), trivial⟩ trivial trivial) Tryz.func7 (by kernel_rfl) N_algebra_Rel 0 [.d] (fun hwf => (algebra_Rel_spec m r env (wfArg hwf (a := .d (.agg (enc Ty.rel r))) (List.mem_of_getElem? (i := 0) rfl)) (wfArg hwf (a := .d (.v (.dat (U := Un) Ty.int env))) (List.mem_of_getElem? (i := 1) rfl)) (hob _ (List.mem_of_getElem? (i := 0) rfl)) (hob _ (List.mem_of_getElem? (i := 1) rfl)))), hasBody_of Tryz.func7 (by kernel_rfl) (by kernel_rfl)⟩
  · simp at h
theorem okAll_algG : ∀ m, FnOK 31 (Fm_algebra_Term m) ∧ FnOK 37 (Fm_algebra_told m) ∧ FnOK 7 (Fm_algebra_Rel m)
  | 0 => by
    refine ⟨?_, ?_, ?_⟩
    · intro args ob rs os h hob
      unfold Fm_algebra_Term at h
      split at h
      · simp only [Option.bind_eq_some_iff, Option.some.injEq, Prod.mk.injEq] at h
        obtain ⟨_, _, _, _, rfl, _, _⟩ := h
        exact absurd (hob _ (List.mem_of_getElem? (i := 0) rfl)) (Nat.not_lt_zero _)
      · simp at h
    · intro args ob rs os h hob
      unfold Fm_algebra_told at h
      split at h
      · simp only [Option.bind_eq_some_iff, Option.some.injEq, Prod.mk.injEq] at h
        obtain ⟨_, _, _, _, rfl, _, _⟩ := h
        exact absurd (hob _ (List.mem_of_getElem? (i := 0) rfl)) (Nat.not_lt_zero _)
      · simp at h
    · intro args ob rs os h hob
      unfold Fm_algebra_Rel at h
      split at h
      · simp only [Option.bind_eq_some_iff, Option.some.injEq, Prod.mk.injEq] at h
        obtain ⟨_, _, _, _, rfl, _, _⟩ := h
        exact absurd (hob _ (List.mem_of_getElem? (i := 0) rfl)) (Nat.not_lt_zero _)
      · simp at h
  | m + 1 => by
    have ih := okAll_algG m
    exact ⟨okm_algebra_Term m ih.1 ih.2.1 ih.2.2, okm_algebra_told m ih.1 ih.2.1 ih.2.2, okm_algebra_Rel m ih.1 ih.2.1 ih.2.2⟩
def F_algebra_Rel : FnC Un := fun args => match args with
  | [x0, x1] => (dS .rel x0).bind fun r => (dL .int x1).bind fun env => some ([envOK env r.ht], A_algebra_Rel (algebra_Rel r env), O_algebra_Rel (algebra_Rel r env))
  | _ => none
theorem ok_algebra_Rel : FnOK 7 F_algebra_Rel := by
  intro args ob rs os h hob
  unfold F_algebra_Rel at h
  split at h
  · simp only [Option.bind_eq_some_iff, Option.some.injEq, Prod.mk.injEq] at h
    obtain ⟨r, e0, env, e1, rfl, rfl, rfl⟩ := h
    refine ((okAll_algG (2 * r.ht + 1 + 1)).2.2) _ [2 * r.ht + 1 < 2 * r.ht + 1 + 1, envOK env r.ht] _ _ (?_ : Fm_algebra_Rel (2 * r.ht + 1 + 1) _ = some _) ?_
    · unfold Fm_algebra_Rel
      simp only [e0, e1, Option.bind_some]
    · intro p hp
      simp only [List.mem_cons, List.not_mem_nil, or_false] at hp
      rcases hp with rfl | rfl
      · exact Nat.lt_succ_self _
      · exact hob _ (List.mem_of_getElem? (i := 0) rfl)
  · simp at h
end
end Go.Proofs.YtmpnompddfhkeaaGreat.B
namespace Go.Proofs.YtmpnompddfhkeaaGreat.B
open Go Go.RowKit
set_option maxRecDepth 100000
noncomputable section
attribute [local irreducible] awp ctxK itersK iterK retQ retGQ awf ctxF loopF
def M_graph_count : Mc Un := mach (tbl []) (tbl []) (tbl []) (tbl []) (tbl [])
def A_graph_count (r : Int) : List (A Un) := [.c (.s (.int .i64 r))]
def O_graph_count (_r : Int) : List (Ob Un) := []
def R_graph_count (r : Int) : RF Un := (A_graph_count r, O_graph_count r)
def N_graph_count : Nat → NS := fun l => (look l [(2, { ts := bl 13 9, bs := bl 13 0, nm := [] })]).getD ⟨[], [], [], [], []⟩
def graph_count_s2 (v0 : Int) (v1 : Int) : S Un := (st 13 13 52 0 [(0, ai v0), (3, ai v1)] [] [])
def graph_count_B2 : Code := sub (bodyOf Tryz.f112) [1, 1, 0, 2, 2]
def graph_count_L2 : S Un → Option (EX Un) := loopF (N_graph_count 2) (fun s Q => awf M_graph_count N_graph_count graph_count_B2 s Q)
def graph_count_C2 : Exit → S Un → Option (RF Un) := ctxF M_graph_count N_graph_count (bodyOf Tryz.f112) [1, 1, 0, 2] (retF M_graph_count Tryz.f112.results.toList [.d])
def graph_count_fn (set : Int) : Option (RF Un) := awf M_graph_count N_graph_count (bodyOf Tryz.f112) (entry Tryz.f112.ntmps 0 [.d (.v (.s (.int .i64 set)))]) (retF M_graph_count Tryz.f112.results.toList [.d])
theorem graph_count_in (set : Int) : graph_count_fn set =
 (graph_count_L2 (graph_count_s2 set (0 : Int))).bind (thenX graph_count_C2) := by kernel_rfl
theorem graph_count_l2 (v0 : Int) (v1 : Int) : graph_count_L2 (graph_count_s2 v0 v1) =
 cndO (decide (v0 > 0))
  (graph_count_L2 (graph_count_s2 (IntKind.i64.wrap (↑(BitVec.ofInt IntKind.i64.bits v0 &&& BitVec.ofInt IntKind.i64.bits (IntKind.i64.wrap (v0 - 1))).toNat : Int)) (IntKind.i64.wrap (v1 + 1))))
  (some (.exit 0, (graph_count_s2 v0 v1))) := (loopF_eq (N_graph_count 2) graph_count_B2 _).trans (by kernel_rfl)
theorem graph_count_a2_x0 (v0 : Int) (v1 : Int) : graph_count_C2 (.exit 0) (graph_count_s2 v0 v1) =
 some (R_graph_count (v1)) := by kernel_rfl
def graph_count (set : Int) : Int := if set ≤ 0 then 0 else ((popW 64 set.toNat : Nat) : Int)
theorem graph_count_loop : ∀ (n s : Nat) (v1 : Int), s < n → s < 2 ^ 63 → 0 ≤ v1 → v1 + (popW 64 s : Nat) ≤ 1000 → graph_count_L2 (graph_count_s2 (s : Int) v1) = some (.exit 0, graph_count_s2 ((0 : Nat) : Int) (v1 + ((popW 64 s : Nat) : Int))) := by
  intro n
  induction n with
  | zero => intro s v1 h; omega
  | succ n ih =>
    intro s v1 h hs h0 hv
    rw [graph_count_l2, cndO_eq]
    by_cases hz : s = 0
    · subst hz
      rw [if_neg (by decide), popW_zero]
      simp
    · have hk := kern_lt (s := s) (by omega)
      have hp := kern_pop (w := 64) (s := s) (by omega) (by omega)
      have e : IntKind.i64.wrap ((s : Int) - 1) = ((s - 1 : Nat) : Int) := by rw [wrap_id (by omega)]; omega
      rw [if_pos (by rw [decide_eq_true_eq]; omega), e, k_andNat hs (by omega), wrap_id (n := v1 + 1) (by omega), ih (s &&& (s - 1)) (v1 + 1) (by omega) (by omega) (by omega) (by omega)]
      congr 3
      omega
theorem graph_count_spec (set : Int) (h : WI set) : graph_count_fn set = some (R_graph_count (graph_count set)) := by
  rw [graph_count_in]
  unfold graph_count
  by_cases h0 : set ≤ 0
  · have e : graph_count_L2 (graph_count_s2 set (0 : Int)) = some (.exit 0, graph_count_s2 set (0 : Int)) := by rw [graph_count_l2, cndO_eq, if_neg (by rw [decide_eq_true_eq]; omega)]
    rw [loop_end e, graph_count_a2_x0, if_pos h0]
  · unfold WI at h
    obtain ⟨s, rfl⟩ := Int.eq_ofNat_of_zero_le (a := set) (by omega)
    have hp := popW_le 64 s
    rw [loop_end (graph_count_loop (s + 1) s 0 (by omega) (by omega) (by omega) (by omega)), graph_count_a2_x0, if_neg h0, Int.toNat_natCast, Int.zero_add]
def F_graph_count : FnC Un := fun args => match args with
  | [x0] => (dI .i64 x0).bind fun set => some ([], A_graph_count (graph_count set), O_graph_count (graph_count set))
  | _ => none
theorem ok_graph_count : FnOK 112 F_graph_count := by
  intro args ob rs os h hob
  unfold F_graph_count at h
  split at h
  · simp only [Option.bind_eq_some_iff, Option.some.injEq, Prod.mk.injEq] at h
    obtain ⟨set, e0, rfl, rfl, rfl⟩ := h
    obtain rfl := dI_eq e0
    exact ⟨fn_contractF (M := M_graph_count) rfl (tbl_ok (l1 := []) (l2 := []) (l3 := []) (l4 := []) (l5 := []) trivial trivial trivial trivial trivial) Tryz.func112 (by kernel_rfl) N_graph_count 0 [.d] (fun hwf => (graph_count_spec set (wfArg hwf (a := .d (.v (.s (.int .i64 set)))) (List.mem_of_getElem? (i := 0) rfl)))), hasBody_of Tryz.func112 (by kernel_rfl) (by kernel_rfl)⟩
  · simp at h
def M_linked1 : Mc Un := mach (tbl []) (tbl []) (tbl []) (tbl []) (tbl [])
def A_linked1 (r : Bool) : List (A Un) := [.c (.s (.bool r))]
def O_linked1 (_r : Bool) : List (Ob Un) := []
def R_linked1 (r : Bool) : RF Un := (A_linked1 r, O_linked1 r)
def N_linked1 : Nat → NS := fun l => (look l []).getD ⟨[], [], [], [], []⟩
def linked1_fn (m : Int) (a : Int) (b : Int) : Option (RF Un) := awf M_linked1 N_linked1 (bodyOf Tryz.f116) (entry Tryz.f116.ntmps 0 [.d (.v (.s (.int .i64 m))), .box [.v (.s (.int .i64 a))], .box [.v (.s (.int .i64 b))]]) (retF M_linked1 Tryz.f116.results.toList [.d])
theorem linked1_in (m : Int) (a : Int) (b : Int) : linked1_fn m a b =
 cndO (IntKind.i64.wrap (↑(BitVec.ofInt IntKind.i64.bits m &&& BitVec.ofInt IntKind.i64.bits a).toNat : Int) != (0 : Int))
  (cndO (IntKind.i64.wrap (↑(BitVec.ofInt IntKind.i64.bits m &&& BitVec.ofInt IntKind.i64.bits b).toNat : Int) != (0 : Int))
   (some (R_linked1 (IntKind.i64.wrap (↑(BitVec.ofInt IntKind.i64.bits m &&& ~~~BitVec.ofInt IntKind.i64.bits (IntKind.i64.wrap (↑(BitVec.ofInt IntKind.i64.bits a ||| BitVec.ofInt IntKind.i64.bits b).toNat : Int))).toNat : Int) == (0 : Int))))
   (some (R_linked1 (false))))
  (some (R_linked1 (false))) := by kernel_rfl
theorem cndO_andB {β : Type} (R : Bool → β) {q x : Bool} : cndO q (some (R x)) (some (R false)) = some (R (q && x)) := by cases q <;> rfl
def linked1 (m a b : Int) : Bool := linkB m a b
theorem linked1_spec (m a b : Int) (_hm : WI m) (_ha : WI a) (_hb : WI b) : linked1_fn m a b = some (R_linked1 (linked1 m a b)) := by
  rw [linked1_in]
  simp only [cndO_andB R_linked1]
  rfl
def L_linked1 : List (List (DC Un)) → Option (FV Un) := fun dl => match dl with
  | [b0, b1] => (bI .i64 b0).bind fun a => (bI .i64 b1).bind fun b => some (fv_i_i64_to_b (fun m => linked1 m a b))
  | _ => none
theorem okL_linked1 : ClOK 116 L_linked1 := by
  refine ⟨hasBody_of Tryz.func116 (by kernel_rfl) (by kernel_rfl), fun dl φ args ob rs hF hφ hob => ?_⟩
  unfold L_linked1 at hF
  split at hF
  · simp only [Option.bind_eq_some_iff, Option.some.injEq] at hF
    obtain ⟨a, g0, b, g1, hE⟩ := hF
    subst hE
    obtain rfl := bI_eq g0
    obtain rfl := bI_eq g1
    unfold fv_i_i64_to_b at hφ
    split at hφ
    · simp only [Option.bind_eq_some_iff, Option.some.injEq, Prod.mk.injEq] at hφ
      obtain ⟨m, e0, rfl, rfl⟩ := hφ
      simp only [List.map_cons, List.map_nil, List.cons_append, List.nil_append]
      rw [dI_eq e0]
      exact Contract.data (fn_contractF (M := M_linked1) rfl (tbl_ok (l1 := []) (l2 := []) (l3 := []) (l4 := []) (l5 := []) trivial trivial trivial trivial trivial) Tryz.func116 (by kernel_rfl) N_linked1 0 [.d] (fun hwf => (linked1_spec m a b (wfArg hwf (a := .d (.v (.s (.int .i64 m)))) (List.mem_of_getElem? (i := 0) rfl)) (wfArg hwf (a := .box [.v (.s (.int .i64 a))]) (List.mem_of_getElem? (i := 1) rfl)) (wfArg hwf (a := .box [.v (.s (.int .i64 b))]) (List.mem_of_getElem? (i := 2) rfl)))))
    · simp at hφ
  · simp at hF
def M_graph_Linked : Mc Un := mach (tbl [(114, F_conf_int)]) (tbl []) (tbl [(116, L_linked1)]) (tbl []) (tbl [])
def A_graph_Linked (r : Bool) : List (A Un) := [.c (.s (.bool r))]
def O_graph_Linked (_r : Bool) : List (Ob Un) := []
def R_graph_Linked (r : Bool) : RF Un := (A_graph_Linked r, O_graph_Linked r)
def N_graph_Linked : Nat → NS := fun l => (look l []).getD ⟨[], [], [], [], []⟩
def graph_Linked_fn (masks : List Int) (a : Int) (b : Int) : Option (RF Un) := awf M_graph_Linked N_graph_Linked (bodyOf Tryz.f43) (entry Tryz.f43.ntmps 0 [.d (.v (.dat (U := Un) Ty.int masks)), .d (.v (.s (.int .i64 a))), .d (.v (.s (.int .i64 b)))]) (retF M_graph_Linked Tryz.f43.results.toList [.d])
theorem graph_Linked_in (masks : List Int) (a : Int) (b : Int) : graph_Linked_fn masks a b =
 obO ((fv_i_i64_to_b fun m => linked1 m a b) = fv_i_i64_to_b (pf_i_i64_to_b (fv_i_i64_to_b fun m => linked1 m a b)))
  (some (R_graph_Linked (conf_int masks (pf_i_i64_to_b (fv_i_i64_to_b fun m => linked1 m a b))))) := by kernel_rfl
def graph_Linked (masks : List Int) (a b : Int) : Bool := masks.any fun m => linkB m a b
theorem graph_Linked_spec (masks : List Int) (a b : Int) (_hm : WL .int masks) (_ha : WI a) (_hb : WI b) : graph_Linked_fn masks a b = some (R_graph_Linked (graph_Linked masks a b)) := by
  rw [graph_Linked_in]
  simp only [pfv_i_i64_to_b, conf_int_eq]
  rw [obO_pos trivial]
  rfl
def F_graph_Linked : FnC Un := fun args => match args with
  | [x0, x1, x2] => (dL .int x0).bind fun masks => (dI .i64 x1).bind fun a => (dI .i64 x2).bind fun b => some ([], A_graph_Linked (graph_Linked masks a b), O_graph_Linked (graph_Linked masks a b))
  | _ => none
theorem ok_graph_Linked : FnOK 43 F_graph_Linked := by
  intro args ob rs os h hob
  unfold F_graph_Linked at h
  split at h
  · simp only [Option.bind_eq_some_iff, Option.some.injEq, Prod.mk.injEq] at h
    obtain ⟨masks, e0, a, e1, b, e2, rfl, rfl, rfl⟩ := h
    obtain rfl := dL_eq e0
    obtain rfl := dI_eq e1
    obtain rfl := dI_eq e2
    exact ⟨fn_contractF (M := M_graph_Linked) rfl (tbl_ok (l1 := [(114, F_conf_int)]) (l2 := []) (l3 := [(116, L_linked1)]) (l4 := []) (l5 := []) ⟨ok_conf_int, trivial⟩ trivial ⟨okL_linked1, trivial⟩ trivial trivial) Tryz.func43 (by kernel_rfl) N_graph_Linked 0 [.d] (fun hwf => (graph_Linked_spec masks a b (wfArg hwf (a := .d (.v (.dat (U := Un) Ty.int masks))) (List.mem_of_getElem? (i := 0) rfl)) (wfArg hwf (a := .d (.v (.s (.int .i64 a)))) (List.mem_of_getElem? (i := 1) rfl)) (wfArg hwf (a := .d (.v (.s (.int .i64 b)))) (List.mem_of_getElem? (i := 2) rfl)))), hasBody_of Tryz.func43 (by kernel_rfl) (by kernel_rfl)⟩
  · simp at h
def M_graph_Splits : Mc Un := mach (tbl [(112, F_graph_count)]) (tbl []) (tbl []) (tbl []) (tbl [])
def A_graph_Splits (r : (List (Int × Int))) : List (A Un) := [.c (.sl (U := Un) Ty.pair r false)]
def O_graph_Splits (_r : (List (Int × Int))) : List (Ob Un) := []
def R_graph_Splits (r : (List (Int × Int))) : RF Un := (A_graph_Splits r, O_graph_Splits r)
def N_graph_Splits : Nat → NS := fun l => (look l [(8, { ts := bl 42 240, bs := bl 42 0, nm := [(.sl 6, 168)] })]).getD ⟨[], [], [], [], []⟩
def graph_Splits_s8 (set : Int) (v0 : Int) (v1 : List (Int × Int)) : S Un := (st 42 42 169 0 [(4, ai (IntKind.i64.wrap (↑(BitVec.ofInt IntKind.i64.bits set &&& BitVec.ofInt IntKind.i64.bits (IntKind.i64.wrap ((0 : Int) - set))).toNat : Int))), (5, ai (IntKind.i64.wrap (↑(BitVec.ofInt IntKind.i64.bits set &&& ~~~BitVec.ofInt IntKind.i64.bits (IntKind.i64.wrap (↑(BitVec.ofInt IntKind.i64.bits set &&& BitVec.ofInt IntKind.i64.bits (IntKind.i64.wrap ((0 : Int) - set))).toNat : Int))).toNat : Int))), (6, ao 168), (7, ai v0)] [] [(168, some ⟨(0 : Nat), Ty.pair, v1, some (0 : Nat), true⟩)])
def graph_Splits_B8 : Code := sub (bodyOf Tryz.f41) [1, 1, 1, 1, 1, 0, 1, 2, 2]
def graph_Splits_L8 : S Un → Option (EX Un) := loopF (N_graph_Splits 8) (fun s Q => awf M_graph_Splits N_graph_Splits graph_Splits_B8 s Q)
def graph_Splits_C8 : Exit → S Un → Option (RF Un) := ctxF M_graph_Splits N_graph_Splits (bodyOf Tryz.f41) [1, 1, 1, 1, 1, 0, 1, 2] (retF M_graph_Splits Tryz.f41.results.toList [.d])
def graph_Splits_fn (set : Int) : Option (RF Un) := awf M_graph_Splits N_graph_Splits (bodyOf Tryz.f41) (entry Tryz.f41.ntmps 1 [.d (.v (.s (.int .i64 set)))]) (retF M_graph_Splits Tryz.f41.results.toList [.d])
theorem graph_Splits_in (set : Int) : graph_Splits_fn set =
 cndO (decide (graph_count set < 2))
  (some (R_graph_Splits ([])))
  (cndO (decide (graph_count set > 8))
   (some (R_graph_Splits ([])))
   ((graph_Splits_L8 (graph_Splits_s8 set (0 : Int) ([]))).bind (thenX graph_Splits_C8))) := by kernel_rfl
theorem graph_Splits_l8 (set : Int) (v0 : Int) (v1 : List (Int × Int)) : graph_Splits_L8 (graph_Splits_s8 set v0 v1) =
 cndO (v0 != IntKind.i64.wrap (↑(BitVec.ofInt IntKind.i64.bits set &&& ~~~BitVec.ofInt IntKind.i64.bits (IntKind.i64.wrap (↑(BitVec.ofInt IntKind.i64.bits set &&& BitVec.ofInt IntKind.i64.bits (IntKind.i64.wrap ((0 : Int) - set))).toNat : Int))).toNat : Int))
  (obO ((v1.length + [(IntKind.i64.wrap (↑(BitVec.ofInt IntKind.i64.bits (IntKind.i64.wrap (↑(BitVec.ofInt IntKind.i64.bits set &&& BitVec.ofInt IntKind.i64.bits (IntKind.i64.wrap ((0 : Int) - set))).toNat : Int)) ||| BitVec.ofInt IntKind.i64.bits v0).toNat : Int), IntKind.i64.wrap (↑(BitVec.ofInt IntKind.i64.bits (IntKind.i64.wrap (↑(BitVec.ofInt IntKind.i64.bits set &&& ~~~BitVec.ofInt IntKind.i64.bits (IntKind.i64.wrap (↑(BitVec.ofInt IntKind.i64.bits set &&& BitVec.ofInt IntKind.i64.bits (IntKind.i64.wrap ((0 : Int) - set))).toNat : Int))).toNat : Int)) &&& ~~~BitVec.ofInt IntKind.i64.bits v0).toNat : Int))].length) * (16 : Nat) ≤ roomB)
   (graph_Splits_L8 (graph_Splits_s8 set (IntKind.i64.wrap (↑(BitVec.ofInt IntKind.i64.bits (IntKind.i64.wrap (v0 - IntKind.i64.wrap (↑(BitVec.ofInt IntKind.i64.bits set &&& ~~~BitVec.ofInt IntKind.i64.bits (IntKind.i64.wrap (↑(BitVec.ofInt IntKind.i64.bits set &&& BitVec.ofInt IntKind.i64.bits (IntKind.i64.wrap ((0 : Int) - set))).toNat : Int))).toNat : Int))) &&& BitVec.ofInt IntKind.i64.bits (IntKind.i64.wrap (↑(BitVec.ofInt IntKind.i64.bits set &&& ~~~BitVec.ofInt IntKind.i64.bits (IntKind.i64.wrap (↑(BitVec.ofInt IntKind.i64.bits set &&& BitVec.ofInt IntKind.i64.bits (IntKind.i64.wrap ((0 : Int) - set))).toNat : Int))).toNat : Int))).toNat : Int)) (v1 ++ [(IntKind.i64.wrap (↑(BitVec.ofInt IntKind.i64.bits (IntKind.i64.wrap (↑(BitVec.ofInt IntKind.i64.bits set &&& BitVec.ofInt IntKind.i64.bits (IntKind.i64.wrap ((0 : Int) - set))).toNat : Int)) ||| BitVec.ofInt IntKind.i64.bits v0).toNat : Int), IntKind.i64.wrap (↑(BitVec.ofInt IntKind.i64.bits (IntKind.i64.wrap (↑(BitVec.ofInt IntKind.i64.bits set &&& ~~~BitVec.ofInt IntKind.i64.bits (IntKind.i64.wrap (↑(BitVec.ofInt IntKind.i64.bits set &&& BitVec.ofInt IntKind.i64.bits (IntKind.i64.wrap ((0 : Int) - set))).toNat : Int))).toNat : Int)) &&& ~~~BitVec.ofInt IntKind.i64.bits v0).toNat : Int))]))))
  (some (.exit 0, (graph_Splits_s8 set v0 v1))) := (loopF_eq (N_graph_Splits 8) graph_Splits_B8 _).trans (by kernel_rfl)
theorem graph_Splits_a8_x0 (set : Int) (v0 : Int) (v1 : List (Int × Int)) : graph_Splits_C8 (.exit 0) (graph_Splits_s8 set v0 v1) =
 some (R_graph_Splits (v1)) := by kernel_rfl
def graph_Splits (set : Int) : List (Int × Int) := splitsA set
theorem set_low {s : Nat} (h : s < 2 ^ 63) (h0 : 0 < s) : IntKind.i64.wrap ((BitVec.ofInt IntKind.i64.bits (s : Int) &&& BitVec.ofInt IntKind.i64.bits (IntKind.i64.wrap ((0 : Int) - (s : Int)))).toNat : Int) = ((lowN s : Nat) : Int) :=
  k_and h (by rw [wrap_id (by omega)]; omega)
theorem set_rest {s : Nat} (h : s < 2 ^ 63) (h0 : 0 < s) : IntKind.i64.wrap ((BitVec.ofInt IntKind.i64.bits (s : Int) &&& ~~~BitVec.ofInt IntKind.i64.bits ((lowN s : Nat) : Int)).toNat : Int) = ((restN s : Nat) : Int) := by
  have h1 := low_rest h h0
  rw [k_andnNat h (by omega), and_sub 64 s (lowN s) (by omega) (low_sub s)]
  omega
theorem graph_Splits_loop {s : Nat} (h : s < 2 ^ 63) (h0 : 0 < s) (hp : popW 64 s ≤ 8) : ∀ (j k : Nat) (v1 : List (Int × Int)), k + j = 2 ^ (popW 64 s - 1) - 1 → v1.length = k →
    graph_Splits_L8 (graph_Splits_s8 (s : Int) ((depW 64 (restN s) k : Nat) : Int) v1) = some (.exit 0, graph_Splits_s8 (s : Int) ((restN s : Nat) : Int) (v1 ++ (List.range' k j).map (splitN s))) := by
  have hK : 2 ^ (popW 64 s - 1) ≤ 2 ^ 7 := Nat.pow_le_pow_right (by decide) (by omega)
  have hr := rest_lt h0
  have hlr := low_rest h h0
  intro j
  induction j with
  | zero =>
    intro k v1 hk _
    have e := dep_all64 h h0
    rw [← hk, Nat.add_zero] at e
    rw [graph_Splits_l8, e]
    simp only [set_low h h0, set_rest h h0]
    rw [cndO_eq, if_neg (by simp)]
    simp
  | succ j ih =>
    intro k v1 hk hl
    have hd := dep_lt_rest (k := k) h h0 (by omega)
    have e1 : ((IntKind.i64.wrap (((depW 64 (restN s) k : Nat) : Int) - ((restN s : Nat) : Int))) % 18446744073709551616).toNat = (depW 64 (restN s) k + (2 ^ 64 - 1 - restN s) + 1) % 2 ^ 64 := by
      rw [wrap_id (by omega)]; omega
    have e2 := dep_next 64 (restN s) k (by omega)
    rw [graph_Splits_l8]
    simp only [set_low h h0, set_rest h h0]
    rw [k_orNat (by omega) (by omega), low_or h h0, k_andnNat (by omega) (by omega), rest_andn h h0, k_and' (by omega) e1, e2, cndO_eq, if_pos (by rw [bne_iff_ne]; omega), obO_pos (by unfold roomB; rw [List.length_singleton]; omega), ih (k + 1) _ (by omega) (by rw [List.length_append, List.length_singleton, hl])]
    rw [List.range'_succ, List.map_cons, List.append_assoc]
    rfl
theorem graph_Splits_spec (set : Int) (hw : WI set) : graph_Splits_fn set = some (R_graph_Splits (graph_Splits set)) := by
  rw [graph_Splits_in]
  unfold graph_Splits splitsA graph_count
  simp only [cndO_eq, decide_eq_true_eq]
  by_cases h0 : set ≤ 0
  · rw [if_pos h0, if_pos (by omega), if_pos (.inl h0)]
  · unfold WI at hw
    obtain ⟨s, rfl⟩ := Int.eq_ofNat_of_zero_le (a := set) (by omega)
    simp only [if_neg h0, Int.toNat_natCast]
    by_cases h1 : popW 64 s < 2
    · rw [if_pos (by omega), if_pos (.inr (.inl h1))]
    · by_cases h2 : popW 64 s > 8
      · rw [if_neg (by omega), if_pos (by omega), if_pos (.inr (.inr h2))]
      · have lp := graph_Splits_loop (s := s) (by omega) (by omega) (by omega) (2 ^ (popW 64 s - 1) - 1) 0 [] (by omega) rfl
        rw [depW_zero] at lp
        rw [if_neg (by omega), if_neg (by omega)]
        refine (loop_end lp).trans ?_
        rw [graph_Splits_a8_x0, if_neg (by omega), List.range_eq_range', List.nil_append]
def F_graph_Splits : FnC Un := fun args => match args with
  | [x0] => (dI .i64 x0).bind fun set => some ([], A_graph_Splits (graph_Splits set), O_graph_Splits (graph_Splits set))
  | _ => none
theorem ok_graph_Splits : FnOK 41 F_graph_Splits := by
  intro args ob rs os h hob
  unfold F_graph_Splits at h
  split at h
  · simp only [Option.bind_eq_some_iff, Option.some.injEq, Prod.mk.injEq] at h
    obtain ⟨set, e0, rfl, rfl, rfl⟩ := h
    obtain rfl := dI_eq e0
    exact ⟨fn_contractF (M := M_graph_Splits) rfl (tbl_ok (l1 := [(112, F_graph_count)]) (l2 := []) (l3 := []) (l4 := []) (l5 := []) ⟨ok_graph_count, trivial⟩ trivial trivial trivial trivial) Tryz.func41 (by kernel_rfl) N_graph_Splits 1 [.d] (fun hwf => (graph_Splits_spec set (wfArg hwf (a := .d (.v (.s (.int .i64 set)))) (List.mem_of_getElem? (i := 0) rfl)))), hasBody_of Tryz.func41 (by kernel_rfl) (by kernel_rfl)⟩
  · simp at h
end
end Go.Proofs.YtmpnompddfhkeaaGreat.B
namespace Go.Proofs.YtmpnompddfhkeaaGreat.B
open Go Go.RowKit
set_option maxRecDepth 100000
noncomputable section
attribute [local irreducible] awp ctxK itersK iterK retQ retGQ awf ctxF loopF
def M_mC : Mc Un := mach (tbl []) (tbl []) (tbl []) (tbl []) (tbl [])
def A_mC (r : Bool × Int × Int) : List (A Un) := [.c (.s (.bool r.1))]
def B_mC (r : Bool × Int × Int) : List (Bool × List (C Un)) := [(false, [(.s (.int .i64 r.2.1))]), (false, [(.s (.int .i64 r.2.2))])]
def O_mC (_r : Bool × Int × Int) : List (Ob Un) := []
def R_mC (r : Bool × Int × Int) : RGF Un := (A_mC r, B_mC r, O_mC r)
def N_mC : Nat → NS := fun l => (look l []).getD ⟨[], [], [], [], []⟩
def mC_fn (at_ : Int) (from_ : Int) (to_ : Int) : Option (RGF Un) := awf M_mC N_mC (bodyOf Tryz.f115) (entryG Tryz.f115.ntmps 0 [.c (.s (.int .i64 at_)), .c (.bx 0 0), .c (.bx 1 0)] [(false, [(.s (.int .i64 from_))]), (false, [(.s (.int .i64 to_))])] []) (retGF M_mC 2 Tryz.f115.results.toList [.d, .d, .d])
theorem mC_in (at_ : Int) (from_ : Int) (to_ : Int) : mC_fn at_ from_ to_ =
 cndO (decide (at_ ≥ from_))
  (some (R_mC (decide (at_ < to_), from_, to_)))
  (some (R_mC (false, from_, to_))) := by kernel_rfl
def mC (at_ from_ to_ : Int) : Bool × Int × Int := (decide (at_ ≥ from_ ∧ at_ < to_), from_, to_)
theorem mC_spec (at_ from_ to_ : Int) (_h : WI at_) : mC_fn at_ from_ to_ = some (R_mC (mC at_ from_ to_)) := by
  rw [mC_in]
  unfold mC
  simp only [cndO_eq, decide_eq_true_eq]
  by_cases h1 : at_ ≥ from_
  · rw [if_pos h1]
    congr 3
    exact decide_eq_decide.2 ⟨fun h => ⟨h1, h⟩, fun h => h.2⟩
  · rw [if_neg h1, decide_eq_false (fun h => h1 h.1)]
def G_mC : List Bool × FnG Un := ([], fun args bxs os => match args, bxs, os with
  | [x0, .c (.bx 0 0), .c (.bx 1 0)], [(false, cells0), (false, cells1)], [] => match cells0.map C.weak, cells1.map C.weak with
    | [c0_from_], [c1_to_] => (aI .i64 x0).bind fun at_ => (aI .i64 (.c c0_from_)).bind fun from_ => (aI .i64 (.c c1_to_)).bind fun to_ => some ([], A_mC (mC at_ from_ to_), B_mC (mC at_ from_ to_), O_mC (mC at_ from_ to_))
    | _, _ => none
  | _, _, _ => none)
theorem okG_mC : GnOK 115 G_mC := by
  intro args bxs os ob rs bxs' os' h hob
  unfold G_mC at h
  dsimp only at h
  split at h
  · rename_i x0 cells0 cells1
    split at h
    · rename_i c0_from_ c1_to_ ec0 ec1
      simp only [Option.bind_eq_some_iff, Option.some.injEq, Prod.mk.injEq] at h
      obtain ⟨at_, e0, from_, e1, to_, e2, rfl, rfl, rfl, rfl⟩ := h
      obtain rfl := aI_eq e0
      have q1 := aI_eq e1
      have q2 := aI_eq e2
      refine ⟨GContract.weak ?_, hasBody_of Tryz.func115 (by kernel_rfl) (by kernel_rfl)⟩
      simp only [List.map_cons, List.map_nil, ec0, ec1]
      have hb : [(false, [c0_from_]), (false, [c1_to_])] = [(false, [(.s (.int .i64 from_))]), (false, [(.s (.int .i64 to_))])] := by
        simp only [A.c.injEq, A.agg.injEq] at q1 q2
        simp only [q1, q2]
        all_goals rfl
      rw [hb]
      refine gn_contract (M := M_mC) rfl (nb := 2) rfl (tbl_ok (l1 := []) (l2 := []) (l3 := []) (l4 := []) (l5 := []) trivial trivial trivial trivial trivial) Tryz.func115 (by kernel_rfl) N_mC 0 [.d, .d, .d] (fun ha hb ho => ?_)
      have hsp := mC_spec at_ from_ to_ (wfArgA ha (a := .c (.s (.int .i64 at_))) (by simp))
      exact runG_of_awf (r := (_, _, _)) hsp
    · simp at h
  · simp at h
def M_mIdx : Mc Un := mach (tbl []) (tbl []) (tbl []) (tbl [(115, G_mC)]) (tbl [])
def A_mIdx (r : Int × Int × Int) : List (A Un) := [.c (.s (.int .i64 r.1))]
def B_mIdx (r : Int × Int × Int) : List (Bool × List (C Un)) := [(false, [(.s (.int .i64 r.2.1))]), (false, [(.s (.int .i64 r.2.2))])]
def O_mIdx (_r : Int × Int × Int) : List (Ob Un) := []
def R_mIdx (r : Int × Int × Int) : RGF Un := (A_mIdx r, B_mIdx r, O_mIdx r)
def N_mIdx : Nat → NS := fun l => (look l [(2, { ts := bl 19 403, bs := bl 21 3, nm := [] })]).getD ⟨[], [], [], [], []⟩
def mIdx_s2 (s : List Int) (v0 : Int) (v1 : Int) (v2 : Int) : S Un := (st 19 21 84 2 [(0, al .int s), (1, AV.one (A.c (C.fc (115 : Nat) [(0 : Nat), (1 : Nat)]))), (4, ai (0 : Int)), (7, ai (↑s.length : Int)), (8, ai v0)] [(0, bi v1), (1, bi v2)] [])
def mIdx_e2_ret (s : List Int) (v0 : Int) (v1 : Int) (v2 : Int) (v3 : Int) : S Un := (st 19 21 84 2 [(0, al .int s), (1, AV.one (A.c (C.fc (115 : Nat) [(0 : Nat), (1 : Nat)]))), (4, ai v3), (7, ai (↑s.length : Int)), (8, ai v0)] [(0, bi v1), (1, bi v2)] [])
def mIdx_B2 : Code := sub (bodyOf Tryz.f160) [1, 0, 1, 2, 2]
def mIdx_L2 : S Un → Option (EX Un) := loopF (N_mIdx 2) (fun s Q => awf M_mIdx N_mIdx mIdx_B2 s Q)
def mIdx_C2 : Exit → S Un → Option (RGF Un) := ctxF M_mIdx N_mIdx (bodyOf Tryz.f160) [1, 0, 1, 2] (retGF M_mIdx 2 Tryz.f160.results.toList [.d, .d, .d])
def mIdx_fn (s : List Int) (from_ : Int) (to_ : Int) : Option (RGF Un) := awf M_mIdx N_mIdx (bodyOf Tryz.f160) (entryG Tryz.f160.ntmps 0 [.c (.sl (U := Un) Ty.int s false), .c (.fc 115 [0, 1])] [(false, [(.s (.int .i64 from_))]), (false, [(.s (.int .i64 to_))])] []) (retGF M_mIdx 2 Tryz.f160.results.toList [.d, .d, .d])
theorem mIdx_in (s : List Int) (from_ : Int) (to_ : Int) : mIdx_fn s from_ to_ =
 (mIdx_L2 (mIdx_s2 s (0 : Int) from_ to_)).bind (thenX mIdx_C2) := by kernel_rfl
theorem mIdx_l2 (s : List Int) (v0 : Int) (v1 : Int) (v2 : Int) : mIdx_L2 (mIdx_s2 s v0 v1 v2) =
 cndO (decide (v0 < (↑s.length : Int)))
  (obO (0 ≤ v0 ∧ v0 < (↑s.length : Int))
   (cndO ((mC (s.getD v0.toNat (0 : Int)) v1 v2).fst)
    (some (.ret, (mIdx_e2_ret s v0 ((mC (s.getD v0.toNat (0 : Int)) v1 v2).snd.fst) ((mC (s.getD v0.toNat (0 : Int)) v1 v2).snd.snd) v0)))
    (mIdx_L2 (mIdx_s2 s (IntKind.i64.wrap (v0 + 1)) ((mC (s.getD v0.toNat (0 : Int)) v1 v2).snd.fst) ((mC (s.getD v0.toNat (0 : Int)) v1 v2).snd.snd)))))
  (some (.exit 0, (mIdx_s2 s v0 v1 v2))) := (loopF_eq (N_mIdx 2) mIdx_B2 _).trans (by kernel_rfl)
theorem mIdx_a2_ret (s : List Int) (v0 : Int) (v1 : Int) (v2 : Int) (v3 : Int) : mIdx_C2 .ret (mIdx_e2_ret s v0 v1 v2 v3) =
 some (R_mIdx (v3, v1, v2)) := by kernel_rfl
theorem mIdx_a2_x0 (s : List Int) (v0 : Int) (v1 : Int) (v2 : Int) : mIdx_C2 (.exit 0) (mIdx_s2 s v0 v1 v2) =
 some (R_mIdx ((-1 : Int), v1, v2)) := by kernel_rfl
def mIdx (s : List Int) (from_ to_ : Int) : Int × Int × Int := (idxf_int s fun a => decide (a ≥ from_ ∧ a < to_), from_, to_)
theorem mIdx_spec (s : List Int) (from_ to_ : Int) (hs : WL .int s) : mIdx_fn s from_ to_ = some (R_mIdx (mIdx s from_ to_)) := by
  have key : ∀ (r : List Int) (i : Nat), s.drop i = r → i ≤ s.length → (mIdx_L2 (mIdx_s2 s i from_ to_)).bind (thenX mIdx_C2) = some (R_mIdx ((match r.findIdx? (fun a => decide (a ≥ from_ ∧ a < to_)) with | some k => ((i + k : Nat) : Int) | none => -1), from_, to_)) := by
    intro r
    induction r with
    | nil =>
      intro i hr hi
      have : s.length ≤ i := by rw [← List.drop_eq_nil_iff]; exact hr
      have e : mIdx_L2 (mIdx_s2 s i from_ to_) = some (.exit 0, mIdx_s2 s i from_ to_) := by rw [mIdx_l2, cndO_eq, if_neg (by rw [decide_eq_true_eq]; omega)]
      rw [loop_end e, mIdx_a2_x0]; rfl
    | cons x r ih =>
      intro i hr hi
      obtain ⟨a1, a2, a3, _⟩ := drop_cons hr
      have hx : s.getD i 0 = x := a2 0
      by_cases hf : decide (x ≥ from_ ∧ x < to_) = true
      · have e : mIdx_L2 (mIdx_s2 s i from_ to_) = some (.ret, mIdx_e2_ret s i from_ to_ i) := by
          rw [mIdx_l2, cndO_eq, if_pos (by rw [decide_eq_true_eq]; omega), obO_pos (by omega), Int.toNat_natCast, hx]
          simp only [mC]
          rw [cndO_eq, if_pos hf]
        rw [loop_end e, mIdx_a2_ret]
        simp only [List.findIdx?_cons]
        rw [if_pos hf]
        simp
      · have e : mIdx_L2 (mIdx_s2 s i from_ to_) = mIdx_L2 (mIdx_s2 s ((i + 1 : Nat) : Int) from_ to_) := by
          rw [mIdx_l2, cndO_eq, if_pos (by rw [decide_eq_true_eq]; omega), obO_pos (by omega), Int.toNat_natCast, hx]
          simp only [mC]
          rw [cndO_eq, if_neg hf, wrap_next a1 hs.len]
        rw [e, ih (i + 1) a3 (by omega)]
        congr 3
        simp only [List.findIdx?_cons, hf]
        cases r.findIdx? (fun a => decide (a ≥ from_ ∧ a < to_)) with
        | none => rfl
        | some k => simp; omega
  rw [mIdx_in]
  have := key s 0 rfl (Nat.zero_le _)
  refine Eq.trans this ?_
  unfold mIdx idxf_int
  cases s.findIdx? (fun a => decide (a ≥ from_ ∧ a < to_)) <;> simp
def G_mIdx : List Bool × FnG Un := ([], fun args bxs os => match args, bxs, os with
  | [x0, .c (.fc 115 [0, 1])], [(false, cells0), (false, cells1)], [] => match cells0.map C.weak, cells1.map C.weak with
    | [c0_from_], [c1_to_] => (aL .int x0).bind fun s => (aI .i64 (.c c0_from_)).bind fun from_ => (aI .i64 (.c c1_to_)).bind fun to_ => some ([], A_mIdx (mIdx s from_ to_), B_mIdx (mIdx s from_ to_), O_mIdx (mIdx s from_ to_))
    | _, _ => none
  | _, _, _ => none)
theorem okG_mIdx : GnOK 160 G_mIdx := by
  intro args bxs os ob rs bxs' os' h hob
  unfold G_mIdx at h
  dsimp only at h
  split at h
  · rename_i x0 cells0 cells1
    split at h
    · rename_i c0_from_ c1_to_ ec0 ec1
      simp only [Option.bind_eq_some_iff, Option.some.injEq, Prod.mk.injEq] at h
      obtain ⟨s, e0, from_, e1, to_, e2, rfl, rfl, rfl, rfl⟩ := h
      obtain rfl := aL_eq e0
      have q1 := aI_eq e1
      have q2 := aI_eq e2
      refine ⟨GContract.weak ?_, hasBody_of Tryz.func160 (by kernel_rfl) (by kernel_rfl)⟩
      simp only [List.map_cons, List.map_nil, ec0, ec1]
      have hb : [(false, [c0_from_]), (false, [c1_to_])] = [(false, [(.s (.int .i64 from_))]), (false, [(.s (.int .i64 to_))])] := by
        simp only [A.c.injEq, A.agg.injEq] at q1 q2
        simp only [q1, q2]
        all_goals rfl
      rw [hb]
      refine gn_contract (M := M_mIdx) rfl (nb := 2) rfl (tbl_ok (l1 := []) (l2 := []) (l3 := []) (l4 := [(115, G_mC)]) (l5 := []) trivial trivial trivial ⟨okG_mC, trivial⟩ trivial) Tryz.func160 (by kernel_rfl) N_mIdx 0 [.d, .d, .d] (fun ha hb ho => ?_)
      have hsp := mIdx_spec s from_ to_ (wfArgA ha (a := .c (.sl (U := Un) Ty.int s false)) (by simp))
      exact runG_of_awf (r := (_, _, _)) hsp
    · simp at h
  · simp at h
def M_mCon : Mc Un := mach (tbl []) (tbl []) (tbl []) (tbl [(160, G_mIdx), (115, G_mC)]) (tbl [])
def A_mCon (r : Bool × Int × Int) : List (A Un) := [.c (.s (.bool r.1))]
def B_mCon (r : Bool × Int × Int) : List (Bool × List (C Un)) := [(false, [(.s (.int .i64 r.2.1))]), (false, [(.s (.int .i64 r.2.2))])]
def O_mCon (_r : Bool × Int × Int) : List (Ob Un) := []
def R_mCon (r : Bool × Int × Int) : RGF Un := (A_mCon r, B_mCon r, O_mCon r)
def N_mCon : Nat → NS := fun l => (look l []).getD ⟨[], [], [], [], []⟩
def mCon_fn (s : List Int) (from_ : Int) (to_ : Int) : Option (RGF Un) := awf M_mCon N_mCon (bodyOf Tryz.f114) (entryG Tryz.f114.ntmps 0 [.c (.sl (U := Un) Ty.int s false), .c (.fc 115 [0, 1])] [(false, [(.s (.int .i64 from_))]), (false, [(.s (.int .i64 to_))])] []) (retGF M_mCon 2 Tryz.f114.results.toList [.d, .d, .d])
theorem mCon_in (s : List Int) (from_ : Int) (to_ : Int) : mCon_fn s from_ to_ =
 some (R_mCon (decide ((mIdx s from_ to_).fst ≥ 0), (mIdx s from_ to_).snd.fst, (mIdx s from_ to_).snd.snd)) := by kernel_rfl
def mCon (s : List Int) (from_ to_ : Int) : Bool × Int × Int := (usesIn s from_ to_, from_, to_)
theorem mCon_spec (s : List Int) (from_ to_ : Int) (_hs : WL .int s) : mCon_fn s from_ to_ = some (R_mCon (mCon s from_ to_)) := by
  rw [mCon_in]
  unfold mCon mIdx usesIn
  have := idxf_int_nonneg s (fun a => decide (a ≥ from_ ∧ a < to_))
  congr 3
  rw [Bool.eq_iff_iff, decide_eq_true_eq, ← this]
def G_mCon : List Bool × FnG Un := ([], fun args bxs os => match args, bxs, os with
  | [x0, .c (.fc 115 [0, 1])], [(false, cells0), (false, cells1)], [] => match cells0.map C.weak, cells1.map C.weak with
    | [c0_from_], [c1_to_] => (aL .int x0).bind fun s => (aI .i64 (.c c0_from_)).bind fun from_ => (aI .i64 (.c c1_to_)).bind fun to_ => some ([], A_mCon (mCon s from_ to_), B_mCon (mCon s from_ to_), O_mCon (mCon s from_ to_))
    | _, _ => none
  | _, _, _ => none)
theorem okG_mCon : GnOK 114 G_mCon := by
  intro args bxs os ob rs bxs' os' h hob
  unfold G_mCon at h
  dsimp only at h
  split at h
  · rename_i x0 cells0 cells1
    split at h
    · rename_i c0_from_ c1_to_ ec0 ec1
      simp only [Option.bind_eq_some_iff, Option.some.injEq, Prod.mk.injEq] at h
      obtain ⟨s, e0, from_, e1, to_, e2, rfl, rfl, rfl, rfl⟩ := h
      obtain rfl := aL_eq e0
      have q1 := aI_eq e1
      have q2 := aI_eq e2
      refine ⟨GContract.weak ?_, hasBody_of Tryz.func114 (by kernel_rfl) (by kernel_rfl)⟩
      simp only [List.map_cons, List.map_nil, ec0, ec1]
      have hb : [(false, [c0_from_]), (false, [c1_to_])] = [(false, [(.s (.int .i64 from_))]), (false, [(.s (.int .i64 to_))])] := by
        simp only [A.c.injEq, A.agg.injEq] at q1 q2
        simp only [q1, q2]
        all_goals rfl
      rw [hb]
      refine gn_contract (M := M_mCon) rfl (nb := 2) rfl (tbl_ok (l1 := []) (l2 := []) (l3 := []) (l4 := [(160, G_mIdx), (115, G_mC)]) (l5 := []) trivial trivial trivial ⟨okG_mIdx, okG_mC, trivial⟩ trivial) Tryz.func114 (by kernel_rfl) N_mCon 0 [.d, .d, .d] (fun ha hb ho => ?_)
      have hsp := mCon_spec s from_ to_ (wfArgA ha (a := .c (.sl (U := Un) Ty.int s false)) (by simp))
      exact runG_of_awf (r := (_, _, _)) hsp
    · simp at h
  · simp at h
def M_graph_Mask : Mc Un := mach (tbl [(113, F_conj_Uses)]) (tbl []) (tbl []) (tbl [(114, G_mCon)]) (tbl [])
def A_graph_Mask (r : Int) : List (A Un) := [.c (.s (.int .i64 r))]
def O_graph_Mask (_r : Int) : List (Ob Un) := []
def R_graph_Mask (r : Int) : RF Un := (A_graph_Mask r, O_graph_Mask r)
def N_graph_Mask : Nat → NS := fun l => (look l [(4, { ts := bl 40 917728, bs := bl 40 128, nm := [] })]).getD ⟨[], [], [], [], []⟩
def graph_Mask_s4 (t : Term) (widths : List Int) (v0 : Int) (v1 : Int) (v2 : Int) : S Un := (st 40 40 160 0 [(5, al .int (conj_Uses (Term.ids t) (0 : Int))), (6, ai v0), (7, ax 7), (17, al .int (List.take (List.foldl (fun a b => if b < a then b else a) (↑widths.length : Int) [(62 : Int)]).toNat widths)), (18, ai (↑(List.take (List.foldl (fun a b => if b < a then b else a) (↑widths.length : Int) [(62 : Int)]).toNat widths).length : Int)), (19, ai v1)] [(7, bi v2)] [])
def graph_Mask_B4 : Code := sub (bodyOf Tryz.f42) [1, 1, 1, 0, 1, 2, 2]
def graph_Mask_L4 : S Un → Option (EX Un) := loopF (N_graph_Mask 4) (fun s Q => awf M_graph_Mask N_graph_Mask graph_Mask_B4 s Q)
def graph_Mask_C4 : Exit → S Un → Option (RF Un) := ctxF M_graph_Mask N_graph_Mask (bodyOf Tryz.f42) [1, 1, 1, 0, 1, 2] (retF M_graph_Mask Tryz.f42.results.toList [.d])
def graph_Mask_fn (t : Term) (widths : List Int) : Option (RF Un) := awf M_graph_Mask N_graph_Mask (bodyOf Tryz.f42) (entry Tryz.f42.ntmps 0 [.d (.agg (enc Ty.term t)), .d (.v (.dat (U := Un) Ty.int widths))]) (retF M_graph_Mask Tryz.f42.results.toList [.d])
theorem graph_Mask_in (t : Term) (widths : List Int) : graph_Mask_fn t widths =
 obO (useOK (Term.ids t) (0 : Int))
  (obO (0 ≤ List.foldl (fun a b => if b < a then b else a) (↑widths.length : Int) [(62 : Int)] ∧ List.foldl (fun a b => if b < a then b else a) (↑widths.length : Int) [(62 : Int)] ≤ (↑widths.length : Int))
   ((graph_Mask_L4 (graph_Mask_s4 t widths (0 : Int) (0 : Int) (0 : Int))).bind (thenX graph_Mask_C4))) := by kernel_rfl
theorem graph_Mask_l4 (t : Term) (widths : List Int) (v0 : Int) (v1 : Int) (v2 : Int) : graph_Mask_L4 (graph_Mask_s4 t widths v0 v1 v2) =
 cndO (decide (v1 < (↑(List.take (List.foldl (fun a b => if b < a then b else a) (↑widths.length : Int) [(62 : Int)]).toNat widths).length : Int)))
  (obO (0 ≤ v1 ∧ v1 < (↑(List.take (List.foldl (fun a b => if b < a then b else a) (↑widths.length : Int) [(62 : Int)]).toNat widths).length : Int))
   (cndO ((mCon (conj_Uses (Term.ids t) (0 : Int)) v2 (List.foldl (fun a b => if b < a then b else a) (IntKind.i64.wrap (v2 + List.foldl (fun a b => if b < a then b else a) (List.foldl (fun a b => if a < b then b else a) ((List.take (List.foldl (fun a b => if b < a then b else a) (↑widths.length : Int) [(62 : Int)]).toNat widths).getD v1.toNat (0 : Int)) [(0 : Int)]) [(2147483648 : Int)])) [(2147483648 : Int)])).fst)
    (obO (¬v1 < 0)
     (graph_Mask_L4 (graph_Mask_s4 t widths (IntKind.i64.wrap (↑(BitVec.ofInt IntKind.i64.bits v0 ||| BitVec.ofInt IntKind.i64.bits (IntKind.i64.wrap ((1 : Int) * (2 : Int) ^ min v1.toNat IntKind.i64.bits))).toNat : Int)) (IntKind.i64.wrap (v1 + 1)) ((mCon (conj_Uses (Term.ids t) (0 : Int)) v2 (List.foldl (fun a b => if b < a then b else a) (IntKind.i64.wrap (v2 + List.foldl (fun a b => if b < a then b else a) (List.foldl (fun a b => if a < b then b else a) ((List.take (List.foldl (fun a b => if b < a then b else a) (↑widths.length : Int) [(62 : Int)]).toNat widths).getD v1.toNat (0 : Int)) [(0 : Int)]) [(2147483648 : Int)])) [(2147483648 : Int)])).snd.snd))))
    (graph_Mask_L4 (graph_Mask_s4 t widths v0 (IntKind.i64.wrap (v1 + 1)) ((mCon (conj_Uses (Term.ids t) (0 : Int)) v2 (List.foldl (fun a b => if b < a then b else a) (IntKind.i64.wrap (v2 + List.foldl (fun a b => if b < a then b else a) (List.foldl (fun a b => if a < b then b else a) ((List.take (List.foldl (fun a b => if b < a then b else a) (↑widths.length : Int) [(62 : Int)]).toNat widths).getD v1.toNat (0 : Int)) [(0 : Int)]) [(2147483648 : Int)])) [(2147483648 : Int)])).snd.snd)))))
  (some (.exit 0, (graph_Mask_s4 t widths v0 v1 v2))) := (loopF_eq (N_graph_Mask 4) graph_Mask_B4 _).trans (by kernel_rfl)
theorem graph_Mask_a4_x0 (t : Term) (widths : List Int) (v0 : Int) (v1 : Int) (v2 : Int) : graph_Mask_C4 (.exit 0) (graph_Mask_s4 t widths v0 v1 v2) =
 some (R_graph_Mask (v0)) := by kernel_rfl
theorem fMin (a b : Int) : List.foldl (fun a b => if b < a then b else a) a [b] = min a b := by
  simp only [List.foldl_cons, List.foldl_nil]; split <;> omega
theorem fMax (a b : Int) : List.foldl (fun a b => if a < b then b else a) a [b] = max a b := by
  simp only [List.foldl_cons, List.foldl_nil]; split <;> omega
def graph_Mask (t : Term) (widths : List Int) : Int := ((maskA (usesA t 0) widths : Nat) : Int)
def maskStep (u : List Int) (a : Nat × Int × Nat) (w : Int) : Nat × Int × Nat := (if usesIn u a.2.1 (nextTo a.2.1 w) = true then a.1 + 2 ^ a.2.2 else a.1, nextTo a.2.1 w, a.2.2 + 1)
theorem mask_fold (u : List Int) : ∀ (l : List Int) (a : Nat × Int × Nat), (l.foldl (maskStep u) a).1 = maskGo u l a.2.2 a.2.1 a.1
  | [], _ => rfl
  | w :: l, a => by rw [List.foldl_cons, mask_fold u l]; rfl
theorem take62 (widths : List Int) : List.take (min (widths.length : Int) 62).toNat widths = widths.take 62 := by
  by_cases h : widths.length ≤ 62
  · have e : (min (widths.length : Int) 62).toNat = widths.length := by omega
    rw [e, List.take_length, List.take_of_length_le h]
  · have e : (min (widths.length : Int) 62).toNat = 62 := by omega
    rw [e]
theorem graph_Mask_spec (t : Term) (widths : List Int) (_ht : WS .term t) (hw : WL .int widths) (h : t.sz ≤ 2000000) : graph_Mask_fn t widths = some (R_graph_Mask (graph_Mask t widths)) := by
  have hlen : (widths.take 62).length ≤ 62 := by rw [List.length_take]; omega
  obtain ⟨lp, _⟩ := loop_fold (e := .exit 0) (L := graph_Mask_L4) (st := fun (a : Nat × Int × Nat) i => graph_Mask_s4 t widths (a.1 : Int) i a.2.1) (l := widths.take 62) (d := (0 : Int)) (g := maskStep (usesA t 0)) (fun i a => a.2.2 = i ∧ a.1 < 2 ^ i ∧ 0 ≤ a.2.1 ∧ a.2.1 ≤ 2147483648) (by omega)
    (fun a i x hi hx hI => by
      obtain ⟨h1, h2, h3, h4⟩ : a.2.2 = i ∧ a.1 < 2 ^ i ∧ 0 ≤ a.2.1 ∧ a.2.1 ≤ 2147483648 := hI
      have hn := nextTo_ge (w := x) h4
      have h2i : 2 ^ i ≤ 2 ^ 61 := Nat.pow_le_pow_right (by decide) (by omega)
      refine ⟨?_, ?_⟩
      · show (maskStep (usesA t 0) a x).2.2 = i + 1 ∧ (maskStep (usesA t 0) a x).1 < 2 ^ (i + 1) ∧ 0 ≤ (maskStep (usesA t 0) a x).2.1 ∧ (maskStep (usesA t 0) a x).2.1 ≤ 2147483648
        unfold maskStep
        simp only [h1]
        refine ⟨trivial, by rw [Nat.pow_succ]; split <;> omega, by omega, hn.2⟩
      · have hto : IntKind.i64.wrap (a.2.1 + min (max x 0) 2147483648) = a.2.1 + min (max x 0) 2147483648 := wrap_id (by omega)
        have hnx : min (a.2.1 + min (max x 0) 2147483648) 2147483648 = nextTo a.2.1 x := rfl
        rw [graph_Mask_l4]
        simp only [fMin, fMax, take62, Term.ids_eq, Int.toNat_natCast, hx, conj_Uses_eq, hto, hnx, mCon, cndO_eq, decide_eq_true_eq]
        rw [if_pos (by omega), obO_pos (by omega), obO_pos (by omega), k_shl (by omega), k_orNat (by omega) (by omega), or_bit h2]
        unfold maskStep
        simp only [h1]
        by_cases hu : usesIn (usesA t 0) a.2.1 (nextTo a.2.1 x) = true
        · rw [if_pos hu, if_pos hu]
        · rw [if_neg hu, if_neg hu])
    (fun a _ => by
      rw [graph_Mask_l4]
      simp only [fMin, take62, cndO_eq, decide_eq_true_eq]
      rw [if_neg (by omega)]) (0, 0, 0) (show (0 : Nat) = 0 ∧ 0 < 2 ^ 0 ∧ (0 : Int) ≤ 0 ∧ (0 : Int) ≤ 2147483648 from ⟨rfl, by decide, by decide, by decide⟩)
  rw [graph_Mask_in]
  simp only [Term.ids_eq, fMin]
  rw [obO_pos (show useOK t 0 from ⟨by omega, h⟩), obO_pos (by omega)]
  refine (loop_end lp).trans ?_
  rw [graph_Mask_a4_x0, mask_fold]
  rfl
def F_graph_Mask : FnC Un := fun args => match args with
  | [x0, x1] => (dS .term x0).bind fun t => (dL .int x1).bind fun widths => some ([t.sz ≤ 2000000], A_graph_Mask (graph_Mask t widths), O_graph_Mask (graph_Mask t widths))
  | _ => none
theorem ok_graph_Mask : FnOK 42 F_graph_Mask := by
  intro args ob rs os h hob
  unfold F_graph_Mask at h
  split at h
  · simp only [Option.bind_eq_some_iff, Option.some.injEq, Prod.mk.injEq] at h
    obtain ⟨t, e0, widths, e1, rfl, rfl, rfl⟩ := h
    obtain rfl := dS_eq e0
    obtain rfl := dL_eq e1
    exact ⟨fn_contractF (M := M_graph_Mask) rfl (tbl_ok (l1 := [(113, F_conj_Uses)]) (l2 := []) (l3 := []) (l4 := [(114, G_mCon)]) (l5 := []) ⟨ok_conj_Uses, trivial⟩ trivial trivial ⟨okG_mCon, trivial⟩ trivial) Tryz.func42 (by kernel_rfl) N_graph_Mask 0 [.d] (fun hwf => (graph_Mask_spec t widths (wfArg hwf (a := .d (.agg (enc Ty.term t))) (List.mem_of_getElem? (i := 0) rfl)) (wfArg hwf (a := .d (.v (.dat (U := Un) Ty.int widths))) (List.mem_of_getElem? (i := 1) rfl)) (hob _ (List.mem_of_getElem? (i := 0) rfl)))), hasBody_of Tryz.func42 (by kernel_rfl) (by kernel_rfl)⟩
  · simp at h
end
end Go.Proofs.YtmpnompddfhkeaaGreat.B
namespace Go.Proofs.YtmpnompddfhkeaaGreat.B
open Go Go.RowKit
set_option maxRecDepth 100000
noncomputable section
attribute [local irreducible] awp ctxK itersK iterK retQ retGQ awf ctxF loopF
def M_r15_kids : Mc Un := mach (tbl []) (tbl []) (tbl []) (tbl []) (tbl [])
def A_r15_kids (r : Int) : List (A Un) := [.c (.s (.int .i64 r))]
def O_r15_kids (_r : Int) : List (Ob Un) := []
def R_r15_kids (r : Int) : RF Un := (A_r15_kids r, O_r15_kids r)
def N_r15_kids : Nat → NS := fun l => (look l []).getD ⟨[], [], [], [], []⟩
def r15_kids_fn (op : Int) : Option (RF Un) := awf M_r15_kids N_r15_kids (bodyOf Tryz.f53) (entry Tryz.f53.ntmps 0 [.d (.v (.s (.int .i64 op)))]) (retF M_r15_kids Tryz.f53.results.toList [.d])
def r15_kids_t1 (op : Int) : Option (RF Un) :=
 cndO (op == 5)
  (cndO (op == 5)
   (some (R_r15_kids ((2 : Int))))
   (some (R_r15_kids ((-1 : Int)))))
  (cndO (op == 6)
   (cndO (op == 6)
    (some (R_r15_kids ((2 : Int))))
    (some (R_r15_kids ((-1 : Int)))))
   (cndO (op == 9)
    (cndO (op == 9)
     (some (R_r15_kids ((2 : Int))))
     (some (R_r15_kids ((-1 : Int)))))
    (cndO (op == 10)
     (cndO (op == 10)
      (some (R_r15_kids ((2 : Int))))
      (some (R_r15_kids ((-1 : Int)))))
     (cndO (op == 11)
      (some (R_r15_kids ((2 : Int))))
      (some (R_r15_kids ((-1 : Int))))))))
def r15_kids_t2 (op : Int) : Option (RF Un) :=
 cndO (op == 3)
  (cndO (op == 3)
   (some (R_r15_kids ((1 : Int))))
   (r15_kids_t1 op))
  (cndO (op == 4)
   (cndO (op == 4)
    (some (R_r15_kids ((1 : Int))))
    (r15_kids_t1 op))
   (cndO (op == 7)
    (cndO (op == 7)
     (some (R_r15_kids ((1 : Int))))
     (r15_kids_t1 op))
    (cndO (op == 8)
     (cndO (op == 8)
      (some (R_r15_kids ((1 : Int))))
      (r15_kids_t1 op))
     (cndO (op == 12)
      (cndO (op == 12)
       (some (R_r15_kids ((1 : Int))))
       (r15_kids_t1 op))
      (cndO (op == 13)
       (some (R_r15_kids ((1 : Int))))
       (r15_kids_t1 op))))))
theorem r15_kids_in (op : Int) : r15_kids_fn op =
 cndO (op == 1)
  (cndO (op == 1)
   (some (R_r15_kids ((0 : Int))))
   (r15_kids_t2 op))
  (cndO (op == 2)
   (some (R_r15_kids ((0 : Int))))
   (r15_kids_t2 op)) := by kernel_rfl
def r15_kids (op : Int) : Int := kidsN op
def r15_Width (r : Rel) : Int := widthR r
def r27_Joined (r : Rel) : Bool := joinR r
theorem r15_kids_eq (op : Int) : r15_kids op = kidsN op := by unfold r15_kids; rfl
theorem r15_Width_eq (r : Rel) : r15_Width r = widthR r := by unfold r15_Width; rfl
theorem cndO_ou1 {β : Type} (a b : Bool) (x y : Option β) : cndO a (cndO a x y) (cndO b x y) = cndO (a || b) x y := by cases a <;> cases b <;> rfl
theorem r15_kids_spec (op : Int) (_h : WI op) : r15_kids_fn op = some (R_r15_kids (r15_kids op)) := by
  have e : ∀ x : Option (RF Un), (cndO (op == 11) (cndO (op == 11) (some (R_r15_kids ((2 : Int)))) x) x) = cndO (op == 11) (some (R_r15_kids ((2 : Int)))) x := fun x => by cases op == 11 <;> rfl
  rw [r15_kids_in]
  unfold r15_kids r15_kids_t2 r15_kids_t1 kidsN
  simp only [e, cndO_ou1]
  simp only [cndO_eq, Bool.or_eq_true, beq_iff_eq]
  by_cases h1 : op = 1 ∨ op = 2
  · rw [if_pos h1, if_pos h1]
  rw [if_neg h1, if_neg h1]
  by_cases h2 : op = 3 ∨ op = 4 ∨ op = 7 ∨ op = 8 ∨ op = 12 ∨ op = 13
  · rw [if_pos h2, if_pos h2]
  rw [if_neg h2, if_neg h2]
  by_cases h3 : op = 5 ∨ op = 6 ∨ op = 9 ∨ op = 10 ∨ op = 11
  · rw [if_pos h3, if_pos h3]
  rw [if_neg h3, if_neg h3]
def F_r15_kids : FnC Un := fun args => match args with
  | [x0] => (dI .i64 x0).bind fun op => some ([], A_r15_kids (r15_kids op), O_r15_kids (r15_kids op))
  | _ => none
theorem ok_r15_kids : FnOK 53 F_r15_kids := by
  intro args ob rs os h hob
  unfold F_r15_kids at h
  split at h
  · simp only [Option.bind_eq_some_iff, Option.some.injEq, Prod.mk.injEq] at h
    obtain ⟨op, e0, rfl, rfl, rfl⟩ := h
    obtain rfl := dI_eq e0
    exact ⟨fn_contractF (M := M_r15_kids) rfl (tbl_ok (l1 := []) (l2 := []) (l3 := []) (l4 := []) (l5 := []) trivial trivial trivial trivial trivial) Tryz.func53 (by kernel_rfl) N_r15_kids 0 [.d] (fun hwf => (r15_kids_spec op (wfArg hwf (a := .d (.v (.s (.int .i64 op)))) (List.mem_of_getElem? (i := 0) rfl)))), hasBody_of Tryz.func53 (by kernel_rfl) (by kernel_rfl)⟩
  · simp at h
def A_r15_Width (r : Int) : List (A Un) := [.c (.s (.int .i64 r))]
def O_r15_Width (_r : Int) : List (Ob Un) := []
def Fm_r15_Width (m : Nat) : FnC Un := fun args => match args with
  | [x0] => (dS .rel x0).bind fun r => some ([r.ht < m], A_r15_Width (r15_Width r), O_r15_Width (r15_Width r))
  | _ => none
def M_r15_Width (m : Nat) : Mc Un := mach (tbl [(53, F_r15_kids), (50, Fm_r15_Width m)]) (tbl []) (tbl []) (tbl []) (tbl [])
def R_r15_Width (r : Int) : RF Un := (A_r15_Width r, O_r15_Width r)
def N_r15_Width : Nat → NS := fun l => (look l []).getD ⟨[], [], [], [], []⟩
def r15_Width_c1 (r : Rel) := r15_Width (Rel.mk (Rel.op (r.kids.getD 0 zeroRel)) (Rel.table (r.kids.getD 0 zeroRel)) (Rel.cols (r.kids.getD 0 zeroRel)) (Rel.kids (r.kids.getD 0 zeroRel)) (Rel.terms (r.kids.getD 0 zeroRel)) (Rel.aggs (r.kids.getD 0 zeroRel)) (Rel.keys (r.kids.getD 0 zeroRel)) (Rel.limit (r.kids.getD 0 zeroRel)) (Rel.skip (r.kids.getD 0 zeroRel)) (Rel.all (r.kids.getD 0 zeroRel)) (Rel.rows (r.kids.getD 0 zeroRel)))
def r15_Width_fn (m : Nat) (r : Rel) : Option (RF Un) := awf (M_r15_Width m) N_r15_Width (bodyOf Tryz.f50) (entry Tryz.f50.ntmps 0 [.d (.agg (enc Ty.rel r))]) (retF (M_r15_Width m) Tryz.f50.results.toList [.d])
def r15_Width_t1 (m : Nat) (r : Rel) : Option (RF Un) :=
 obO ((0 : Int) ≤ (0 : Int) ∧ (0 : Int) < (↑r.kids.length : Int))
  (obO ((Rel.ids (r.kids.getD 0 zeroRel)).ht < m)
   (obO ((0 : Int) ≤ (1 : Int) ∧ (1 : Int) < (↑r.kids.length : Int))
    (obO ((Rel.ids (r.kids.getD 1 zeroRel)).ht < m)
     (some (R_r15_Width (IntKind.i64.wrap (r15_Width (Rel.ids (r.kids.getD 0 zeroRel)) + r15_Width (Rel.ids (r.kids.getD 1 zeroRel)))))))))
def r15_Width_t2 (m : Nat) (r : Rel) : Option (RF Un) :=
 cndO (r.op == 7)
  (some (R_r15_Width (IntKind.i64.wrap ((↑r.terms.length : Int) + (↑r.aggs.length : Int)))))
  (obO ((0 : Int) ≤ (0 : Int) ∧ (0 : Int) < (↑r.kids.length : Int))
   (obO ((Rel.ids (r.kids.getD 0 zeroRel)).ht < m)
    (some (R_r15_Width (r15_Width_c1 r)))))
def r15_Width_t3 (m : Nat) (r : Rel) : Option (RF Un) :=
 cndO (r.op == 4)
  (some (R_r15_Width ((↑r.terms.length : Int))))
  (cndO (r.op == 5)
   (cndO (r.op == 5)
    (r15_Width_t1 m r)
    (r15_Width_t2 m r))
   (cndO (r.op == 6)
    (r15_Width_t1 m r)
    (r15_Width_t2 m r)))
theorem r15_Width_in (m : Nat) (r : Rel) : r15_Width_fn m r =
 cndO (decide (r15_kids r.op < 0))
  (some (R_r15_Width ((0 : Int))))
  (cndO (decide ((↑r.kids.length : Int) < r15_kids r.op))
   (some (R_r15_Width ((0 : Int))))
   (cndO (r.op == 1)
    (cndO (r.op == 1)
     (some (R_r15_Width ((↑r.cols.length : Int))))
     (r15_Width_t3 m r))
    (cndO (r.op == 2)
     (some (R_r15_Width ((↑r.cols.length : Int))))
     (r15_Width_t3 m r)))) := by kernel_rfl
theorem r15_Width_spec (m : Nat) (r : Rel) (_hr : WS .rel r) (hm : r.ht < m + 1) : r15_Width_fn m r = some (R_r15_Width (r15_Width r)) := by
  have k0 : 0 < r.kids.length → (r.kids.getD 0 zeroRel).ht < m := fun h => by have := Rel.ht_kid (getD_mem (d := zeroRel) (l := r.kids) h); omega
  have k1 : 1 < r.kids.length → (r.kids.getD 1 zeroRel).ht < m := fun h => by have := Rel.ht_kid (getD_mem (d := zeroRel) (l := r.kids) h); omega
  rw [r15_Width_in]
  unfold r15_Width_t3
  rw [cndO_ou1, cndO_ou1, r15_Width_eq r, widthR_eq r]
  simp only [cndO_eq, beq_iff_eq, decide_eq_true_eq, r15_kids_eq, Bool.or_eq_true]
  by_cases c1 : kidsN r.op < 0
  · rw [if_pos c1, if_pos (.inl c1)]
  by_cases c2 : (r.kids.length : Int) < kidsN r.op
  · rw [if_neg c1, if_pos c2, if_pos (.inr c2)]
  rw [if_neg c1, if_neg c2, if_neg (show ¬ (kidsN r.op < 0 ∨ (r.kids.length : Int) < kidsN r.op) by omega)]
  by_cases h1 : r.op = 1 ∨ r.op = 2
  · rw [if_pos h1, if_pos h1]
  rw [if_neg h1, if_neg h1]
  have hn := kidsN_one c1 h1
  by_cases h4 : r.op = 4
  · rw [if_pos h4, if_pos h4]
  rw [if_neg h4, if_neg h4]
  have hl0 : 0 < r.kids.length := by omega
  have kk0 := k0 hl0
  have g0 := widthsR_get r.kids 0 hl0
  by_cases h56 : r.op = 5 ∨ r.op = 6
  · have ht := kidsN_two h56
    have hl1 : 1 < r.kids.length := by omega
    have kk1 := k1 hl1
    have g1 := widthsR_get r.kids 1 hl1
    unfold r15_Width_t1
    rw [if_pos h56, if_neg (by omega), if_pos h56, g0, g1]
    simp only [Rel.ids_eq, r15_Width_eq]
    rw [obO_pos (show (0 : Int) ≤ 0 ∧ (0 : Int) < (r.kids.length : Int) by omega), obO_pos kk0, obO_pos (show (0 : Int) ≤ 1 ∧ (1 : Int) < (r.kids.length : Int) by omega), obO_pos kk1]
  · rw [if_neg h56]
    unfold r15_Width_t2
    rw [cndO_eq]
    by_cases h7 : r.op = 7
    · rw [if_pos (by simpa using h7), if_pos h7]
    · rw [if_neg (by simpa using h7), if_neg h7, if_neg h56, g0]
      simp only [r15_Width_c1, rel_eta, Rel.ids_eq, r15_Width_eq]
      rw [obO_pos (by omega), obO_pos kk0]
theorem okm_r15_Width (m : Nat) (h_r15_Width : FnOK 50 (Fm_r15_Width m)) : FnOK 50 (Fm_r15_Width (m + 1)) := by
  intro args ob rs os h hob
  unfold Fm_r15_Width at h
  split at h
  · simp only [Option.bind_eq_some_iff, Option.some.injEq, Prod.mk.injEq] at h
    obtain ⟨r, e0, rfl, rfl, rfl⟩ := h
    obtain rfl := dS_eq e0
    exact ⟨fn_contractF (M := (M_r15_Width m)) rfl (tbl_ok (l1 := [(53, F_r15_kids), (50, Fm_r15_Width m)]) (l2 := []) (l3 := []) (l4 := []) (l5 := []) ⟨ok_r15_kids, h_r15_Width, trivial⟩ trivial trivial trivial trivial) Tryz.func50 (by kernel_rfl) N_r15_Width 0 [.d] (fun hwf => (r15_Width_spec m r (wfArg hwf (a := .d (.agg (enc Ty.rel r))) (List.mem_of_getElem? (i := 0) rfl)) (hob _ (List.mem_of_getElem? (i := 0) rfl)))), hasBody_of Tryz.func50 (by kernel_rfl) (by kernel_rfl)⟩
  · simp at h
theorem okAll_r15widthG : ∀ m, FnOK 50 (Fm_r15_Width m)
  | 0 => by
    skip
    intro args ob rs os h hob
    unfold Fm_r15_Width at h
    split at h
    · simp only [Option.bind_eq_some_iff, Option.some.injEq, Prod.mk.injEq] at h
      obtain ⟨_, _, rfl, _, _⟩ := h
      exact absurd (hob _ (List.mem_of_getElem? (i := 0) rfl)) (Nat.not_lt_zero _)
    · simp at h
  | m + 1 => by
    have ih := okAll_r15widthG m
    exact okm_r15_Width m ih
def F_r15_Width : FnC Un := fun args => match args with
  | [x0] => (dS .rel x0).bind fun r => some ([], A_r15_Width (r15_Width r), O_r15_Width (r15_Width r))
  | _ => none
theorem ok_r15_Width : FnOK 50 F_r15_Width := by
  intro args ob rs os h hob
  unfold F_r15_Width at h
  split at h
  · simp only [Option.bind_eq_some_iff, Option.some.injEq, Prod.mk.injEq] at h
    obtain ⟨r, e0, rfl, rfl, rfl⟩ := h
    refine ((okAll_r15widthG (r.ht + 1))) _ [r.ht < r.ht + 1] _ _ (?_ : Fm_r15_Width (r.ht + 1) _ = some _) ?_
    · unfold Fm_r15_Width
      simp only [e0, Option.bind_some]
    · intro p hp
      simp only [List.mem_cons, List.not_mem_nil, or_false] at hp
      subst hp
      exact Nat.lt_succ_self _
  · simp at h
def A_r27_Joined (r : Bool) : List (A Un) := [.c (.s (.bool r))]
def O_r27_Joined (_r : Bool) : List (Ob Un) := []
def Fm_r27_Joined (m : Nat) : FnC Un := fun args => match args with
  | [x0] => (dS .rel x0).bind fun r => some ([r.ht < m], A_r27_Joined (r27_Joined r), O_r27_Joined (r27_Joined r))
  | _ => none
def M_r27_Joined (m : Nat) : Mc Un := mach (tbl [(47, Fm_r27_Joined m)]) (tbl []) (tbl []) (tbl []) (tbl [])
def R_r27_Joined (r : Bool) : RF Un := (A_r27_Joined r, O_r27_Joined r)
def N_r27_Joined : Nat → NS := fun l => (look l []).getD ⟨[], [], [], [], []⟩
def r27_Joined_fn (m : Nat) (r : Rel) : Option (RF Un) := awf (M_r27_Joined m) N_r27_Joined (bodyOf Tryz.f47) (entry Tryz.f47.ntmps 0 [.d (.agg (enc Ty.rel r))]) (retF (M_r27_Joined m) Tryz.f47.results.toList [.d])
theorem r27_Joined_in (m : Nat) (r : Rel) : r27_Joined_fn m r =
 cndO (r.op == 5)
  (some (R_r27_Joined ((↑r.kids.length : Int) == (2 : Int))))
  (cndO (r.op == 3)
   (cndO ((↑r.kids.length : Int) == (1 : Int))
    (obO ((0 : Int) ≤ (0 : Int) ∧ (0 : Int) < (↑r.kids.length : Int))
     (obO ((Rel.ids (r.kids.getD 0 zeroRel)).ht < m)
      (some (R_r27_Joined (r27_Joined (Rel.ids (r.kids.getD 0 zeroRel)))))))
    (some (R_r27_Joined (false))))
   (some (R_r27_Joined (false)))) := by kernel_rfl
theorem r27_Joined_spec (m : Nat) (r : Rel) (_hr : WS .rel r) (hm : r.ht < m + 1) : r27_Joined_fn m r = some (R_r27_Joined (r27_Joined r)) := by
  rw [r27_Joined_in]
  unfold r27_Joined
  rw [joinR_eq r]
  simp only [cndO_eq, beq_iff_eq, Rel.ids_eq]
  by_cases h5 : r.op = 5
  · rw [if_pos h5, if_pos h5]
    congr 2
    rw [Bool.eq_iff_iff, beq_iff_eq, decide_eq_true_eq]; omega
  · rw [if_neg h5, if_neg h5]
    by_cases h3 : r.op = 3
    · by_cases hl : r.kids.length = 1
      · have hk := Rel.ht_kid (getD_mem (d := zeroRel) (i := 0) (l := r.kids) (by omega))
        rw [if_pos h3, if_pos (by omega), obO_pos (by omega), obO_pos (by omega), joinH_eq (by omega), decide_eq_true (show r.op = 3 ∧ r.kids.length = 1 from ⟨h3, hl⟩), Bool.true_and]
      · rw [if_pos h3, if_neg (by omega), decide_eq_false (fun e => hl e.2), Bool.false_and]
    · rw [if_neg h3, decide_eq_false (fun e => h3 e.1), Bool.false_and]
theorem okm_r27_Joined (m : Nat) (h_r27_Joined : FnOK 47 (Fm_r27_Joined m)) : FnOK 47 (Fm_r27_Joined (m + 1)) := by
  intro args ob rs os h hob
  unfold Fm_r27_Joined at h
  split at h
  · simp only [Option.bind_eq_some_iff, Option.some.injEq, Prod.mk.injEq] at h
    obtain ⟨r, e0, rfl, rfl, rfl⟩ := h
    obtain rfl := dS_eq e0
    exact ⟨fn_contractF (M := (M_r27_Joined m)) rfl (tbl_ok (l1 := [(47, Fm_r27_Joined m)]) (l2 := []) (l3 := []) (l4 := []) (l5 := []) ⟨h_r27_Joined, trivial⟩ trivial trivial trivial trivial) Tryz.func47 (by kernel_rfl) N_r27_Joined 0 [.d] (fun hwf => (r27_Joined_spec m r (wfArg hwf (a := .d (.agg (enc Ty.rel r))) (List.mem_of_getElem? (i := 0) rfl)) (hob _ (List.mem_of_getElem? (i := 0) rfl)))), hasBody_of Tryz.func47 (by kernel_rfl) (by kernel_rfl)⟩
  · simp at h
theorem okAll_r27joinedG : ∀ m, FnOK 47 (Fm_r27_Joined m)
  | 0 => by
    skip
    intro args ob rs os h hob
    unfold Fm_r27_Joined at h
    split at h
    · simp only [Option.bind_eq_some_iff, Option.some.injEq, Prod.mk.injEq] at h
      obtain ⟨_, _, rfl, _, _⟩ := h
      exact absurd (hob _ (List.mem_of_getElem? (i := 0) rfl)) (Nat.not_lt_zero _)
    · simp at h
  | m + 1 => by
    have ih := okAll_r27joinedG m
    exact okm_r27_Joined m ih
def F_r27_Joined : FnC Un := fun args => match args with
  | [x0] => (dS .rel x0).bind fun r => some ([], A_r27_Joined (r27_Joined r), O_r27_Joined (r27_Joined r))
  | _ => none
theorem ok_r27_Joined : FnOK 47 F_r27_Joined := by
  intro args ob rs os h hob
  unfold F_r27_Joined at h
  split at h
  · simp only [Option.bind_eq_some_iff, Option.some.injEq, Prod.mk.injEq] at h
    obtain ⟨r, e0, rfl, rfl, rfl⟩ := h
    refine ((okAll_r27joinedG (r.ht + 1))) _ [r.ht < r.ht + 1] _ _ (?_ : Fm_r27_Joined (r.ht + 1) _ = some _) ?_
    · unfold Fm_r27_Joined
      simp only [e0, Option.bind_some]
    · intro p hp
      simp only [List.mem_cons, List.not_mem_nil, or_false] at hp
      subst hp
      exact Nat.lt_succ_self _
  · simp at h
def M_r27_from : Mc Un := mach (tbl []) (tbl []) (tbl []) (tbl []) (tbl [])
def A_r27_from (r : List Int) : List (A Un) := [.c (.sl (U := Un) Ty.int r false)]
def O_r27_from (_r : List Int) : List (Ob Un) := []
def R_r27_from (r : List Int) : RF Un := (A_r27_from r, O_r27_from r)
def N_r27_from : Nat → NS := fun l => (look l [(3, { ts := bl 20 99, bs := bl 20 0, nm := [(.sl 5, 80)] })]).getD ⟨[], [], [], [], []⟩
def r27_from_s3 (at_ : Int) (n : Int) (v0 : Int) (v1 : List Int) : S Un := (st 20 20 81 0 [(0, ai at_), (1, ai n), (5, ao 80), (6, ai v0)] [] [(80, some ⟨(0 : Nat), Ty.int, v1, some (0 : Nat), true⟩)])
def r27_from_B3 : Code := sub (bodyOf Tryz.f49) [1, 1, 0, 1, 2, 2]
def r27_from_L3 : S Un → Option (EX Un) := loopF (N_r27_from 3) (fun s Q => awf M_r27_from N_r27_from r27_from_B3 s Q)
def r27_from_C3 : Exit → S Un → Option (RF Un) := ctxF M_r27_from N_r27_from (bodyOf Tryz.f49) [1, 1, 0, 1, 2] (retF M_r27_from Tryz.f49.results.toList [.d])
def r27_from_fn (at_ : Int) (n : Int) : Option (RF Un) := awf M_r27_from N_r27_from (bodyOf Tryz.f49) (entry Tryz.f49.ntmps 1 [.d (.v (.s (.int .i64 at_))), .d (.v (.s (.int .i64 n)))]) (retF M_r27_from Tryz.f49.results.toList [.d])
theorem r27_from_in (at_ : Int) (n : Int) : r27_from_fn at_ n =
 (r27_from_L3 (r27_from_s3 at_ n (0 : Int) ([]))).bind (thenX r27_from_C3) := by kernel_rfl
theorem r27_from_l3 (at_ : Int) (n : Int) (v0 : Int) (v1 : List Int) : r27_from_L3 (r27_from_s3 at_ n v0 v1) =
 cndO (decide (v0 < n))
  (obO ((v1.length + [IntKind.i64.wrap (at_ + v0)].length) * (8 : Nat) ≤ roomB)
   (r27_from_L3 (r27_from_s3 at_ n (IntKind.i64.wrap (v0 + 1)) (v1 ++ [IntKind.i64.wrap (at_ + v0)]))))
  (some (.exit 0, (r27_from_s3 at_ n v0 v1))) := (loopF_eq (N_r27_from 3) r27_from_B3 _).trans (by kernel_rfl)
theorem r27_from_a3_x0 (at_ : Int) (n : Int) (v0 : Int) (v1 : List Int) : r27_from_C3 (.exit 0) (r27_from_s3 at_ n v0 v1) =
 some (R_r27_from (v1)) := by kernel_rfl
def fromL (at_ n : Int) : List Int := (List.range n.toNat).map fun i : Nat => IntKind.i64.wrap ((i : Int) + at_)
def r27_from (at_ n : Int) : List Int := fromL at_ n
theorem r27_from_spec (at_ n : Int) (_ha : WI at_) (_hn : WI n) (h : n ≤ 2000000) : r27_from_fn at_ n = some (R_r27_from (r27_from at_ n)) := by
  obtain ⟨lp, _⟩ := loop_fold (e := .exit 0) (L := r27_from_L3) (st := fun (o : List Int) i => r27_from_s3 at_ n i o) (l := List.range n.toNat) (d := 0) (g := fun o i => o ++ [IntKind.i64.wrap ((i : Int) + at_)]) (fun i o => o.length = i) (by rw [List.length_range]; omega)
    (fun o i x hi hx hI => by
      rw [List.length_range] at hi
      rw [rangeN_getD (by omega)] at hx
      subst hx
      have hI' : o.length = i := hI
      refine ⟨by show (o ++ [_]).length = i + 1; rw [List.length_append, List.length_singleton]; omega, ?_⟩
      rw [r27_from_l3, Int.add_comm at_]
      simp only [cndO_eq, decide_eq_true_eq]
      rw [if_pos (by omega), obO_pos (by unfold roomB; rw [List.length_singleton]; omega)])
    (fun o hI => by
      rw [r27_from_l3, cndO_eq, if_neg (by rw [List.length_range, decide_eq_true_eq]; omega)]) [] rfl
  rw [foldl_snoc, List.nil_append, List.length_range] at lp
  rw [r27_from_in]
  exact (loop_end lp).trans (r27_from_a3_x0 _ _ _ _)
def F_r27_from : FnC Un := fun args => match args with
  | [x0, x1] => (dI .i64 x0).bind fun at_ => (dI .i64 x1).bind fun n => some ([n ≤ 2000000], A_r27_from (r27_from at_ n), O_r27_from (r27_from at_ n))
  | _ => none
theorem ok_r27_from : FnOK 49 F_r27_from := by
  intro args ob rs os h hob
  unfold F_r27_from at h
  split at h
  · simp only [Option.bind_eq_some_iff, Option.some.injEq, Prod.mk.injEq] at h
    obtain ⟨at_, e0, n, e1, rfl, rfl, rfl⟩ := h
    obtain rfl := dI_eq e0
    obtain rfl := dI_eq e1
    exact ⟨fn_contractF (M := M_r27_from) rfl (tbl_ok (l1 := []) (l2 := []) (l3 := []) (l4 := []) (l5 := []) trivial trivial trivial trivial trivial) Tryz.func49 (by kernel_rfl) N_r27_from 1 [.d] (fun hwf => (r27_from_spec at_ n (wfArg hwf (a := .d (.v (.s (.int .i64 at_)))) (List.mem_of_getElem? (i := 0) rfl)) (wfArg hwf (a := .d (.v (.s (.int .i64 n)))) (List.mem_of_getElem? (i := 1) rfl)) (hob _ (List.mem_of_getElem? (i := 0) rfl)))), hasBody_of Tryz.func49 (by kernel_rfl) (by kernel_rfl)⟩
  · simp at h
def M_r27_parts : Mc Un := mach (tbl [(63, F_r21_Split)]) (tbl []) (tbl []) (tbl []) (tbl [])
def A_r27_parts (r : List Term) : List (A Un) := [.c (.sl (U := Un) Ty.term r false)]
def O_r27_parts (_r : List Term) : List (Ob Un) := []
def R_r27_parts (r : List Term) : RF Un := (A_r27_parts r, O_r27_parts r)
def N_r27_parts : Nat → NS := fun l => (look l [(3, { ts := bl 20 25, bs := bl 20 0, nm := [(.sl 3, 80)] })]).getD ⟨[], [], [], [], []⟩
def r27_parts_s3 (l : List Term) (v0 : Int) (v1 : List Term) : S Un := (st 20 20 81 0 [(0, al .term l), (3, ao 80), (4, ai v0)] [] [(80, some ⟨(0 : Nat), Ty.term, v1, some (0 : Nat), true⟩)])
def r27_parts_B3 : Code := sub (bodyOf Tryz.f48) [1, 1, 0, 1, 2, 2]
def r27_parts_L3 : S Un → Option (EX Un) := loopF (N_r27_parts 3) (fun s Q => awf M_r27_parts N_r27_parts r27_parts_B3 s Q)
def r27_parts_C3 : Exit → S Un → Option (RF Un) := ctxF M_r27_parts N_r27_parts (bodyOf Tryz.f48) [1, 1, 0, 1, 2] (retF M_r27_parts Tryz.f48.results.toList [.d])
def r27_parts_fn (l : List Term) : Option (RF Un) := awf M_r27_parts N_r27_parts (bodyOf Tryz.f48) (entry Tryz.f48.ntmps 1 [.d (.v (.dat (U := Un) Ty.term l))]) (retF M_r27_parts Tryz.f48.results.toList [.d])
theorem r27_parts_in (l : List Term) : r27_parts_fn l =
 (r27_parts_L3 (r27_parts_s3 l (0 : Int) ([]))).bind (thenX r27_parts_C3) := by kernel_rfl
theorem r27_parts_l3 (l : List Term) (v0 : Int) (v1 : List Term) : r27_parts_L3 (r27_parts_s3 l v0 v1) =
 cndO (decide (v0 < (↑l.length : Int)))
  (obO (0 ≤ v0 ∧ v0 < (↑l.length : Int))
   (obO ((Term.ids (l.getD v0.toNat zeroTerm)).sz ≤ (2000000 : Nat))
    (obO ((v1.length + (r21_Split (Term.ids (l.getD v0.toNat zeroTerm))).length) * (128 : Nat) ≤ roomB)
     (r27_parts_L3 (r27_parts_s3 l (IntKind.i64.wrap (v0 + 1)) (v1 ++ r21_Split (Term.ids (l.getD v0.toNat zeroTerm))))))))
  (some (.exit 0, (r27_parts_s3 l v0 v1))) := (loopF_eq (N_r27_parts 3) r27_parts_B3 _).trans (by kernel_rfl)
theorem r27_parts_a3_x0 (l : List Term) (v0 : Int) (v1 : List Term) : r27_parts_C3 (.exit 0) (r27_parts_s3 l v0 v1) =
 some (R_r27_parts (v1)) := by kernel_rfl
def r27_parts (l : List Term) : List Term := splitTs l
theorem partsF_eq : ∀ (l : List Term) (o : List Term), l.foldl (fun o t => o ++ splitT t) o = o ++ splitTs l
  | [], o => by simp [splitTs]
  | t :: l, o => by rw [List.foldl_cons, partsF_eq l]; simp [splitTs]
theorem r27_parts_spec (l : List Term) (hl : WL .term l) (h : szTs l ≤ 2000000) : r27_parts_fn l = some (R_r27_parts (r27_parts l)) := by
  obtain ⟨lp, _⟩ := loop_fold (e := .exit 0) (L := r27_parts_L3) (st := fun (o : List Term) i => r27_parts_s3 l i o) (l := l) (d := zeroTerm) (g := fun o t => o ++ splitT t) (fun i o => o.length + szTs (l.drop i) ≤ 2000000) hl.len
    (fun o i x hi hx hI => by
      have hil : i < l.length := by omega
      have hd := drop_getD (d := zeroTerm) hil
      have hI' : o.length + szTs (l.drop i) ≤ 2000000 := hI
      have hmem : x ∈ l := by rw [← hx]; exact getD_mem hil
      have hsz := szTs_mem hmem
      have hlen := splitT_len x
      rw [hd, hx] at hI'
      simp only [szTs] at hI'
      refine ⟨by show (o ++ splitT x).length + szTs (l.drop (i + 1)) ≤ 2000000; rw [List.length_append]; omega, ?_⟩
      rw [r27_parts_l3]
      simp only [Term.ids_eq, r21_Split_eq, cndO_eq, hi, decide_true, if_true, and_true, Int.toNat_natCast, hx]
      rw [obO_pos (by omega), obO_pos (by omega), obO_pos (by unfold roomB; omega)])
    (fun o _ => by rw [r27_parts_l3]; simp [cndO_eq]) [] (by show 0 + szTs (l.drop 0) ≤ 2000000; rw [List.drop_zero]; omega)
  rw [partsF_eq, List.nil_append] at lp
  rw [r27_parts_in, loop_end lp, r27_parts_a3_x0]
  rfl
def F_r27_parts : FnC Un := fun args => match args with
  | [x0] => (dL .term x0).bind fun l => some ([szTs l ≤ 2000000], A_r27_parts (r27_parts l), O_r27_parts (r27_parts l))
  | _ => none
theorem ok_r27_parts : FnOK 48 F_r27_parts := by
  intro args ob rs os h hob
  unfold F_r27_parts at h
  split at h
  · simp only [Option.bind_eq_some_iff, Option.some.injEq, Prod.mk.injEq] at h
    obtain ⟨l, e0, rfl, rfl, rfl⟩ := h
    obtain rfl := dL_eq e0
    exact ⟨fn_contractF (M := M_r27_parts) rfl (tbl_ok (l1 := [(63, F_r21_Split)]) (l2 := []) (l3 := []) (l4 := []) (l5 := []) ⟨ok_r21_Split, trivial⟩ trivial trivial trivial trivial) Tryz.func48 (by kernel_rfl) N_r27_parts 1 [.d] (fun hwf => (r27_parts_spec l (wfArg hwf (a := .d (.v (.dat (U := Un) Ty.term l))) (List.mem_of_getElem? (i := 0) rfl)) (hob _ (List.mem_of_getElem? (i := 0) rfl)))), hasBody_of Tryz.func48 (by kernel_rfl) (by kernel_rfl)⟩
  · simp at h
def leavesB (r : Rel) : List Rel × List Term := leavesM (fun t a => r21_Move t 0 a) r
def r27_Leaves (r : Rel) : List Rel × List Term := leavesB r
theorem rL_eq (r : Rel) : r27_Leaves r = leavesB r := by unfold r27_Leaves; rfl
theorem moveB_sz (t : Term) (a : List Int) : (r21_Move t 0 a).sz = t.sz := mapT_sz _ _ _
theorem leavesB_sz (r : Rel) : (leavesB r).1.length ≤ r.sz ∧ szTs (leavesB r).2 ≤ r.sz := leaves_sz (fun t a => moveB_sz t a) r
theorem leavesB_eq (r : Rel) : leavesB r = if joinR r = true then (if r.op = 5 then (((leavesMs (fun t a => r21_Move t 0 a) r.kids).getD 0 ([], [])).1 ++ ((leavesMs (fun t a => r21_Move t 0 a) r.kids).getD 1 ([], [])).1, ((leavesMs (fun t a => r21_Move t 0 a) r.kids).getD 0 ([], [])).2 ++ (((leavesMs (fun t a => r21_Move t 0 a) r.kids).getD 1 ([], [])).2.map fun t => r21_Move t 0 (placesR r.kids)) ++ splitTs r.terms) else (((leavesMs (fun t a => r21_Move t 0 a) r.kids).getD 0 ([], [])).1, ((leavesMs (fun t a => r21_Move t 0 a) r.kids).getD 0 ([], [])).2 ++ splitTs r.terms)) else ([r], []) := by
  cases r; unfold leavesB; simp only [leavesM]; rfl
def A_r27_Leaves (r : List Rel × List Term) : List (A Un) := [.c (.sl (U := Un) Ty.rel r.1 false), .c (.sl (U := Un) Ty.term r.2 false)]
def O_r27_Leaves (_r : List Rel × List Term) : List (Ob Un) := []
def Fm_r27_Leaves (m : Nat) : FnC Un := fun args => match args with
  | [x0] => (dS .rel x0).bind fun r => some ([r.ht < m, lvOK r], A_r27_Leaves (r27_Leaves r), O_r27_Leaves (r27_Leaves r))
  | _ => none
def M_r27_Leaves (m : Nat) : Mc Un := mach (tbl [(47, F_r27_Joined), (10, Fm_r27_Leaves m), (48, F_r27_parts), (50, F_r15_Width), (49, F_r27_from), (51, F_r21_Move)]) (tbl []) (tbl []) (tbl []) (tbl [])
def R_r27_Leaves (r : List Rel × List Term) : RF Un := (A_r27_Leaves r, O_r27_Leaves r)
def N_r27_Leaves : Nat → NS := fun l => (look l [(11, { ts := bl 92 8002, bs := bl 92 2, nm := [(.sl 10, 368)] })]).getD ⟨[], [], [], [], []⟩
def r27_Leaves_c1 (r : Rel) := r27_Leaves (Rel.mk (Rel.op (r.kids.getD 0 zeroRel)) (Rel.table (r.kids.getD 0 zeroRel)) (Rel.cols (r.kids.getD 0 zeroRel)) (Rel.kids (r.kids.getD 0 zeroRel)) (Rel.terms (r.kids.getD 0 zeroRel)) (Rel.aggs (r.kids.getD 0 zeroRel)) (Rel.keys (r.kids.getD 0 zeroRel)) (Rel.limit (r.kids.getD 0 zeroRel)) (Rel.skip (r.kids.getD 0 zeroRel)) (Rel.all (r.kids.getD 0 zeroRel)) (Rel.rows (r.kids.getD 0 zeroRel)))
def r27_Leaves_c2 (r : Rel) := r27_Leaves (Rel.mk (Rel.op (r.kids.getD 1 zeroRel)) (Rel.table (r.kids.getD 1 zeroRel)) (Rel.cols (r.kids.getD 1 zeroRel)) (Rel.kids (r.kids.getD 1 zeroRel)) (Rel.terms (r.kids.getD 1 zeroRel)) (Rel.aggs (r.kids.getD 1 zeroRel)) (Rel.keys (r.kids.getD 1 zeroRel)) (Rel.limit (r.kids.getD 1 zeroRel)) (Rel.skip (r.kids.getD 1 zeroRel)) (Rel.all (r.kids.getD 1 zeroRel)) (Rel.rows (r.kids.getD 1 zeroRel)))
def r27_Leaves_c3 (r : Rel) := r15_Width (Rel.mk (Rel.op (r.kids.getD 0 zeroRel)) (Rel.table (r.kids.getD 0 zeroRel)) (Rel.cols (r.kids.getD 0 zeroRel)) (Rel.kids (r.kids.getD 0 zeroRel)) (Rel.terms (r.kids.getD 0 zeroRel)) (Rel.aggs (r.kids.getD 0 zeroRel)) (Rel.keys (r.kids.getD 0 zeroRel)) (Rel.limit (r.kids.getD 0 zeroRel)) (Rel.skip (r.kids.getD 0 zeroRel)) (Rel.all (r.kids.getD 0 zeroRel)) (Rel.rows (r.kids.getD 0 zeroRel)))
def r27_Leaves_c4 (r : Rel) := r15_Width (Rel.mk (Rel.op (r.kids.getD 1 zeroRel)) (Rel.table (r.kids.getD 1 zeroRel)) (Rel.cols (r.kids.getD 1 zeroRel)) (Rel.kids (r.kids.getD 1 zeroRel)) (Rel.terms (r.kids.getD 1 zeroRel)) (Rel.aggs (r.kids.getD 1 zeroRel)) (Rel.keys (r.kids.getD 1 zeroRel)) (Rel.limit (r.kids.getD 1 zeroRel)) (Rel.skip (r.kids.getD 1 zeroRel)) (Rel.all (r.kids.getD 1 zeroRel)) (Rel.rows (r.kids.getD 1 zeroRel)))
def r27_Leaves_s11 (r : Rel) (v0 : Int) (v1 : List Term) : S Un := (st 92 92 369 0 [(1, ax 1), (6, AV.one (A.c (C.sl Ty.rel (r27_Leaves_c1 r).fst false))), (8, AV.one (A.c (C.sl Ty.rel (r27_Leaves_c2 r).fst false))), (9, AV.one (A.c (C.sl Ty.term (r27_Leaves_c2 r).snd false))), (10, ao 368), (11, al .int (r27_from (r27_Leaves_c3 r) (r27_Leaves_c4 r))), (12, ai v0)] [(1, bg .rel r)] [(368, some ⟨(0 : Nat), Ty.term, v1, some (0 : Nat), true⟩)])
def r27_Leaves_B11 : Code := sub (bodyOf Tryz.f10) [1, 1, 1, 1, 1, 1, 1, 0, 1, 2, 2]
def r27_Leaves_L11 (m : Nat) : S Un → Option (EX Un) := loopF (N_r27_Leaves 11) (fun s Q => awf (M_r27_Leaves m) N_r27_Leaves r27_Leaves_B11 s Q)
def r27_Leaves_C11 (m : Nat) : Exit → S Un → Option (RF Un) := ctxF (M_r27_Leaves m) N_r27_Leaves (bodyOf Tryz.f10) [1, 1, 1, 1, 1, 1, 1, 0, 1, 2] (retF (M_r27_Leaves m) Tryz.f10.results.toList [.d, .d])
def r27_Leaves_fn (m : Nat) (r : Rel) : Option (RF Un) := awf (M_r27_Leaves m) N_r27_Leaves (bodyOf Tryz.f10) (entry Tryz.f10.ntmps 1 [.d (.agg (enc Ty.rel r))]) (retF (M_r27_Leaves m) Tryz.f10.results.toList [.d, .d])
theorem r27_Leaves_in (m : Nat) (r : Rel) : r27_Leaves_fn m r =
 cndO (!r27_Joined (Rel.ids r))
  (some (R_r27_Leaves ([(Rel.ids r)], [])))
  (cndO (r.op == 3)
   (obO ((0 : Int) ≤ (0 : Int) ∧ (0 : Int) < (↑r.kids.length : Int))
    (obO ((Rel.ids (r.kids.getD 0 zeroRel)).ht < m)
     (obO (lvOK (Rel.ids (r.kids.getD 0 zeroRel)))
      (obO ((0 + (r27_Leaves_c1 r).snd.length) * (128 : Nat) ≤ roomB)
       (obO (szTs r.terms ≤ (2000000 : Nat))
        (obO ((((r27_Leaves_c1 r).snd).length + (r27_parts r.terms).length) * (128 : Nat) ≤ roomB)
         (some (R_r27_Leaves ((r27_Leaves_c1 r).fst, (r27_Leaves_c1 r).snd ++ r27_parts r.terms)))))))))
   (obO ((0 : Int) ≤ (0 : Int) ∧ (0 : Int) < (↑r.kids.length : Int))
    (obO ((Rel.ids (r.kids.getD 0 zeroRel)).ht < m)
     (obO (lvOK (Rel.ids (r.kids.getD 0 zeroRel)))
      (obO ((0 : Int) ≤ (1 : Int) ∧ (1 : Int) < (↑r.kids.length : Int))
       (obO ((Rel.ids (r.kids.getD 1 zeroRel)).ht < m)
        (obO (lvOK (Rel.ids (r.kids.getD 1 zeroRel)))
         (obO ((0 + (r27_Leaves_c1 r).snd.length) * (128 : Nat) ≤ roomB)
          (obO ((0 : Int) ≤ (0 : Int) ∧ (0 : Int) < (↑r.kids.length : Int))
           (obO ((0 : Int) ≤ (1 : Int) ∧ (1 : Int) < (↑r.kids.length : Int))
            (obO (r15_Width (Rel.ids (r.kids.getD 1 zeroRel)) ≤ 2000000)
             ((r27_Leaves_L11 m (r27_Leaves_s11 r (0 : Int) ((r27_Leaves_c1 r).snd))).bind (thenX (r27_Leaves_C11 m)))))))))))))) := by kernel_rfl
theorem r27_Leaves_l11 (m : Nat) (r : Rel) (v0 : Int) (v1 : List Term) : r27_Leaves_L11 m (r27_Leaves_s11 r v0 v1) =
 cndO (decide (v0 < (↑(r27_Leaves_c2 r).snd.length : Int)))
  (obO (0 ≤ v0 ∧ v0 < (↑(r27_Leaves_c2 r).snd.length : Int))
   (obO (inOK (0 : Int) (Term.ids ((r27_Leaves_c2 r).snd.getD v0.toNat zeroTerm)).sz)
    (obO ((v1.length + [(Term.ids (r21_Move (Term.ids ((r27_Leaves_c2 r).snd.getD v0.toNat zeroTerm)) (0 : Int) (r27_from (r27_Leaves_c3 r) (r27_Leaves_c4 r))))].length) * (128 : Nat) ≤ roomB)
     (r27_Leaves_L11 m (r27_Leaves_s11 r (IntKind.i64.wrap (v0 + 1)) (v1 ++ [(Term.ids (r21_Move (Term.ids ((r27_Leaves_c2 r).snd.getD v0.toNat zeroTerm)) (0 : Int) (r27_from (r27_Leaves_c3 r) (r27_Leaves_c4 r))))]))))))
  (some (.exit 0, (r27_Leaves_s11 r v0 v1))) := (loopF_eq (N_r27_Leaves 11) r27_Leaves_B11 _).trans (by kernel_rfl)
theorem r27_Leaves_a11_x0 (m : Nat) (r : Rel) (v0 : Int) (v1 : List Term) : r27_Leaves_C11 m (.exit 0) (r27_Leaves_s11 r v0 v1) =
 obO ((0 + (r27_Leaves_c1 r).fst.length) * (192 : Nat) ≤ roomB)
  (obO ((((r27_Leaves_c1 r).fst).length + (r27_Leaves_c2 r).fst.length) * (192 : Nat) ≤ roomB)
   (obO (szTs r.terms ≤ (2000000 : Nat))
    (obO ((v1.length + (r27_parts r.terms).length) * (128 : Nat) ≤ roomB)
     (some (R_r27_Leaves ((r27_Leaves_c1 r).fst ++ (r27_Leaves_c2 r).fst, v1 ++ r27_parts r.terms)))))) := by kernel_rfl
theorem rleaves_L11 (m : Nat) (r k1 : Rel) (P : List Int) (h2 : r27_Leaves_c2 r = leavesB k1) (h3 : r27_from (r27_Leaves_c3 r) (r27_Leaves_c4 r) = P) (hs : k1.sz ≤ 2000000) (o : List Term) (ho : o.length ≤ 2000000) :
    r27_Leaves_L11 m (r27_Leaves_s11 r (0 : Int) o) = some (.exit 0, r27_Leaves_s11 r ((leavesB k1).2.length : Int) (o ++ (leavesB k1).2.map fun t => r21_Move t 0 P)) := by
  have hz := (leavesB_sz k1).2
  have hzl := szTs_len (leavesB k1).2
  obtain ⟨lp, _⟩ := loop_fold (e := .exit 0) (L := r27_Leaves_L11 m) (st := fun (x : List Term) i => r27_Leaves_s11 r i x) (l := (leavesB k1).2) (d := zeroTerm) (g := fun x t => x ++ [r21_Move t 0 P]) (fun i x => x.length ≤ 2000000 + i) (by omega)
    (fun x i t hi ht hI => by
      have hil : i < (leavesB k1).2.length := by omega
      have hI' : x.length ≤ 2000000 + i := hI
      have hmem : t ∈ (leavesB k1).2 := by rw [← ht]; exact getD_mem hil
      have hsz := szTs_mem hmem
      refine ⟨by show (x ++ [r21_Move t 0 P]).length ≤ 2000000 + (i + 1); rw [List.length_append, List.length_singleton]; omega, ?_⟩
      rw [r27_Leaves_l11]
      simp only [h2, h3, Term.ids_eq, cndO_eq, hi, decide_true, if_true, and_true, Int.toNat_natCast, ht]
      rw [obO_pos (by omega), obO_pos (show inOK _ _ from ⟨by omega, by omega, by omega⟩), obO_pos (by unfold roomB; rw [List.length_singleton]; omega)])
    (fun x _ => by rw [r27_Leaves_l11]; simp [cndO_eq, h2]) o (by show o.length ≤ 2000000 + 0; omega)
  rw [foldl_snoc] at lp
  exact lp
theorem r27_Leaves_spec (m : Nat) (r : Rel) (hr : WS .rel r) (hm : r.ht < m + 1) (h : lvOK r) : r27_Leaves_fn m r = some (R_r27_Leaves (r27_Leaves r)) := by
  have hlv := h
  obtain ⟨h1, h2⟩ := h
  have hsz := r.sz_eq
  rw [r27_Leaves_in, rL_eq r, leavesB_eq r]
  simp only [Rel.ids_eq]
  have hj : r27_Joined r = joinR r := rfl
  rw [hj, joinR_eq r]
  by_cases h5 : r.op = 5
  · by_cases hl : r.kids.length = 2
    · have e0 : (leavesMs (fun t a => r21_Move t 0 a) r.kids).getD 0 ([], []) = leavesB (r.kids.getD 0 zeroRel) := leavesMs_get _ _ _ (by omega)
      have e1 : (leavesMs (fun t a => r21_Move t 0 a) r.kids).getD 1 ([], []) = leavesB (r.kids.getD 1 zeroRel) := leavesMs_get _ _ _ (by omega)
      have w0 := widthsR_get r.kids 0 (by omega)
      have w1 := widthsR_get r.kids 1 (by omega)
      have l0 := lv_kid hlv (i := 0) (by omega)
      have l1 := lv_kid hlv (i := 1) (by omega)
      have t0 := Rel.ht_kid (getD_mem (d := zeroRel) (l := r.kids) (i := 0) (by omega))
      have t1 := Rel.ht_kid (getD_mem (d := zeroRel) (l := r.kids) (i := 1) (by omega))
      have b0 := leavesB_sz (r.kids.getD 0 zeroRel)
      have b1 := leavesB_sz (r.kids.getD 1 zeroRel)
      have c0 := szTs_len (leavesB (r.kids.getD 0 zeroRel)).2
      have c0' := szTs_len (leavesB (r.kids.getD 1 zeroRel)).2
      have d1 := width_cs (r.kids.getD 1 zeroRel) l1.2
      have hl1 := l1.2
      have hl0s := l0.1
      have hl1s := l1.1
      have c1 : r27_Leaves_c1 r = leavesB (r.kids.getD 0 zeroRel) := by unfold r27_Leaves_c1; rw [rel_eta, rL_eq]
      have c2 : r27_Leaves_c2 r = leavesB (r.kids.getD 1 zeroRel) := by unfold r27_Leaves_c2; rw [rel_eta, rL_eq]
      have c3 : r27_from (r27_Leaves_c3 r) (r27_Leaves_c4 r) = placesR r.kids := by unfold r27_Leaves_c3 r27_Leaves_c4 r27_from fromL placesR; rw [rel_eta, rel_eta, r15_Width_eq, r15_Width_eq, w0, w1]
      have hc : (if r.op = 5 then decide (r.kids.length = 2) else decide (r.op = 3 ∧ r.kids.length = 1) && joinH r.kids) = true := by rw [if_pos h5, decide_eq_true hl]
      have hls := splitTs_sz r.terms
      have hls2 := szTs_len (splitTs r.terms)
      rw [hc, if_pos rfl, if_pos h5, e0, e1]
      simp only [cndO_eq, beq_iff_eq, Bool.not_true, r15_Width_eq]
      rw [if_neg (by decide), if_neg (by omega), obO_pos (by omega), obO_pos (by omega), obO_pos l0, obO_pos (by omega), obO_pos (by omega), obO_pos l1, obO_pos (by rw [c1]; unfold roomB; omega), obO_pos (by omega), obO_pos (by omega), obO_pos (by omega), c1, loop_end (rleaves_L11 m r (r.kids.getD 1 zeroRel) (placesR r.kids) c2 c3 l1.1 (leavesB (r.kids.getD 0 zeroRel)).2 (by omega)), r27_Leaves_a11_x0, c1, c2]
      unfold r27_parts
      rw [obO_pos (by unfold roomB; omega), obO_pos (by unfold roomB; omega), obO_pos (by omega), obO_pos (by rw [List.length_append, List.length_map]; unfold roomB; omega)]
    · have hc : (if r.op = 5 then decide (r.kids.length = 2) else decide (r.op = 3 ∧ r.kids.length = 1) && joinH r.kids) = false := by rw [if_pos h5, decide_eq_false hl]
      rw [hc, if_neg (by decide)]
      rfl
  · by_cases h3 : (r.op = 3 ∧ r.kids.length = 1) ∧ joinH r.kids = true
    · obtain ⟨⟨h3, hl⟩, hj2⟩ := h3
      have e0 : (leavesMs (fun t a => r21_Move t 0 a) r.kids).getD 0 ([], []) = leavesB (r.kids.getD 0 zeroRel) := leavesMs_get _ _ _ (by omega)
      have l0 := lv_kid hlv (i := 0) (by omega)
      have t0 := Rel.ht_kid (getD_mem (d := zeroRel) (l := r.kids) (i := 0) (by omega))
      have b0 := leavesB_sz (r.kids.getD 0 zeroRel)
      have c0 := szTs_len (leavesB (r.kids.getD 0 zeroRel)).2
      have hl0s := l0.1
      have hls := splitTs_sz r.terms
      have hls2 := szTs_len (splitTs r.terms)
      have c1 : r27_Leaves_c1 r = leavesB (r.kids.getD 0 zeroRel) := by unfold r27_Leaves_c1; rw [rel_eta, rL_eq]
      have hc : (if r.op = 5 then decide (r.kids.length = 2) else decide (r.op = 3 ∧ r.kids.length = 1) && joinH r.kids) = true := by rw [if_neg h5, decide_eq_true ⟨h3, hl⟩, hj2]; rfl
      rw [hc, if_pos rfl, if_neg h5, e0]
      simp only [cndO_eq, beq_iff_eq, Bool.not_true]
      unfold r27_parts
      rw [if_neg (by decide), if_pos h3, c1, obO_pos (by omega), obO_pos (by omega), obO_pos l0, obO_pos (by unfold roomB; omega), obO_pos (by omega), obO_pos (by unfold roomB; omega)]
    · have hc : (if r.op = 5 then decide (r.kids.length = 2) else decide (r.op = 3 ∧ r.kids.length = 1) && joinH r.kids) = false := by
        rw [if_neg h5]
        cases hq : decide (r.op = 3 ∧ r.kids.length = 1) && joinH r.kids with
        | false => rfl
        | true =>
          rw [Bool.and_eq_true, decide_eq_true_eq] at hq
          exact absurd hq h3
      rw [hc, if_neg (by decide)]
      rfl
theorem okm_r27_Leaves (m : Nat) (h_r27_Leaves : FnOK 10 (Fm_r27_Leaves m)) : FnOK 10 (Fm_r27_Leaves (m + 1)) := by
  intro args ob rs os h hob
  unfold Fm_r27_Leaves at h
  split at h
  · simp only [Option.bind_eq_some_iff, Option.some.injEq, Prod.mk.injEq] at h
    obtain ⟨r, e0, rfl, rfl, rfl⟩ := h
    obtain rfl := dS_eq e0
    exact ⟨fn_contractF (M := (M_r27_Leaves m)) rfl (tbl_ok (l1 := [(47, F_r27_Joined), (10, Fm_r27_Leaves m), (48, F_r27_parts), (50, F_r15_Width), (49, F_r27_from), (51, F_r21_Move)]) (l2 := []) (l3 := []) (l4 := []) (l5 := []) ⟨ok_r27_Joined, h_r27_Leaves, ok_r27_parts, ok_r15_Width, ok_r27_from, ok_r21_Move, trivial⟩ trivial trivial trivial trivial) Tryz.func10 (by kernel_rfl) N_r27_Leaves 1 [.d, .d] (fun hwf => (r27_Leaves_spec m r (wfArg hwf (a := .d (.agg (enc Ty.rel r))) (List.mem_of_getElem? (i := 0) rfl)) (hob _ (List.mem_of_getElem? (i := 0) rfl)) (hob _ (List.mem_of_getElem? (i := 1) rfl)))), hasBody_of Tryz.func10 (by kernel_rfl) (by kernel_rfl)⟩
  · simp at h
theorem okAll_r27leavesG : ∀ m, FnOK 10 (Fm_r27_Leaves m)
  | 0 => by
    skip
    intro args ob rs os h hob
    unfold Fm_r27_Leaves at h
    split at h
    · simp only [Option.bind_eq_some_iff, Option.some.injEq, Prod.mk.injEq] at h
      obtain ⟨_, _, rfl, _, _⟩ := h
      exact absurd (hob _ (List.mem_of_getElem? (i := 0) rfl)) (Nat.not_lt_zero _)
    · simp at h
  | m + 1 => by
    have ih := okAll_r27leavesG m
    exact okm_r27_Leaves m ih
def F_r27_Leaves : FnC Un := fun args => match args with
  | [x0] => (dS .rel x0).bind fun r => some ([lvOK r], A_r27_Leaves (r27_Leaves r), O_r27_Leaves (r27_Leaves r))
  | _ => none
theorem ok_r27_Leaves : FnOK 10 F_r27_Leaves := by
  intro args ob rs os h hob
  unfold F_r27_Leaves at h
  split at h
  · simp only [Option.bind_eq_some_iff, Option.some.injEq, Prod.mk.injEq] at h
    obtain ⟨r, e0, rfl, rfl, rfl⟩ := h
    refine ((okAll_r27leavesG (r.ht + 1))) _ [r.ht < r.ht + 1, lvOK r] _ _ (?_ : Fm_r27_Leaves (r.ht + 1) _ = some _) ?_
    · unfold Fm_r27_Leaves
      simp only [e0, Option.bind_some]
    · intro p hp
      simp only [List.mem_cons, List.not_mem_nil, or_false] at hp
      rcases hp with rfl | rfl
      · exact Nat.lt_succ_self _
      · exact hob _ (List.mem_of_getElem? (i := 0) rfl)
  · simp at h
theorem moveD_eq {t : Term} (at_ : List Int) (ht : DT t) (h : t.sz ≤ 2000000) : moveA t 0 at_ = r21_Move t 0 at_ := by
  have := shDT (p := fun c d => moved1 c d 0 (fun i => move1 i at_)) (q := mvP at_) (D := 0) (fun c d hc h0 h1 => by
    unfold WI at hc
    show (moved1 c d 0 (fun i => move1 i at_)).at_ = (mvP at_ c (0 + d)).at_
    unfold moved1 mvP
    rw [IntKind.wrap_i64]
    by_cases e : c.depth = 0 + d
    · rw [if_pos (by omega), if_pos e]
    · rw [if_neg (by omega), if_neg e]
      simp only [setAt, Term.at__mk]) t 0 ht (by omega) (by omega)
  exact this
theorem leavesAB (r : Rel) (hr : WS .rel r) (h : r.sz ≤ 2000000) : leavesA r = leavesB r :=
  (leaves_eq (ma := fun t a => moveA t 0 a) (mb := fun t a => r21_Move t 0 a) (B := 2000000) (fun t a ht hs => moveD_eq a ht hs) (fun t a ht => DT_map _ t 0 ht) (fun t a => moveB_sz t a) r (DR_of r hr) h).1
end
end Go.Proofs.YtmpnompddfhkeaaGreat.B
namespace Go.Proofs.YtmpnompddfhkeaaGreat.B
open Go Go.RowKit
set_option maxRecDepth 100000
noncomputable section
attribute [local irreducible] awp ctxK itersK iterK retQ retGQ awf ctxF loopF
def M_l27_awake : Mc Un := mach (tbl [(9, F_graph_Leaves), (41, F_graph_Splits), (12, F_r21_List), (42, F_graph_Mask), (43, F_graph_Linked)]) (tbl []) (tbl []) (tbl []) (tbl [])
def A_l27_awake (r : Bool) : List (A Un) := [.c (.s (.bool r))]
def O_l27_awake (_r : Bool) : List (Ob Un) := []
def R_l27_awake (r : Bool) : RF Un := (A_l27_awake r, O_l27_awake r)
def N_l27_awake : Nat → NS := fun l => (look l []).getD ⟨[], [], [], [], []⟩
def l27_awake_fn : Option (RF Un) := awf M_l27_awake N_l27_awake (bodyOf Tryz.f8) (entry Tryz.f8.ntmps 0 []) (retF M_l27_awake Tryz.f8.results.toList [.d])
theorem l27_awake_in : l27_awake_fn =
 obO ((0 + ([{ table := (ByteArray.mk #[]), name := (ByteArray.mk #[97]), type := (2 : Int) }, { table := (ByteArray.mk #[]), name := (ByteArray.mk #[98]), type := (2 : Int) }] : List Col).length) * (40 : Nat) ≤ roomB)
  (obO (((([{ table := (ByteArray.mk #[]), name := (ByteArray.mk #[97]), type := (2 : Int) }, { table := (ByteArray.mk #[]), name := (ByteArray.mk #[98]), type := (2 : Int) }] : List Col)).length + ([{ table := (ByteArray.mk #[]), name := (ByteArray.mk #[99]), type := (2 : Int) }] : List Col).length) * (40 : Nat) ≤ roomB)
   (obO (lvOK (Rel.mk (5 : Int) (ByteArray.mk #[]) [{ table := (ByteArray.mk #[]), name := (ByteArray.mk #[97]), type := (2 : Int) }, { table := (ByteArray.mk #[]), name := (ByteArray.mk #[98]), type := (2 : Int) }, { table := (ByteArray.mk #[]), name := (ByteArray.mk #[99]), type := (2 : Int) }] [(Rel.mk (1 : Int) (ByteArray.mk #[116]) [{ table := (ByteArray.mk #[]), name := (ByteArray.mk #[97]), type := (2 : Int) }, { table := (ByteArray.mk #[]), name := (ByteArray.mk #[98]), type := (2 : Int) }] [] [] [] [] (0 : Int) (0 : Int) false []), (Rel.mk (1 : Int) (ByteArray.mk #[117]) [{ table := (ByteArray.mk #[]), name := (ByteArray.mk #[99]), type := (2 : Int) }] [] [] [] [] (0 : Int) (0 : Int) false [])] [(Term.mk (11 : Int) zeroVal (0 : Int) (0 : Int) (ByteArray.mk #[]) [(Term.mk (2 : Int) zeroVal (0 : Int) (0 : Int) (ByteArray.mk #[]) [] [] (2 : Int)), (Term.mk (2 : Int) zeroVal (0 : Int) (2 : Int) (ByteArray.mk #[]) [] [] (2 : Int))] [] (1 : Int))] [] [] (0 : Int) (0 : Int) false []))
    (cndO ((↑(graph_Leaves (Rel.mk (5 : Int) (ByteArray.mk #[]) [{ table := (ByteArray.mk #[]), name := (ByteArray.mk #[97]), type := (2 : Int) }, { table := (ByteArray.mk #[]), name := (ByteArray.mk #[98]), type := (2 : Int) }, { table := (ByteArray.mk #[]), name := (ByteArray.mk #[99]), type := (2 : Int) }] [(Rel.mk (1 : Int) (ByteArray.mk #[116]) [{ table := (ByteArray.mk #[]), name := (ByteArray.mk #[97]), type := (2 : Int) }, { table := (ByteArray.mk #[]), name := (ByteArray.mk #[98]), type := (2 : Int) }] [] [] [] [] (0 : Int) (0 : Int) false []), (Rel.mk (1 : Int) (ByteArray.mk #[117]) [{ table := (ByteArray.mk #[]), name := (ByteArray.mk #[99]), type := (2 : Int) }] [] [] [] [] (0 : Int) (0 : Int) false [])] [(Term.mk (11 : Int) zeroVal (0 : Int) (0 : Int) (ByteArray.mk #[]) [(Term.mk (2 : Int) zeroVal (0 : Int) (0 : Int) (ByteArray.mk #[]) [] [] (2 : Int)), (Term.mk (2 : Int) zeroVal (0 : Int) (2 : Int) (ByteArray.mk #[]) [] [] (2 : Int))] [] (1 : Int))] [] [] (0 : Int) (0 : Int) false [])).fst.length : Int) == (2 : Int))
     (obO ((0 : Int) ≤ (1 : Int) ∧ (1 : Int) < (↑(graph_Leaves (Rel.mk (5 : Int) (ByteArray.mk #[]) [{ table := (ByteArray.mk #[]), name := (ByteArray.mk #[97]), type := (2 : Int) }, { table := (ByteArray.mk #[]), name := (ByteArray.mk #[98]), type := (2 : Int) }, { table := (ByteArray.mk #[]), name := (ByteArray.mk #[99]), type := (2 : Int) }] [(Rel.mk (1 : Int) (ByteArray.mk #[116]) [{ table := (ByteArray.mk #[]), name := (ByteArray.mk #[97]), type := (2 : Int) }, { table := (ByteArray.mk #[]), name := (ByteArray.mk #[98]), type := (2 : Int) }] [] [] [] [] (0 : Int) (0 : Int) false []), (Rel.mk (1 : Int) (ByteArray.mk #[117]) [{ table := (ByteArray.mk #[]), name := (ByteArray.mk #[99]), type := (2 : Int) }] [] [] [] [] (0 : Int) (0 : Int) false [])] [(Term.mk (11 : Int) zeroVal (0 : Int) (0 : Int) (ByteArray.mk #[]) [(Term.mk (2 : Int) zeroVal (0 : Int) (0 : Int) (ByteArray.mk #[]) [] [] (2 : Int)), (Term.mk (2 : Int) zeroVal (0 : Int) (2 : Int) (ByteArray.mk #[]) [] [] (2 : Int))] [] (1 : Int))] [] [] (0 : Int) (0 : Int) false [])).fst.length : Int))
      (cndO ((Rel.table ((graph_Leaves (Rel.mk (5 : Int) (ByteArray.mk #[]) [{ table := (ByteArray.mk #[]), name := (ByteArray.mk #[97]), type := (2 : Int) }, { table := (ByteArray.mk #[]), name := (ByteArray.mk #[98]), type := (2 : Int) }, { table := (ByteArray.mk #[]), name := (ByteArray.mk #[99]), type := (2 : Int) }] [(Rel.mk (1 : Int) (ByteArray.mk #[116]) [{ table := (ByteArray.mk #[]), name := (ByteArray.mk #[97]), type := (2 : Int) }, { table := (ByteArray.mk #[]), name := (ByteArray.mk #[98]), type := (2 : Int) }] [] [] [] [] (0 : Int) (0 : Int) false []), (Rel.mk (1 : Int) (ByteArray.mk #[117]) [{ table := (ByteArray.mk #[]), name := (ByteArray.mk #[99]), type := (2 : Int) }] [] [] [] [] (0 : Int) (0 : Int) false [])] [(Term.mk (11 : Int) zeroVal (0 : Int) (0 : Int) (ByteArray.mk #[]) [(Term.mk (2 : Int) zeroVal (0 : Int) (0 : Int) (ByteArray.mk #[]) [] [] (2 : Int)), (Term.mk (2 : Int) zeroVal (0 : Int) (2 : Int) (ByteArray.mk #[]) [] [] (2 : Int))] [] (1 : Int))] [] [] (0 : Int) (0 : Int) false [])).fst.getD 1 zeroRel)).toList == (ByteArray.mk #[117]).toList)
       (cndO (r21_List (graph_Leaves (Rel.mk (5 : Int) (ByteArray.mk #[]) [{ table := (ByteArray.mk #[]), name := (ByteArray.mk #[97]), type := (2 : Int) }, { table := (ByteArray.mk #[]), name := (ByteArray.mk #[98]), type := (2 : Int) }, { table := (ByteArray.mk #[]), name := (ByteArray.mk #[99]), type := (2 : Int) }] [(Rel.mk (1 : Int) (ByteArray.mk #[116]) [{ table := (ByteArray.mk #[]), name := (ByteArray.mk #[97]), type := (2 : Int) }, { table := (ByteArray.mk #[]), name := (ByteArray.mk #[98]), type := (2 : Int) }] [] [] [] [] (0 : Int) (0 : Int) false []), (Rel.mk (1 : Int) (ByteArray.mk #[117]) [{ table := (ByteArray.mk #[]), name := (ByteArray.mk #[99]), type := (2 : Int) }] [] [] [] [] (0 : Int) (0 : Int) false [])] [(Term.mk (11 : Int) zeroVal (0 : Int) (0 : Int) (ByteArray.mk #[]) [(Term.mk (2 : Int) zeroVal (0 : Int) (0 : Int) (ByteArray.mk #[]) [] [] (2 : Int)), (Term.mk (2 : Int) zeroVal (0 : Int) (2 : Int) (ByteArray.mk #[]) [] [] (2 : Int))] [] (1 : Int))] [] [] (0 : Int) (0 : Int) false [])).snd [(Term.mk (11 : Int) zeroVal (0 : Int) (0 : Int) (ByteArray.mk #[]) [(Term.mk (2 : Int) zeroVal (0 : Int) (0 : Int) (ByteArray.mk #[]) [] [] (2 : Int)), (Term.mk (2 : Int) zeroVal (0 : Int) (2 : Int) (ByteArray.mk #[]) [] [] (2 : Int))] [] (1 : Int))])
        (obO ((Term.mk (11 : Int) zeroVal (0 : Int) (0 : Int) (ByteArray.mk #[]) [(Term.mk (2 : Int) zeroVal (0 : Int) (0 : Int) (ByteArray.mk #[]) [] [] (2 : Int)), (Term.mk (2 : Int) zeroVal (0 : Int) (2 : Int) (ByteArray.mk #[]) [] [] (2 : Int))] [] (1 : Int)).sz ≤ (2000000 : Nat))
         (cndO (graph_Mask (Term.mk (11 : Int) zeroVal (0 : Int) (0 : Int) (ByteArray.mk #[]) [(Term.mk (2 : Int) zeroVal (0 : Int) (0 : Int) (ByteArray.mk #[]) [] [] (2 : Int)), (Term.mk (2 : Int) zeroVal (0 : Int) (2 : Int) (ByteArray.mk #[]) [] [] (2 : Int))] [] (1 : Int)) [(2 : Int), (1 : Int)] == 3)
          (cndO (graph_Linked [(3 : Int)] (1 : Int) (2 : Int))
           (cndO (!graph_Linked [(3 : Int)] (1 : Int) (4 : Int))
            (cndO ((↑(graph_Splits (7 : Int)).length : Int) == (3 : Int))
             (obO ((0 : Int) ≤ (0 : Int) ∧ (0 : Int) < (↑(graph_Splits (7 : Int)).length : Int))
              (cndO (andB [EK.int IntKind.i64] (((graph_Splits (7 : Int)).getD 0 ((0 : Int), (0 : Int))).fst == 1) (andB [] (((graph_Splits (7 : Int)).getD 0 ((0 : Int), (0 : Int))).snd == 6) true))
               (obO ((0 : Int) ≤ (2 : Int) ∧ (2 : Int) < (↑(graph_Splits (7 : Int)).length : Int))
                (some (R_l27_awake (andB [EK.int IntKind.i64] (((graph_Splits (7 : Int)).getD 2 ((0 : Int), (0 : Int))).fst == 5) (andB [] (((graph_Splits (7 : Int)).getD 2 ((0 : Int), (0 : Int))).snd == 2) true)))))
               (some (R_l27_awake (false)))))
             (some (R_l27_awake (false))))
            (some (R_l27_awake (false))))
           (some (R_l27_awake (false))))
          (some (R_l27_awake (false)))))
        (some (R_l27_awake (false))))
       (some (R_l27_awake (false)))))
     (some (R_l27_awake (false)))))) := by kernel_rfl
def l27_awake : Bool := true
theorem cndO_tt {α : Type} {b : Bool} (h : b = true) {x y : Option α} : cndO b x y = x := by rw [h]; rfl
theorem tl_eq {a b : ByteArray} (h : a = b) : (a.toList == b.toList) = true := by rw [h]; exact beq_self_eq_true _
theorem l27_awake_spec : l27_awake_fn = some (R_l27_awake l27_awake) := by
  rw [l27_awake_in]
  repeat (first
    | refine (obO_pos (by first | exact Nat.le_of_ble_eq_true (by kernel_rfl) | exact ⟨Nat.le_of_ble_eq_true (by kernel_rfl), Nat.le_of_ble_eq_true (by kernel_rfl)⟩ | exact .inr (.inr (by kernel_rfl)) | exact of_decide_eq_true (by kernel_rfl))).trans ?_
    | refine (cndO_tt (by first | exact deq_iff.2 (by kernel_rfl) | exact tl_eq (by kernel_rfl) | kernel_rfl)).trans ?_)
  kernel_rfl
def F_l27_awake : FnC Un := fun args => match args with
  | [] => some ([], A_l27_awake (l27_awake), O_l27_awake (l27_awake))
  | _ => none
theorem ok_l27_awake : FnOK 8 F_l27_awake := by
  intro args ob rs os h hob
  unfold F_l27_awake at h
  split at h
  · simp only [Option.bind_eq_some_iff, Option.some.injEq, Prod.mk.injEq] at h
    obtain ⟨rfl, rfl, rfl⟩ := h
    exact ⟨fn_contractF (M := M_l27_awake) rfl (tbl_ok (l1 := [(9, F_graph_Leaves), (41, F_graph_Splits), (12, F_r21_List), (42, F_graph_Mask), (43, F_graph_Linked)]) (l2 := []) (l3 := []) (l4 := []) (l5 := []) ⟨ok_graph_Leaves, ok_graph_Splits, ok_r21_List, ok_graph_Mask, ok_graph_Linked, trivial⟩ trivial trivial trivial trivial) Tryz.func8 (by kernel_rfl) N_l27_awake 0 [.d] (fun hwf => (l27_awake_spec)), hasBody_of Tryz.func8 (by kernel_rfl) (by kernel_rfl)⟩
  · simp at h
def M_l27_rels : Mc Un := mach (tbl [(22, F_algebra_SameRel)]) (tbl []) (tbl []) (tbl []) (tbl [])
def A_l27_rels (r : Bool) : List (A Un) := [.c (.s (.bool r))]
def O_l27_rels (_r : Bool) : List (Ob Un) := []
def R_l27_rels (r : Bool) : RF Un := (A_l27_rels r, O_l27_rels r)
def N_l27_rels : Nat → NS := fun l => (look l [(2, { ts := bl 33 51, bs := bl 33 0, nm := [] })]).getD ⟨[], [], [], [], []⟩
def l27_rels_s2 (a : List Rel) (b : List Rel) (v0 : Int) : S Un := (st 33 33 132 0 [(0, al .rel a), (1, al .rel b), (4, ab false), (5, ai v0)] [] [])
def l27_rels_B2 : Code := sub (bodyOf Tryz.f11) [1, 0, 1, 2, 2]
def l27_rels_L2 : S Un → Option (EX Un) := loopF (N_l27_rels 2) (fun s Q => awf M_l27_rels N_l27_rels l27_rels_B2 s Q)
def l27_rels_C2 : Exit → S Un → Option (RF Un) := ctxF M_l27_rels N_l27_rels (bodyOf Tryz.f11) [1, 0, 1, 2] (retF M_l27_rels Tryz.f11.results.toList [.d])
def l27_rels_fn (a : List Rel) (b : List Rel) : Option (RF Un) := awf M_l27_rels N_l27_rels (bodyOf Tryz.f11) (entry Tryz.f11.ntmps 0 [.d (.v (.dat (U := Un) Ty.rel a)), .d (.v (.dat (U := Un) Ty.rel b))]) (retF M_l27_rels Tryz.f11.results.toList [.d])
theorem l27_rels_in (a : List Rel) (b : List Rel) : l27_rels_fn a b =
 (l27_rels_L2 (l27_rels_s2 a b (0 : Int))).bind (thenX l27_rels_C2) := by kernel_rfl
theorem l27_rels_l2 (a : List Rel) (b : List Rel) (v0 : Int) : l27_rels_L2 (l27_rels_s2 a b v0) =
 cndO (decide (v0 < (↑a.length : Int)))
  (cndO (decide (v0 < (↑b.length : Int)))
   (obO (0 ≤ v0 ∧ v0 < (↑a.length : Int))
    (obO (0 ≤ v0 ∧ v0 < (↑b.length : Int))
     (cndO (!algebra_SameRel (Rel.ids (a.getD v0.toNat zeroRel)) (Rel.ids (b.getD v0.toNat zeroRel)))
      (some (.ret, (l27_rels_s2 a b v0)))
      (l27_rels_L2 (l27_rels_s2 a b (IntKind.i64.wrap (v0 + 1)))))))
   (some (.exit 0, (l27_rels_s2 a b v0))))
  (some (.exit 0, (l27_rels_s2 a b v0))) := (loopF_eq (N_l27_rels 2) l27_rels_B2 _).trans (by kernel_rfl)
theorem l27_rels_a2_ret (a : List Rel) (b : List Rel) (v0 : Int) : l27_rels_C2 .ret (l27_rels_s2 a b v0) =
 some (R_l27_rels (false)) := by kernel_rfl
theorem l27_rels_a2_x0 (a : List Rel) (b : List Rel) (v0 : Int) : l27_rels_C2 (.exit 0) (l27_rels_s2 a b v0) =
 some (R_l27_rels ((↑a.length : Int) == (↑b.length : Int))) := by kernel_rfl
noncomputable def l27_rels (a b : List Rel) : Bool := deq a b
theorem l27_rels_spec (a b : List Rel) (ha : WL .rel a) (_hb : WL .rel b) : l27_rels_fn a b = some (R_l27_rels (l27_rels a b)) := by
  rw [l27_rels_in]
  exact loop_pre (L := l27_rels_L2) (st := fun i => l27_rels_s2 a b i) (fun r => some (R_l27_rels r)) (d := zeroRel) ha.len
    (fun i hi hj => by
      rw [l27_rels_l2]
      simp only [Rel.ids_eq, cndO_eq, Int.toNat_natCast, algebra_SameRel]
      rw [if_pos (by simp; omega), if_pos (by simp; omega), obO_pos (by omega), obO_pos (by omega)]
      cases deq (a.getD i zeroRel) (b.getD i zeroRel) <;> simp)
    (fun i h => by
      rw [l27_rels_l2]
      simp only [cndO_eq, decide_eq_true_eq]
      by_cases h1 : (i : Int) < (a.length : Int)
      · rw [if_pos h1, if_neg (by omega)]
      · rw [if_neg h1])
    (fun i => l27_rels_a2_ret _ _ _) (fun i => l27_rels_a2_x0 _ _ _)
def F_l27_rels : FnC Un := fun args => match args with
  | [x0, x1] => (dL .rel x0).bind fun a => (dL .rel x1).bind fun b => some ([], A_l27_rels (l27_rels a b), O_l27_rels (l27_rels a b))
  | _ => none
theorem ok_l27_rels : FnOK 11 F_l27_rels := by
  intro args ob rs os h hob
  unfold F_l27_rels at h
  split at h
  · simp only [Option.bind_eq_some_iff, Option.some.injEq, Prod.mk.injEq] at h
    obtain ⟨a, e0, b, e1, rfl, rfl, rfl⟩ := h
    obtain rfl := dL_eq e0
    obtain rfl := dL_eq e1
    exact ⟨fn_contractF (M := M_l27_rels) rfl (tbl_ok (l1 := [(22, F_algebra_SameRel)]) (l2 := []) (l3 := []) (l4 := []) (l5 := []) ⟨ok_algebra_SameRel, trivial⟩ trivial trivial trivial trivial) Tryz.func11 (by kernel_rfl) N_l27_rels 0 [.d] (fun hwf => (l27_rels_spec a b (wfArg hwf (a := .d (.v (.dat (U := Un) Ty.rel a))) (List.mem_of_getElem? (i := 0) rfl)) (wfArg hwf (a := .d (.v (.dat (U := Un) Ty.rel b))) (List.mem_of_getElem? (i := 1) rfl)))), hasBody_of Tryz.func11 (by kernel_rfl) (by kernel_rfl)⟩
  · simp at h
mutual
theorem term_ht_sz : ∀ t : Term, t.ht ≤ t.sz
  | .mk op v depth at_ name kids sub type => by
    have := terms_ht_sz kids
    have := rels_ht_sz sub
    simp only [Term.ht, Term.sz]; omega
theorem terms_ht_sz : ∀ l : List Term, htTs l ≤ szTs l
  | [] => Nat.le_refl _
  | t :: l => by
    have := term_ht_sz t
    have := terms_ht_sz l
    simp only [htTs, szTs]; omega
theorem agg_ht_sz : ∀ a : Agg, a.ht ≤ a.sz
  | .mk name distinct t => by
    have := terms_ht_sz t
    simp only [Agg.ht, Agg.sz]; omega
theorem aggs_ht_sz : ∀ l : List Agg, htAs l ≤ szAs l
  | [] => Nat.le_refl _
  | t :: l => by
    have := agg_ht_sz t
    have := aggs_ht_sz l
    simp only [htAs, szAs]; omega
theorem rel_ht_sz : ∀ r : Rel, r.ht ≤ r.sz
  | .mk op table cols kids terms aggs keys limit skip all rows => by
    have := rels_ht_sz kids
    have := terms_ht_sz terms
    have := aggs_ht_sz aggs
    simp only [Rel.ht, Rel.sz]; omega
theorem rels_ht_sz : ∀ l : List Rel, htRs l ≤ szRs l
  | [] => Nat.le_refl _
  | t :: l => by
    have := rel_ht_sz t
    have := rels_ht_sz l
    simp only [htRs, szRs]; omega
end
def M_l27_GraphLeaves : Mc Un := mach (tbl [(7, F_algebra_Rel), (8, F_l27_awake), (9, F_graph_Leaves), (10, F_r27_Leaves), (11, F_l27_rels), (12, F_r21_List)]) (tbl []) (tbl []) (tbl []) (tbl [])
def A_l27_GraphLeaves (r : Bool) : List (A Un) := [.c (.s (.bool r))]
def O_l27_GraphLeaves (_r : Bool) : List (Ob Un) := []
def R_l27_GraphLeaves (r : Bool) : RF Un := (A_l27_GraphLeaves r, O_l27_GraphLeaves r)
def N_l27_GraphLeaves : Nat → NS := fun l => (look l []).getD ⟨[], [], [], [], []⟩
def l27_GraphLeaves_fn (r : Rel) : Option (RF Un) := awf M_l27_GraphLeaves N_l27_GraphLeaves (bodyOf Tryz.f3) (entry Tryz.f3.ntmps 0 [.d (.agg (enc Ty.rel r))]) (retF M_l27_GraphLeaves Tryz.f3.results.toList [.d])
theorem l27_GraphLeaves_in (r : Rel) : l27_GraphLeaves_fn r =
 obO (envOK [] (Rel.ids r).ht)
  (cndO (!algebra_Rel (Rel.ids r) [])
   (some (R_l27_GraphLeaves (l27_awake)))
   (obO (lvOK (Rel.ids r))
    (obO (lvOK (Rel.ids r))
     (cndO (l27_awake)
      (cndO (l27_rels (graph_Leaves (Rel.ids r)).fst (r27_Leaves (Rel.ids r)).fst)
       (some (R_l27_GraphLeaves (r21_List (graph_Leaves (Rel.ids r)).snd (r27_Leaves (Rel.ids r)).snd)))
       (some (R_l27_GraphLeaves (false))))
      (some (R_l27_GraphLeaves (false))))))) := by kernel_rfl
def l27_GraphLeaves (_r : Rel) : Bool := true
theorem l27_GraphLeaves_spec (r : Rel) (hr : WS .rel r) (h : lvOK r) : l27_GraphLeaves_fn r = some (R_l27_GraphLeaves (l27_GraphLeaves r)) := by
  have hz := rel_ht_sz r
  rw [l27_GraphLeaves_in, Rel.ids_eq, obO_pos (show envOK [] r.ht from by unfold envOK; obtain ⟨h1, _⟩ := h; simp only [List.length_nil]; omega), obO_pos h, obO_pos h, gL_eq, rL_eq, leavesAB r hr h.1]
  have e1 : l27_rels (leavesB r).1 (leavesB r).1 = true := deq_iff.2 rfl
  have e2 : r21_List (leavesB r).2 (leavesB r).2 = true := deq_iff.2 rfl
  rw [e1, e2]
  unfold l27_awake l27_GraphLeaves
  cases algebra_Rel r [] <;> rfl
def F_l27_GraphLeaves : FnC Un := fun args => match args with
  | [x0] => (dS .rel x0).bind fun r => some ([lvOK r], A_l27_GraphLeaves (l27_GraphLeaves r), O_l27_GraphLeaves (l27_GraphLeaves r))
  | _ => none
theorem ok_l27_GraphLeaves : FnOK 3 F_l27_GraphLeaves := by
  intro args ob rs os h hob
  unfold F_l27_GraphLeaves at h
  split at h
  · simp only [Option.bind_eq_some_iff, Option.some.injEq, Prod.mk.injEq] at h
    obtain ⟨r, e0, rfl, rfl, rfl⟩ := h
    obtain rfl := dS_eq e0
    exact ⟨fn_contractF (M := M_l27_GraphLeaves) rfl (tbl_ok (l1 := [(7, F_algebra_Rel), (8, F_l27_awake), (9, F_graph_Leaves), (10, F_r27_Leaves), (11, F_l27_rels), (12, F_r21_List)]) (l2 := []) (l3 := []) (l4 := []) (l5 := []) ⟨ok_algebra_Rel, ok_l27_awake, ok_graph_Leaves, ok_r27_Leaves, ok_l27_rels, ok_r21_List, trivial⟩ trivial trivial trivial trivial) Tryz.func3 (by kernel_rfl) N_l27_GraphLeaves 0 [.d] (fun hwf => (l27_GraphLeaves_spec r (wfArg hwf (a := .d (.agg (enc Ty.rel r))) (List.mem_of_getElem? (i := 0) rfl)) (hob _ (List.mem_of_getElem? (i := 0) rfl)))), hasBody_of Tryz.func3 (by kernel_rfl) (by kernel_rfl)⟩
  · simp at h
end
end Go.Proofs.YtmpnompddfhkeaaGreat.B
