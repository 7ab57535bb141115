/- Functions: conj3. (Printed by wip/tools/mkfn.py out of wip/src/conj3.src.) -/
import Derived.Test.YtaepcbdcjbfgjaaBAwf
import Derived.Test.YtaepcbdcjbfgjaaSspec
import Derived.Test.YtaepcbdcjbfgjaaSterms
import Derived.Test.YtaepcbdcjbfgjaaStermsz
import Derived.Test.YtaepcbdcjbfgjaaSconjspec
import Derived.Test.YtaepcbdcjbfgjaaSsorted
import Derived.Test.YtaepcbdcjbfgjaaSconjU
import Derived.Test.YtaepcbdcjbfgjaaSconj2
namespace Go.Proofs.Ytaepcbdcjbfgjaa.B
open Go Go.RowKit
set_option maxRecDepth 100000
noncomputable section
attribute [local irreducible] awp ctxK itersK iterK retQ retGQ awf ctxF loopF

/-! ### slices.IndexFunc[[]int,int] -/
def M_idxf_int : Mc Un := mach (tbl []) (tbl []) (tbl []) (tbl []) (tbl [])
def A_idxf_int (r : Int) : List (A Un) := [.c (.s (.int .i64 r))]
def O_idxf_int (_r : Int) : List (Ob Un) := []
def R_idxf_int (r : Int) : RF Un := (A_idxf_int r, O_idxf_int r)
def N_idxf_int : Nat → NS := fun l => (look l [(2, { ts := bl 19 403, bs := bl 19 0, nm := [] })]).getD ⟨[], [], [], [], []⟩
def idxf_int_s2 (s : List Int) (f : Int → Bool) (v0 : Int) : S Un := (st 19 19 76 0 [(0, al .int s), (1, AV.one (A.c (C.fv (fv_i_i64_to_b f)))), (4, ai (0 : Int)), (7, ai (↑s.length : Int)), (8, ai v0)] [] [])
def idxf_int_e2_ret (s : List Int) (f : Int → Bool) (v0 : Int) (v1 : Int) : S Un := (st 19 19 76 0 [(0, al .int s), (1, AV.one (A.c (C.fv (fv_i_i64_to_b f)))), (4, ai v1), (7, ai (↑s.length : Int)), (8, ai v0)] [] [])
def idxf_int_B2 : Code := sub (bodyOf Try.f81) [1, 0, 1, 2, 2]
def idxf_int_L2 : S Un → Option (EX Un) := loopF (N_idxf_int 2) (fun s Q => awf M_idxf_int N_idxf_int idxf_int_B2 s Q)
def idxf_int_C2 : Exit → S Un → Option (RF Un) := ctxF M_idxf_int N_idxf_int (bodyOf Try.f81) [1, 0, 1, 2] (retF M_idxf_int Try.f81.results.toList [.d])
def idxf_int_fn (s : List Int) (f : Int → Bool) : Option (RF Un) := awf M_idxf_int N_idxf_int (bodyOf Try.f81) (entry Try.f81.ntmps 0 [.d (.v (.dat (U := Un) Ty.int s)), .fn (fv_i_i64_to_b f)]) (retF M_idxf_int Try.f81.results.toList [.d])
theorem idxf_int_in (s : List Int) (f : Int → Bool) : idxf_int_fn s f =
 (idxf_int_L2 (idxf_int_s2 s f (0 : Int))).bind (thenX idxf_int_C2) := by kernel_rfl
theorem idxf_int_l2 (s : List Int) (f : Int → Bool) (v0 : Int) : idxf_int_L2 (idxf_int_s2 s f v0) =
 cndO (decide (v0 < (↑s.length : Int)))
  (obO (0 ≤ v0 ∧ v0 < (↑s.length : Int))
   (cndO (f (s.getD v0.toNat (0 : Int)))
    (some (.ret, (idxf_int_e2_ret s f v0 v0)))
    (idxf_int_L2 (idxf_int_s2 s f (IntKind.i64.wrap (v0 + 1))))))
  (some (.exit 0, (idxf_int_s2 s f v0))) := (loopF_eq (N_idxf_int 2) idxf_int_B2 _).trans (by kernel_rfl)
theorem idxf_int_a2_ret (s : List Int) (f : Int → Bool) (v0 : Int) (v1 : Int) : idxf_int_C2 .ret (idxf_int_e2_ret s f v0 v1) =
 some (R_idxf_int (v1)) := by kernel_rfl
theorem idxf_int_a2_x0 (s : List Int) (f : Int → Bool) (v0 : Int) : idxf_int_C2 (.exit 0) (idxf_int_s2 s f v0) =
 some (R_idxf_int ((-1 : Int))) := by kernel_rfl

def idxf_int (s : List Int) (f : Int → Bool) : Int := match s.findIdx? f with | some i => (i : Int) | none => -1
theorem idxf_int_nonneg (s : List Int) (f : Int → Bool) : 0 ≤ idxf_int s f ↔ s.any f = true := by
  unfold idxf_int
  cases h : s.findIdx? f with
  | none =>
    have := List.findIdx?_eq_none_iff.1 h
    simp only [List.any_eq_true]
    constructor
    · intro h1; exact absurd h1 (by decide)
    · rintro ⟨x, hx, hf⟩; rw [this x hx] at hf; simp at hf
  | some i =>
    obtain ⟨h1, h2, _⟩ := List.findIdx?_eq_some_iff_getElem.1 h
    simp only [List.any_eq_true]
    exact ⟨fun _ => ⟨s[i], List.getElem_mem h1, h2⟩, fun _ => by omega⟩
theorem idxf_int_spec (s : List Int) (f : Int → Bool) (hs : WL .int s) : idxf_int_fn s f = some (R_idxf_int (idxf_int s f)) := by
  have key : ∀ (r : List Int) (i : Nat), s.drop i = r → i ≤ s.length → (idxf_int_L2 (idxf_int_s2 s f i)).bind (thenX idxf_int_C2) = some (R_idxf_int (match r.findIdx? f with | some k => ((i + k : Nat) : Int) | none => -1)) := by
    intro r
    induction r with
    | nil =>
      intro i hr hi
      have : s.length ≤ i := by rw [← List.drop_eq_nil_iff]; exact hr
      have e : idxf_int_L2 (idxf_int_s2 s f i) = some (.exit 0, idxf_int_s2 s f i) := by rw [idxf_int_l2, cndO_eq, if_neg (by simp; omega)]
      rw [loop_end e, idxf_int_a2_x0]; rfl
    | cons x r ih =>
      intro i hr hi
      obtain ⟨a1, a2, a3, _⟩ := drop_cons hr
      have hx : s.getD i 0 = x := a2 0
      by_cases hf : f x = true
      · have e : idxf_int_L2 (idxf_int_s2 s f i) = some (.ret, idxf_int_e2_ret s f i i) := by
          rw [idxf_int_l2, cndO_eq, if_pos (by simp; omega), obO_pos (by omega), Int.toNat_natCast, hx, cndO_eq, if_pos hf]
        rw [loop_end e, idxf_int_a2_ret]
        simp [List.findIdx?_cons, hf]
      · have e : idxf_int_L2 (idxf_int_s2 s f i) = idxf_int_L2 (idxf_int_s2 s f ((i + 1 : Nat) : Int)) := by
          rw [idxf_int_l2, cndO_eq, if_pos (by simp; omega), obO_pos (by omega), Int.toNat_natCast, hx, cndO_eq, if_neg hf, wrap_next a1 hs.len]
        rw [e, ih (i + 1) a3 (by omega)]
        congr 2
        simp only [List.findIdx?_cons, hf]
        cases r.findIdx? f with
        | none => rfl
        | some k => simp; omega
  rw [idxf_int_in]
  have := key s 0 rfl (Nat.zero_le _)
  refine Eq.trans this ?_
  unfold idxf_int
  cases s.findIdx? f <;> simp

def F_idxf_int : FnC Un := fun args => match args with
  | [x0, x1] => (dL .int x0).bind fun s => (dF x1).bind fun f => some ([f = (fv_i_i64_to_b (pf_i_i64_to_b f))], A_idxf_int (idxf_int s (pf_i_i64_to_b f)), O_idxf_int (idxf_int s (pf_i_i64_to_b f)))
  | _ => none

theorem ok_idxf_int : FnOK 81 F_idxf_int := by
  intro args ob rs os h hob
  unfold F_idxf_int at h
  split at h
  · simp only [Option.bind_eq_some_iff, Option.some.injEq, Prod.mk.injEq] at h
    obtain ⟨s, e0, f, e1, rfl, rfl, rfl⟩ := h
    obtain rfl := dL_eq e0
    obtain rfl := dF_eq e1
    have hfv0 := hob _ (List.mem_of_getElem? (i := 0) rfl)
    generalize pf_i_i64_to_b f = pp0 at *
    subst hfv0
    exact ⟨fn_contractF (M := M_idxf_int) rfl (tbl_ok (l1 := []) (l2 := []) (l3 := []) (l4 := []) (l5 := []) trivial trivial trivial trivial trivial) Try.func81 (by kernel_rfl) N_idxf_int 0 [.d] (fun hwf => (idxf_int_spec s pp0 (wfArg hwf (a := .d (.v (.dat (U := Un) Ty.int s))) (List.mem_of_getElem? (i := 0) rfl)))), hasBody_of Try.func81 (by kernel_rfl) (by kernel_rfl)⟩
  · simp at h


/-! ### slices.ContainsFunc[[]int,int] -/
def M_conf_int : Mc Un := mach (tbl [(81, F_idxf_int)]) (tbl []) (tbl []) (tbl []) (tbl [])
def A_conf_int (r : Bool) : List (A Un) := [.c (.s (.bool r))]
def O_conf_int (_r : Bool) : List (Ob Un) := []
def R_conf_int (r : Bool) : RF Un := (A_conf_int r, O_conf_int r)
def N_conf_int : Nat → NS := fun l => (look l []).getD ⟨[], [], [], [], []⟩
def conf_int_fn (s : List Int) (f : Int → Bool) : Option (RF Un) := awf M_conf_int N_conf_int (bodyOf Try.f50) (entry Try.f50.ntmps 0 [.d (.v (.dat (U := Un) Ty.int s)), .fn (fv_i_i64_to_b f)]) (retF M_conf_int Try.f50.results.toList [.d])
theorem conf_int_in (s : List Int) (f : Int → Bool) : conf_int_fn s f =
 obO (fv_i_i64_to_b f = fv_i_i64_to_b (pf_i_i64_to_b (fv_i_i64_to_b f)))
  (some (R_conf_int (decide (idxf_int s (pf_i_i64_to_b (fv_i_i64_to_b f)) ≥ 0)))) := by kernel_rfl

def conf_int (s : List Int) (f : Int → Bool) : Bool := s.any f
@[simp] theorem conf_int_eq (s : List Int) (f : Int → Bool) : conf_int s f = s.any f := by unfold conf_int; rfl
theorem conf_int_spec (s : List Int) (f : Int → Bool) (_hs : WL .int s) : conf_int_fn s f = some (R_conf_int (conf_int s f)) := by
  rw [conf_int_in]
  simp only [pfv_i_i64_to_b]
  rw [obO_pos trivial]
  unfold conf_int
  congr 2
  have := idxf_int_nonneg s f
  cases h : s.any f with
  | true => simp; exact this.2 h
  | false =>
    have : ¬ 0 ≤ idxf_int s f := fun e => by rw [this.1 e] at h; simp at h
    simpa using this

def F_conf_int : FnC Un := fun args => match args with
  | [x0, x1] => (dL .int x0).bind fun s => (dF x1).bind fun f => some ([f = (fv_i_i64_to_b (pf_i_i64_to_b f))], A_conf_int (conf_int s (pf_i_i64_to_b f)), O_conf_int (conf_int s (pf_i_i64_to_b f)))
  | _ => none

theorem ok_conf_int : FnOK 50 F_conf_int := by
  intro args ob rs os h hob
  unfold F_conf_int at h
  split at h
  · simp only [Option.bind_eq_some_iff, Option.some.injEq, Prod.mk.injEq] at h
    obtain ⟨s, e0, f, e1, rfl, rfl, rfl⟩ := h
    obtain rfl := dL_eq e0
    obtain rfl := dF_eq e1
    have hfv0 := hob _ (List.mem_of_getElem? (i := 0) rfl)
    generalize pf_i_i64_to_b f = pp0 at *
    subst hfv0
    exact ⟨fn_contractF (M := M_conf_int) rfl (tbl_ok (l1 := [(81, F_idxf_int)]) (l2 := []) (l3 := []) (l4 := []) (l5 := []) ⟨ok_idxf_int, trivial⟩ trivial trivial trivial trivial) Try.func50 (by kernel_rfl) N_conf_int 0 [.d] (fun hwf => (conf_int_spec s pp0 (wfArg hwf (a := .d (.v (.dat (U := Un) Ty.int s))) (List.mem_of_getElem? (i := 0) rfl)))), hasBody_of Try.func50 (by kernel_rfl) (by kernel_rfl)⟩
  · simp at h

mutual
def splitT : Term → List Term
  | .mk op v depth at_ name kids sub type => if op = 17 ∧ kids.length = 2 then splitTs kids else [.mk op v depth at_ name kids sub type]
def splitTs : List Term → List Term
  | [] => []
  | t :: r => splitT t ++ splitTs r
end
theorem splitT_eq (t : Term) : splitT t = if t.op = 17 ∧ t.kids.length = 2 then splitTs t.kids else [t] := by cases t; simp only [splitT]; rfl
mutual
theorem splitT_len : ∀ t : Term, (splitT t).length ≤ t.sz
  | .mk op v depth at_ name kids sub type => by
    have := splitTs_len kids
    simp only [splitT, Term.sz]
    split
    · omega
    · simp
theorem splitTs_len : ∀ l : List Term, (splitTs l).length ≤ szTs l
  | [] => by simp [splitTs, szTs]
  | t :: r => by have := splitT_len t; have := splitTs_len r; simp only [splitTs, szTs, List.length_append]; omega
end
def conj_Split (t : Term) : List Term := splitT t
@[simp] theorem conj_Split_eq (t : Term) : conj_Split t = splitT t := by unfold conj_Split; rfl


def A_conj_Split (r : List Term) : List (A Un) := [.c (.ob 0 0)]
def O_conj_Split (r : List Term) : List (Ob Un) := [⟨0, Ty.term, r, none, true⟩]

def Fm_conj_Split (m : Nat) : FnC Un := fun args => match args with
  | [x0] => (dS .term x0).bind fun t => some ([t.ht < m, t.sz ≤ 1000000], A_conj_Split (conj_Split t), O_conj_Split (conj_Split t))
  | _ => none

/-! ### conj.Split -/
def M_conj_Split (m : Nat) : Mc Un := mach (tbl [(10, Fm_conj_Split m)]) (tbl []) (tbl []) (tbl []) (tbl [])
def R_conj_Split (r : List Term) : RF Un := (A_conj_Split r, O_conj_Split r)
def N_conj_Split : Nat → NS := fun l => (look l []).getD ⟨[], [], [], [], []⟩
def conj_Split_fn (m : Nat) (t : Term) : Option (RF Un) := awf (M_conj_Split m) N_conj_Split (bodyOf Try.f10) (entry Try.f10.ntmps 0 [.d (.agg (enc Ty.term t))]) (retF (M_conj_Split m) Try.f10.results.toList [.o])
theorem conj_Split_in (m : Nat) (t : Term) : conj_Split_fn m t =
 cndO (t.op != 17)
  (some (R_conj_Split ([(Term.ids t)])))
  (cndO ((↑t.kids.length : Int) != (2 : Int))
   (some (R_conj_Split ([(Term.ids t)])))
   (obO ((0 : Int) ≤ (0 : Int) ∧ (0 : Int) < (↑t.kids.length : Int))
    (obO ((Term.ids (t.kids.getD 0 zeroTerm)).ht < m)
     (obO ((Term.ids (t.kids.getD 0 zeroTerm)).sz ≤ (1000000 : Nat))
      (obO ((0 : Int) ≤ (1 : Int) ∧ (1 : Int) < (↑t.kids.length : Int))
       (obO ((Term.ids (t.kids.getD 1 zeroTerm)).ht < m)
        (obO ((Term.ids (t.kids.getD 1 zeroTerm)).sz ≤ (1000000 : Nat))
         (obO (((conj_Split (Term.ids (t.kids.getD 0 zeroTerm))).length + (conj_Split (Term.ids (t.kids.getD 1 zeroTerm))).length) * (128 : Nat) ≤ roomB)
          (some (R_conj_Split (conj_Split (Term.ids (t.kids.getD 0 zeroTerm)) ++ conj_Split (Term.ids (t.kids.getD 1 zeroTerm))))))))))))) := by kernel_rfl

theorem conj_Split_spec (m : Nat) (t : Term) (_ht : WS .term t) (hm : t.ht < m + 1) (h : t.sz ≤ 1000000) : conj_Split_fn m t = some (R_conj_Split (conj_Split t)) := by
  rw [conj_Split_in]
  simp only [conj_Split_eq, Term.ids_eq, cndO_eq]
  conv => rhs; rw [splitT_eq]
  by_cases h1 : t.op = 17
  · by_cases h2 : t.kids.length = 2
    · obtain ⟨a, b, hab⟩ : ∃ a b, t.kids = [a, b] := by
        match hk : t.kids, h2 with
        | [a, b], _ => exact ⟨a, b, rfl⟩
      have ha : a ∈ t.kids := by rw [hab]; simp
      have hb : b ∈ t.kids := by rw [hab]; simp
      have hta := Term.ht_kid ha
      have htb := Term.ht_kid hb
      have hsz := t.sz_eq
      have hs : szTs t.kids = a.sz + b.sz := by rw [hab]; simp [szTs]
      have la := splitT_len a
      have lb := splitT_len b
      rw [if_neg (by simp [h1]), if_neg (by simp [h2]), if_pos ⟨h1, h2⟩, hab]
      have e0 : [a, b].getD 0 zeroTerm = a := rfl
      have e1 : [a, b].getD 1 zeroTerm = b := rfl
      rw [e0, e1, obO_pos (by simp), obO_pos (by omega), obO_pos (by omega), obO_pos (by simp), obO_pos (by omega), obO_pos (by omega), obO_pos (by unfold roomB; omega)]
      simp [splitTs]
    · rw [if_neg (by simp [h1]), if_pos (by simp; omega), if_neg (fun e => h2 e.2)]
  · rw [if_pos (by simpa using h1), if_neg (fun e => h1 e.1)]

theorem okm_conj_Split (m : Nat) (h_conj_Split : FnOK 10 (Fm_conj_Split m)) : FnOK 10 (Fm_conj_Split (m + 1)) := by
  intro args ob rs os h hob
  unfold Fm_conj_Split at h
  split at h
  · simp only [Option.bind_eq_some_iff, Option.some.injEq, Prod.mk.injEq] at h
    obtain ⟨t, e0, rfl, rfl, rfl⟩ := h
    obtain rfl := dS_eq e0
    exact ⟨fn_contractF (M := (M_conj_Split m)) rfl (tbl_ok (l1 := [(10, Fm_conj_Split m)]) (l2 := []) (l3 := []) (l4 := []) (l5 := []) ⟨h_conj_Split, trivial⟩ trivial trivial trivial trivial) Try.func10 (by kernel_rfl) N_conj_Split 0 [.o] (fun hwf => (conj_Split_spec m t (wfArg hwf (a := .d (.agg (enc Ty.term t))) (List.mem_of_getElem? (i := 0) rfl)) (hob _ (List.mem_of_getElem? (i := 0) rfl)) (hob _ (List.mem_of_getElem? (i := 1) rfl)))), hasBody_of Try.func10 (by kernel_rfl) (by kernel_rfl)⟩
  · simp at h


theorem okAll_splitG : ∀ m, FnOK 10 (Fm_conj_Split m)
  | 0 => by
    skip
    intro args ob rs os h hob
    unfold Fm_conj_Split at h
    split at h
    · simp only [Option.bind_eq_some_iff, Option.some.injEq, Prod.mk.injEq] at h
      obtain ⟨_, _, rfl, _, _⟩ := h
      exact absurd (hob _ (List.mem_of_getElem? (i := 0) rfl)) (Nat.not_lt_zero _)
    · simp at h
  | m + 1 => by
    have ih := okAll_splitG m
    exact okm_conj_Split m ih

def F_conj_Split : FnC Un := fun args => match args with
  | [x0] => (dS .term x0).bind fun t => some ([t.sz ≤ 1000000], A_conj_Split (conj_Split t), O_conj_Split (conj_Split t))
  | _ => none

theorem ok_conj_Split : FnOK 10 F_conj_Split := by
  intro args ob rs os h hob
  unfold F_conj_Split at h
  split at h
  · simp only [Option.bind_eq_some_iff, Option.some.injEq, Prod.mk.injEq] at h
    obtain ⟨t, e0, rfl, rfl, rfl⟩ := h
    refine ((okAll_splitG (t.ht + 1))) _ [t.ht < t.ht + 1, t.sz ≤ 1000000] _ _ (?_ : Fm_conj_Split (t.ht + 1) _ = some _) ?_
    · unfold Fm_conj_Split
      simp only [e0, Option.bind_some]
    · intro p hp
      simp only [List.mem_cons, List.not_mem_nil, or_false] at hp
      rcases hp with rfl | rfl
      · exact Nat.lt_succ_self _
      · exact hob _ (List.mem_of_getElem? (i := 0) rfl)
  · simp at h

end
end Go.Proofs.Ytaepcbdcjbfgjaa.B
