/- Part 14 of the proof: Sconj3 Sleavesp Lbulksz Lscalar Lcompare Slcmp Svcmp Snum. -/
import Derived.Lib.Bytealg
import Derived.Lib.Strings
import Derived.Lib.Walk
import Derived.Test.YtjmpnpkcgkhagaaGreatCtr13
namespace Go.Proofs.YtjmpnpkcgkhagaaGreat.B
open Go Go.RowKit
set_option maxRecDepth 100000
noncomputable section
attribute [local irreducible] awp ctxK itersK iterK retQ retGQ awf ctxF loopF
def M_idxf_int : Mc Un := mach (tbl []) (tbl []) (tbl []) (tbl []) (tbl [])
def A_idxf_int (r : Int) : List (A Un) := [.c (.s (.int .i64 r))]
def O_idxf_int (_r : Int) : List (Ob Un) := []
def R_idxf_int (r : Int) : RF Un := (A_idxf_int r, O_idxf_int r)
def N_idxf_int : Nat → NS := fun l => (look l [(2, { ts := bl 19 403, bs := bl 19 0, nm := [] })]).getD ⟨[], [], [], [], [], false⟩
def idxf_int_s2 (s : List Int) (f : Int → Bool) (v0 : Int) : S Un := (st 19 19 76 0 [(0, al .int s), (1, AV.one (A.c (C.fv (fv_i_i64_to_b f)))), (4, ai (0 : Int)), (7, ai (↑s.length : Int)), (8, ai v0)] [] [])
def idxf_int_e2_ret (s : List Int) (f : Int → Bool) (v0 : Int) (v1 : Int) : S Un := (st 19 19 76 0 [(0, al .int s), (1, AV.one (A.c (C.fv (fv_i_i64_to_b f)))), (4, ai v1), (7, ai (↑s.length : Int)), (8, ai v0)] [] [])
def idxf_int_B2 : Code := sub (bodyOf Tryz.f63) [1, 0, 1, 2, 2]
def idxf_int_L2 : S Un → Option (EX Un) := loopF (N_idxf_int 2) (fun s Q => awf M_idxf_int N_idxf_int idxf_int_B2 s Q)
def idxf_int_C2 : Exit → S Un → Option (RF Un) := ctxF M_idxf_int N_idxf_int (bodyOf Tryz.f63) [1, 0, 1, 2] (retF M_idxf_int Tryz.f63.results.toList [.d])
def idxf_int_fn (s : List Int) (f : Int → Bool) : Option (RF Un) := awf M_idxf_int N_idxf_int (bodyOf Tryz.f63) (entry Tryz.f63.ntmps 0 [.d (.v (.dat (U := Un) Ty.int s)), .fn (fv_i_i64_to_b f)]) (retF M_idxf_int Tryz.f63.results.toList [.d])
theorem idxf_int_in (s : List Int) (f : Int → Bool) : idxf_int_fn s f =
 (idxf_int_L2 (idxf_int_s2 s f (0 : Int))).bind (thenX idxf_int_C2) := by kernel_rfl
theorem idxf_int_l2 (s : List Int) (f : Int → Bool) (v0 : Int) : idxf_int_L2 (idxf_int_s2 s f v0) =
 cndO (decide (v0 < (↑s.length : Int)))
  (obO (0 ≤ v0 ∧ v0 < (↑s.length : Int))
   (cndO (f (s.getD v0.toNat (0 : Int)))
    (some (.ret, (idxf_int_e2_ret s f v0 v0)))
    (idxf_int_L2 (idxf_int_s2 s f (IntKind.i64.wrap (v0 + 1))))))
  (some (.exit 0, (idxf_int_s2 s f v0))) := (loopF_eq (N_idxf_int 2) idxf_int_B2 _).trans (by kernel_rfl)
theorem idxf_int_a2_ret (s : List Int) (f : Int → Bool) (v0 : Int) (v1 : Int) : idxf_int_C2 .ret (idxf_int_e2_ret s f v0 v1) =
 some (R_idxf_int (v1)) := by kernel_rfl
theorem idxf_int_a2_x0 (s : List Int) (f : Int → Bool) (v0 : Int) : idxf_int_C2 (.exit 0) (idxf_int_s2 s f v0) =
 some (R_idxf_int ((-1 : Int))) := by kernel_rfl
def idxf_int (s : List Int) (f : Int → Bool) : Int := match s.findIdx? f with | some i => (i : Int) | none => -1
theorem idxf_int_nonneg (s : List Int) (f : Int → Bool) : 0 ≤ idxf_int s f ↔ s.any f = true := by
  unfold idxf_int
  cases h : s.findIdx? f with
  | none =>
    have := List.findIdx?_eq_none_iff.1 h
    simp only [List.any_eq_true]
    constructor
    · intro h1; exact absurd h1 (by decide)
    · rintro ⟨x, hx, hf⟩; rw [this x hx] at hf; simp at hf
  | some i =>
    obtain ⟨h1, h2, _⟩ := List.findIdx?_eq_some_iff_getElem.1 h
    simp only [List.any_eq_true]
    exact ⟨fun _ => ⟨s[i], List.getElem_mem h1, h2⟩, fun _ => by omega⟩
theorem idxf_int_spec (s : List Int) (f : Int → Bool) (hs : WL .int s) : idxf_int_fn s f = some (R_idxf_int (idxf_int s f)) := by
  have key : ∀ (r : List Int) (i : Nat), s.drop i = r → i ≤ s.length → (idxf_int_L2 (idxf_int_s2 s f i)).bind (thenX idxf_int_C2) = some (R_idxf_int (match r.findIdx? f with | some k => ((i + k : Nat) : Int) | none => -1)) := by
    intro r
    induction r with
    | nil =>
      intro i hr hi
      have : s.length ≤ i := by rw [← List.drop_eq_nil_iff]; exact hr
      have e : idxf_int_L2 (idxf_int_s2 s f i) = some (.exit 0, idxf_int_s2 s f i) := by rw [idxf_int_l2, cndO_eq, if_neg (by simp; omega)]
      rw [loop_end e, idxf_int_a2_x0]; rfl
    | cons x r ih =>
      intro i hr hi
      obtain ⟨a1, a2, a3, _⟩ := drop_cons hr
      have hx : s.getD i 0 = x := a2 0
      by_cases hf : f x = true
      · have e : idxf_int_L2 (idxf_int_s2 s f i) = some (.ret, idxf_int_e2_ret s f i i) := by
          rw [idxf_int_l2, cndO_eq, if_pos (by simp; omega), obO_pos (by omega), Int.toNat_natCast, hx, cndO_eq, if_pos hf]
        rw [loop_end e, idxf_int_a2_ret]
        simp [List.findIdx?_cons, hf]
      · have e : idxf_int_L2 (idxf_int_s2 s f i) = idxf_int_L2 (idxf_int_s2 s f ((i + 1 : Nat) : Int)) := by
          rw [idxf_int_l2, cndO_eq, if_pos (by simp; omega), obO_pos (by omega), Int.toNat_natCast, hx, cndO_eq, if_neg hf, wrap_next a1 hs.len]
        rw [e, ih (i + 1) a3 (by omega)]
        congr 2
        simp only [List.findIdx?_cons, hf]
        cases r.findIdx? f with
        | none => rfl
        | some k => simp; omega
  rw [idxf_int_in]
  have := key s 0 rfl (Nat.zero_le _)
  refine Eq.trans this ?_
  unfold idxf_int
  cases s.findIdx? f <;> simp
def F_idxf_int : FnC Un := fun args => match args with
  | [x0, x1] => (dL .int x0).bind fun s => (dF x1).bind fun f => some ([f = (fv_i_i64_to_b (pf_i_i64_to_b f))], A_idxf_int (idxf_int s (pf_i_i64_to_b f)), O_idxf_int (idxf_int s (pf_i_i64_to_b f)))
  | _ => none
theorem ok_idxf_int : FnOK 63 F_idxf_int := by
  intro args ob rs os h hob
  unfold F_idxf_int at h
  split at h
  · simp only [Option.bind_eq_some_iff, Option.some.injEq, Prod.mk.injEq] at h
    obtain ⟨s, e0, f, e1, rfl, rfl, rfl⟩ := h
    obtain rfl := dL_eq e0
    obtain rfl := dF_eq e1
    have hfv0 := hob _ (List.mem_of_getElem? (i := 0) rfl)
    generalize pf_i_i64_to_b f = pp0 at *
    subst hfv0
    exact ⟨fn_contractF (M := M_idxf_int) rfl (tbl_ok (l1 := []) (l2 := []) (l3 := []) (l4 := []) (l5 := []) trivial trivial trivial trivial trivial) Tryz.func63 (by kernel_rfl) N_idxf_int 0 [.d] (fun hwf => (idxf_int_spec s pp0 (wfArg hwf (a := .d (.v (.dat (U := Un) Ty.int s))) (List.mem_of_getElem? (i := 0) rfl)))), hasBody_of Tryz.func63 (by kernel_rfl) (by kernel_rfl)⟩
  · simp at h
def M_conf_int : Mc Un := mach (tbl [(63, F_idxf_int)]) (tbl []) (tbl []) (tbl []) (tbl [])
def A_conf_int (r : Bool) : List (A Un) := [.c (.s (.bool r))]
def O_conf_int (_r : Bool) : List (Ob Un) := []
def R_conf_int (r : Bool) : RF Un := (A_conf_int r, O_conf_int r)
def N_conf_int : Nat → NS := fun l => (look l []).getD ⟨[], [], [], [], [], false⟩
def conf_int_fn (s : List Int) (f : Int → Bool) : Option (RF Un) := awf M_conf_int N_conf_int (bodyOf Tryz.f29) (entry Tryz.f29.ntmps 0 [.d (.v (.dat (U := Un) Ty.int s)), .fn (fv_i_i64_to_b f)]) (retF M_conf_int Tryz.f29.results.toList [.d])
theorem conf_int_in (s : List Int) (f : Int → Bool) : conf_int_fn s f =
 obO (fv_i_i64_to_b f = fv_i_i64_to_b (pf_i_i64_to_b (fv_i_i64_to_b f)))
  (some (R_conf_int (decide (idxf_int s (pf_i_i64_to_b (fv_i_i64_to_b f)) ≥ 0)))) := by kernel_rfl
def conf_int (s : List Int) (f : Int → Bool) : Bool := s.any f
@[simp] theorem conf_int_eq (s : List Int) (f : Int → Bool) : conf_int s f = s.any f := by unfold conf_int; rfl
theorem conf_int_spec (s : List Int) (f : Int → Bool) (_hs : WL .int s) : conf_int_fn s f = some (R_conf_int (conf_int s f)) := by
  rw [conf_int_in]
  simp only [pfv_i_i64_to_b]
  rw [obO_pos trivial]
  unfold conf_int
  congr 2
  have := idxf_int_nonneg s f
  cases h : s.any f with
  | true => simp; exact this.2 h
  | false =>
    have : ¬ 0 ≤ idxf_int s f := fun e => by rw [this.1 e] at h; simp at h
    simpa using this
def F_conf_int : FnC Un := fun args => match args with
  | [x0, x1] => (dL .int x0).bind fun s => (dF x1).bind fun f => some ([f = (fv_i_i64_to_b (pf_i_i64_to_b f))], A_conf_int (conf_int s (pf_i_i64_to_b f)), O_conf_int (conf_int s (pf_i_i64_to_b f)))
  | _ => none
theorem ok_conf_int : FnOK 29 F_conf_int := by
  intro args ob rs os h hob
  unfold F_conf_int at h
  split at h
  · simp only [Option.bind_eq_some_iff, Option.some.injEq, Prod.mk.injEq] at h
    obtain ⟨s, e0, f, e1, rfl, rfl, rfl⟩ := h
    obtain rfl := dL_eq e0
    obtain rfl := dF_eq e1
    have hfv0 := hob _ (List.mem_of_getElem? (i := 0) rfl)
    generalize pf_i_i64_to_b f = pp0 at *
    subst hfv0
    exact ⟨fn_contractF (M := M_conf_int) rfl (tbl_ok (l1 := [(63, F_idxf_int)]) (l2 := []) (l3 := []) (l4 := []) (l5 := []) ⟨ok_idxf_int, trivial⟩ trivial trivial trivial trivial) Tryz.func29 (by kernel_rfl) N_conf_int 0 [.d] (fun hwf => (conf_int_spec s pp0 (wfArg hwf (a := .d (.v (.dat (U := Un) Ty.int s))) (List.mem_of_getElem? (i := 0) rfl)))), hasBody_of Tryz.func29 (by kernel_rfl) (by kernel_rfl)⟩
  · simp at h
mutual
def splitT : Term → List Term
  | .mk op v depth at_ name kids sub type => if op = 17 ∧ kids.length = 2 then splitTs kids else [.mk op v depth at_ name kids sub type]
def splitTs : List Term → List Term
  | [] => []
  | t :: r => splitT t ++ splitTs r
end
theorem splitT_eq (t : Term) : splitT t = if t.op = 17 ∧ t.kids.length = 2 then splitTs t.kids else [t] := by cases t; simp only [splitT]; rfl
mutual
theorem splitT_len : ∀ t : Term, (splitT t).length ≤ t.sz
  | .mk op v depth at_ name kids sub type => by
    have := splitTs_len kids
    simp only [splitT, Term.sz]
    split
    · omega
    · simp
theorem splitTs_len : ∀ l : List Term, (splitTs l).length ≤ szTs l
  | [] => by simp [splitTs, szTs]
  | t :: r => by have := splitT_len t; have := splitTs_len r; simp only [splitTs, szTs, List.length_append]; omega
end
def conj_Split (t : Term) : List Term := splitT t
@[simp] theorem conj_Split_eq (t : Term) : conj_Split t = splitT t := by unfold conj_Split; rfl
def A_conj_Split (r : List Term) : List (A Un) := [.c (.ob 0 0)]
def O_conj_Split (r : List Term) : List (Ob Un) := [⟨0, Ty.term, r, none, true⟩]
def Fm_conj_Split (m : Nat) : FnC Un := fun args => match args with
  | [x0] => (dS .term x0).bind fun t => some ([t.ht < m, t.sz ≤ 2000000], A_conj_Split (conj_Split t), O_conj_Split (conj_Split t))
  | _ => none
def M_conj_Split (m : Nat) : Mc Un := mach (tbl [(12, Fm_conj_Split m)]) (tbl []) (tbl []) (tbl []) (tbl [])
def R_conj_Split (r : List Term) : RF Un := (A_conj_Split r, O_conj_Split r)
def N_conj_Split : Nat → NS := fun l => (look l []).getD ⟨[], [], [], [], [], false⟩
def conj_Split_fn (m : Nat) (t : Term) : Option (RF Un) := awf (M_conj_Split m) N_conj_Split (bodyOf Tryz.f12) (entry Tryz.f12.ntmps 0 [.d (.agg (enc Ty.term t))]) (retF (M_conj_Split m) Tryz.f12.results.toList [.o])
theorem conj_Split_in (m : Nat) (t : Term) : conj_Split_fn m t =
 cndO (t.op != 17)
  (some (R_conj_Split ([(Term.ids t)])))
  (cndO ((↑t.kids.length : Int) != (2 : Int))
   (some (R_conj_Split ([(Term.ids t)])))
   (obO ((0 : Int) ≤ (0 : Int) ∧ (0 : Int) < (↑t.kids.length : Int))
    (obO ((Term.ids (t.kids.getD 0 zeroTerm)).ht < m)
     (obO ((Term.ids (t.kids.getD 0 zeroTerm)).sz ≤ (2000000 : Nat))
      (obO ((0 : Int) ≤ (1 : Int) ∧ (1 : Int) < (↑t.kids.length : Int))
       (obO ((Term.ids (t.kids.getD 1 zeroTerm)).ht < m)
        (obO ((Term.ids (t.kids.getD 1 zeroTerm)).sz ≤ (2000000 : Nat))
         (obO (((conj_Split (Term.ids (t.kids.getD 0 zeroTerm))).length + (conj_Split (Term.ids (t.kids.getD 1 zeroTerm))).length) * (128 : Nat) ≤ roomB)
          (some (R_conj_Split (conj_Split (Term.ids (t.kids.getD 0 zeroTerm)) ++ conj_Split (Term.ids (t.kids.getD 1 zeroTerm))))))))))))) := by kernel_rfl
theorem conj_Split_spec (m : Nat) (t : Term) (_ht : WS .term t) (hm : t.ht < m + 1) (h : t.sz ≤ 2000000) : conj_Split_fn m t = some (R_conj_Split (conj_Split t)) := by
  rw [conj_Split_in]
  simp only [conj_Split_eq, Term.ids_eq, cndO_eq]
  conv => rhs; rw [splitT_eq]
  by_cases h1 : t.op = 17
  · by_cases h2 : t.kids.length = 2
    · obtain ⟨a, b, hab⟩ : ∃ a b, t.kids = [a, b] := by
        match hk : t.kids, h2 with
        | [a, b], _ => exact ⟨a, b, rfl⟩
      have ha : a ∈ t.kids := by rw [hab]; simp
      have hb : b ∈ t.kids := by rw [hab]; simp
      have hta := Term.ht_kid ha
      have htb := Term.ht_kid hb
      have hsz := t.sz_eq
      have hs : szTs t.kids = a.sz + b.sz := by rw [hab]; simp [szTs]
      have la := splitT_len a
      have lb := splitT_len b
      rw [if_neg (by simp [h1]), if_neg (by simp [h2]), if_pos ⟨h1, h2⟩, hab]
      have e0 : [a, b].getD 0 zeroTerm = a := rfl
      have e1 : [a, b].getD 1 zeroTerm = b := rfl
      rw [e0, e1, obO_pos (by simp), obO_pos (by omega), obO_pos (by omega), obO_pos (by simp), obO_pos (by omega), obO_pos (by omega), obO_pos (by unfold roomB; omega)]
      simp [splitTs]
    · rw [if_neg (by simp [h1]), if_pos (by simp; omega), if_neg (fun e => h2 e.2)]
  · rw [if_pos (by simpa using h1), if_neg (fun e => h1 e.1)]
theorem okm_conj_Split (m : Nat) (h_conj_Split : FnOK 12 (Fm_conj_Split m)) : FnOK 12 (Fm_conj_Split (m + 1)) := by
  intro args ob rs os h hob
  unfold Fm_conj_Split at h
  split at h
  · simp only [Option.bind_eq_some_iff, Option.some.injEq, Prod.mk.injEq] at h
    obtain ⟨t, e0, rfl, rfl, rfl⟩ := h
    obtain rfl := dS_eq e0
    exact ⟨fn_contractF (M := (M_conj_Split m)) rfl (tbl_ok (l1 := [(12, Fm_conj_Split m)]) (l2 := []) (l3 := []) (l4 := []) (l5 := []) ⟨h_conj_Split, trivial⟩ trivial trivial trivial trivial) Tryz.func12 (by kernel_rfl) N_conj_Split 0 [.o] (fun hwf => (conj_Split_spec m t (wfArg hwf (a := .d (.agg (enc Ty.term t))) (List.mem_of_getElem? (i := 0) rfl)) (hob _ (List.mem_of_getElem? (i := 0) rfl)) (hob _ (List.mem_of_getElem? (i := 1) rfl)))), hasBody_of Tryz.func12 (by kernel_rfl) (by kernel_rfl)⟩
  · simp at h
theorem okAll_splitG : ∀ m, FnOK 12 (Fm_conj_Split m)
  | 0 => by
    skip
    intro args ob rs os h hob
    unfold Fm_conj_Split at h
    split at h
    · simp only [Option.bind_eq_some_iff, Option.some.injEq, Prod.mk.injEq] at h
      obtain ⟨_, _, rfl, _, _⟩ := h
      exact absurd (hob _ (List.mem_of_getElem? (i := 0) rfl)) (Nat.not_lt_zero _)
    · simp at h
  | m + 1 => by
    have ih := okAll_splitG m
    exact okm_conj_Split m ih
def F_conj_Split : FnC Un := fun args => match args with
  | [x0] => (dS .term x0).bind fun t => some ([t.sz ≤ 2000000], A_conj_Split (conj_Split t), O_conj_Split (conj_Split t))
  | _ => none
theorem ok_conj_Split : FnOK 12 F_conj_Split := by
  intro args ob rs os h hob
  unfold F_conj_Split at h
  split at h
  · simp only [Option.bind_eq_some_iff, Option.some.injEq, Prod.mk.injEq] at h
    obtain ⟨t, e0, rfl, rfl, rfl⟩ := h
    refine ((okAll_splitG (t.ht + 1))) _ [t.ht < t.ht + 1, t.sz ≤ 2000000] _ _ (?_ : Fm_conj_Split (t.ht + 1) _ = some _) ?_
    · unfold Fm_conj_Split
      simp only [e0, Option.bind_some]
    · intro p hp
      simp only [List.mem_cons, List.not_mem_nil, or_false] at hp
      rcases hp with rfl | rfl
      · exact Nat.lt_succ_self _
      · exact hob _ (List.mem_of_getElem? (i := 0) rfl)
  · simp at h
end
end Go.Proofs.YtjmpnpkcgkhagaaGreat.B
namespace Go.Proofs.YtjmpnpkcgkhagaaGreat.B
open Go Go.RowKit
set_option maxRecDepth 100000
noncomputable section
attribute [local irreducible] awp ctxK itersK iterK retQ retGQ awf ctxF loopF
mutual
theorem splitT_sz : ∀ t : Term, szTs (splitT t) ≤ t.sz
  | .mk op v depth at_ name kids sub type => by
    have := splitTs_sz kids
    simp only [splitT]
    split
    · simp only [Term.sz]; omega
    · simp only [szTs, Nat.add_zero]; exact Nat.le_refl _
theorem splitTs_sz : ∀ l : List Term, szTs (splitTs l) ≤ szTs l
  | [] => by simp [splitTs]
  | t :: r => by
    have h1 := splitT_sz t
    have h2 := splitTs_sz r
    simp only [splitTs, szTs, szTs_append]; omega
end
section
variable {mv : Term → List Int → Term}
end
mutual
theorem mapT_sz (p : Term → Int → Term) : ∀ (t : Term) (d : Int), (mapT p d t).sz = t.sz
  | .mk op v depth at_ name kids sub type, d => by
    simp only [mapT, Term.sz]
    rw [mapTs_sz p kids d, mapRs_sz p sub (d + 1)]
theorem mapTs_sz (p : Term → Int → Term) : ∀ (l : List Term) (d : Int), szTs (mapTs p d l) = szTs l
  | [], _ => rfl
  | t :: r, d => by simp only [mapTs, szTs]; rw [mapT_sz p t d, mapTs_sz p r d]
theorem mapA_sz (p : Term → Int → Term) : ∀ (a : Agg) (d : Int), (mapA p d a).sz = a.sz
  | .mk name distinct t, d => by simp only [mapA, Agg.sz]; rw [mapTs_sz p t d]
theorem mapAs_sz (p : Term → Int → Term) : ∀ (l : List Agg) (d : Int), szAs (mapAs p d l) = szAs l
  | [], _ => rfl
  | t :: r, d => by simp only [mapAs, szAs]; rw [mapA_sz p t d, mapAs_sz p r d]
theorem mapR_sz (p : Term → Int → Term) : ∀ (r : Rel) (d : Int), (mapR p d r).sz = r.sz
  | .mk op table cols kids terms aggs keys limit skip all rows, d => by
    simp only [mapR, Rel.sz]
    rw [mapRs_sz p kids d, mapTs_sz p terms d, mapAs_sz p aggs d]
theorem mapRs_sz (p : Term → Int → Term) : ∀ (l : List Rel) (d : Int), szRs (mapRs p d l) = szRs l
  | [], _ => rfl
  | t :: r, d => by simp only [mapRs, szRs]; rw [mapR_sz p t d, mapRs_sz p r d]
end
mutual
def DT : Term → Prop
  | .mk _ _ depth _ _ kids sub _ => WI depth ∧ DTs kids ∧ DRs sub
def DTs : List Term → Prop
  | [] => True
  | t :: r => DT t ∧ DTs r
def DA : Agg → Prop
  | .mk _ _ t => DTs t
def DAs : List Agg → Prop
  | [] => True
  | t :: r => DA t ∧ DAs r
def DR : Rel → Prop
  | .mk _ _ _ kids terms aggs _ _ _ _ _ => DRs kids ∧ DTs terms ∧ DAs aggs
def DRs : List Rel → Prop
  | [] => True
  | t :: r => DR t ∧ DRs r
end
mutual
theorem DT_of : ∀ t : Term, WS .term t → DT t
  | .mk op v depth at_ name kids sub type, h => by
    have hk : WL .term kids := h.term_kids
    have hs : WL .rel sub := h.term_sub
    exact ⟨h.term_depth, DTs_of kids hk, DRs_of sub hs⟩
theorem DTs_of : ∀ l : List Term, WL .term l → DTs l
  | [], _ => trivial
  | t :: r, h => ⟨DT_of t (h.get List.mem_cons_self), DTs_of r (h.drop 1)⟩
theorem DA_of : ∀ a : Agg, WS .agg a → DA a
  | .mk name distinct t, h => by
    have hk : WL .term t := h.agg_t
    exact DTs_of t hk
theorem DAs_of : ∀ l : List Agg, WL .agg l → DAs l
  | [], _ => trivial
  | t :: r, h => ⟨DA_of t (h.get List.mem_cons_self), DAs_of r (h.drop 1)⟩
theorem DR_of : ∀ r : Rel, WS .rel r → DR r
  | .mk op table cols kids terms aggs keys limit skip all rows, h => by
    have hk : WL .rel kids := h.rel_kids
    have ht : WL .term terms := h.rel_terms
    have ha : WL .agg aggs := h.rel_aggs
    exact ⟨DRs_of kids hk, DTs_of terms ht, DAs_of aggs ha⟩
theorem DRs_of : ∀ l : List Rel, WL .rel l → DRs l
  | [], _ => trivial
  | t :: r, h => ⟨DR_of t (h.get List.mem_cons_self), DRs_of r (h.drop 1)⟩
end
section
variable {p q : Term → Int → Term} {D : Int}
end
section
variable {ma mb : Term → List Int → Term} {B : Nat}
end
end
end Go.Proofs.YtjmpnpkcgkhagaaGreat.B
namespace Go.Proofs.YtjmpnpkcgkhagaaGreat.B
open Go Go.RowKit
set_option linter.unusedVariables false
theorem BKS.cons_inv {v : V Un} {vs : List (V Un)} {n : Nat} (h : BKS (v :: vs) n) : ∃ a b, BK v a ∧ BKS vs b ∧ a + b ≤ n := by
  cases h with
  | cons _ _ a b _ h1 h2 hn => exact ⟨a, b, h1, h2, hn⟩
theorem BKL.cons_inv {τ : Ty} {x : Den τ} {xs : List (Den τ)} {n : Nat} (h : BKL τ (x :: xs) n) : ∃ a b, BKS (enc τ x) a ∧ BKL τ xs b ∧ a + 1 + b ≤ n := by
  cases h with
  | cons _ _ _ a b _ h1 h2 hn => exact ⟨a, b, h1, h2, hn⟩
theorem BK.dat_inv {τ : Ty} {xs : List (Den τ)} {n : Nat} (h : BK (.dat (U := Un) τ xs) n) : BKL τ xs n := by
  cases h with
  | dat _ _ _ h => exact h
theorem BKL.len {τ : Ty} : ∀ {xs : List (Den τ)} {n : Nat}, BKL τ xs n → xs.length ≤ n
  | [], _, _ => Nat.zero_le _
  | x :: xs, n, h => by
    obtain ⟨a, b, _, h2, hn⟩ := h.cons_inv
    have := BKL.len h2
    rw [List.length_cons]; omega
end Go.Proofs.YtjmpnpkcgkhagaaGreat.B
namespace Go.Proofs.YtjmpnpkcgkhagaaGreat.B
open Go Go.RowKit
set_option maxRecDepth 1000000
theorem contract_scalar {f : FuncId} {args : List (D Un)} {v : Value} (hv : oneC v = true)
    (h : ∀ (w : World) (vs : List Value), (∀ St, All2 (DRel Tryz.prog En St w) vs args → Calls Tryz.prog f vs.toArray w fun e w' => e = .returned v ∧ w' = w)) : Contract Tryz.prog En f args [.c (.s v)] [] := by
  intro w St vs hbd hvs
  refine (h w vs St hvs).mono ?_
  rintro e w' ⟨rfl, rfl⟩
  let gg : G := { β := fun _ => 0, lb := fun _ => False, ω := fun _ _ => none, tk := fun _ => (none, 0) }
  exact ⟨_, rfl, Ext.refl _, gg, fun _ h => h, fun b o x _ h => by simp [gg] at h, fun b o x h => by simp [gg] at h, ⟨rfl, hv⟩, fun k o h => by simp at h⟩
theorem drel_str {St : Nat → Nat → Prop} {w : World} {v : Value} {s : ByteArray} (h : DRel Tryz.prog En St w v (.d (.v (cs s)))) : v = .string s ∧ s.size ≤ 9223372036854775807 := by
  have h' : VRel En St w v (.s (.string s)) := h
  cases h' with | s _ h => exact ⟨rfl, oneC_str.1 h⟩
theorem drel_int {St : Nat → Nat → Prop} {w : World} {v : Value} {k : IntKind} {n : Int} (h : DRel Tryz.prog En St w v (.d (.v (.s (.int k n))))) : v = .int k n ∧ k.min ≤ n ∧ n ≤ k.max := by
  have h' : VRel En St w v (.s (.int k n)) := h
  cases h' with | s _ h => exact ⟨rfl, of_decide_eq_true h⟩
end Go.Proofs.YtjmpnpkcgkhagaaGreat.B
namespace Go.Proofs.YtjmpnpkcgkhagaaGreat.B
open Go Go.RowKit
set_option maxRecDepth 1000000
theorem compareString_any (a b : ByteArray) (w : World) :
    Calls Tryz.prog 115 #[.string a, .string b] w fun e w' => e = .returned (.int .i64 (Lib.compareBytes a.data.toList b.data.toList)) ∧ w' = w := by
  have mixed : Tryz.prog.follows .mixedOrders = true := by kernel_rfl
  go_enter Tryz.func115, Tryz.ntmps115
  go_wp2
  rw [run_callFunc_extern Tryz.func127 (by kernel_rfl) (by kernel_rfl) (by kernel_rfl) (e := Extern.BytealgCompare.compare) (by kernel_rfl), Lib.run_compareString]
  simp only [Result.andThen]
  rw [Oper.upon_value]
  go_wp2
  go_ret
  exact ⟨rfl, rfl⟩
theorem compareBytes_eq : ∀ (a b : List UInt8), Lib.compareBytes a b = cmpL a b
  | [], [] => rfl
  | [], _ :: _ => rfl
  | _ :: _, [] => rfl
  | x :: a, y :: b => by
    have hlt : ∀ p q : UInt8, (p < q) = ((p.toNat : Int) < q.toNat) := fun p q => by simp [UInt8.lt_iff_toNat_lt]
    simp only [Lib.compareBytes, cmpL, cmpI, hlt]
    by_cases h : x = y
    · subst h; simp [compareBytes_eq a b]
    · have hne : x.toNat ≠ y.toNat := fun e => h (UInt8.toNat_inj.1 e)
      rw [if_neg h]
      by_cases h1 : (x.toNat : Int) < y.toNat
      · rw [if_pos h1, if_pos h1]
      · rw [if_neg h1, if_neg h1, if_pos (by omega), if_pos (by omega)]
theorem cmpL_range : ∀ (a b : List UInt8), -1 ≤ cmpL a b ∧ cmpL a b ≤ 1
  | [], [] => by simp [cmpL]
  | [], _ :: _ => by simp [cmpL]
  | _ :: _, [] => by simp [cmpL]
  | x :: a, y :: b => by
    simp only [cmpL, cmpI]
    have := cmpL_range a b
    repeat' split
    all_goals omega
def F_internal_bytealg_CompareString : FnC Un := fun args => match args with
  | [x0, x1] => (dStr x0).bind fun a => (dStr x1).bind fun b => some ([], [.c (.s (.int .i64 (cmpS a b)))], [])
  | _ => none
theorem ok_internal_bytealg_CompareString : FnOK 115 F_internal_bytealg_CompareString := by
  intro args ob rs os h hob
  unfold F_internal_bytealg_CompareString at h
  split at h
  · rename_i x0 x1
    simp only [Option.bind_eq_some_iff, Option.some.injEq, Prod.mk.injEq] at h
    obtain ⟨s, e0, t, e1, rfl, rfl, rfl⟩ := h
    obtain rfl := dStr_eq e0
    obtain rfl := dStr_eq e1
    refine ⟨?_, hasBody_of Tryz.func115 (by kernel_rfl) (by kernel_rfl)⟩
    have hr := cmpL_range s.toList t.toList
    refine contract_scalar (oneC_i64.2 (by unfold cmpS; omega)) fun w vs St hvs => ?_
    match vs, hvs with
    | [v0, v1], ⟨h0, h1, _⟩ =>
      obtain ⟨rfl, -⟩ := drel_str h0
      obtain ⟨rfl, -⟩ := drel_str h1
      refine (compareString_any s t w).mono ?_
      rintro e w' ⟨rfl, rfl⟩
      refine ⟨?_, rfl⟩
      rw [compareBytes_eq]; unfold cmpS
      rw [ByteArray.toList_eq, ByteArray.toList_eq]
  · simp at h
end Go.Proofs.YtjmpnpkcgkhagaaGreat.B
namespace Go.Proofs.YtjmpnpkcgkhagaaGreat.B
open Go Go.RowKit
set_option maxRecDepth 100000
noncomputable section
attribute [local irreducible] awp ctxK itersK iterK retQ retGQ
def M_strings_Compare : Mc Un := mach (tbl [(115, F_internal_bytealg_CompareString)]) (tbl []) (tbl []) (tbl []) (tbl [])
def N_strings_Compare : Nat → NS := fun l => (look l []).getD ⟨[], [], [], [], [], false⟩
def A_strings_Compare (r : Int) : List (A Un) := [.c (.s (.int .i64 r))]
def O_strings_Compare (_r : Int) : List (Ob Un) := []
theorem strings_Compare_in (a : ByteArray) (b : ByteArray) (K : List (A Un) → List (Ob Un) → Prop) :
    awp M_strings_Compare N_strings_Compare (bodyOf Tryz.f98) (entry Tryz.f98.ntmps 0 [.d (.v (cs a)), .d (.v (cs b))]) (retQ M_strings_Compare Tryz.f98.results.toList [.d] K) =
(K (A_strings_Compare (cmpS a b)) (O_strings_Compare (cmpS a b))) := by kernel_rfl
def strings_Compare_fn (a : ByteArray) (b : ByteArray) : Option (Int) :=
  some (cmpS a b)
theorem strings_Compare_run {a : ByteArray} {b : ByteArray} {r : Int} (h : strings_Compare_fn a b = some r) : Runs (awp M_strings_Compare N_strings_Compare (bodyOf Tryz.f98) (entry Tryz.f98.ntmps 0 [.d (.v (cs a)), .d (.v (cs b))]) (retQ M_strings_Compare Tryz.f98.results.toList [.d] fun rs os => rs = A_strings_Compare r ∧ os = O_strings_Compare r)) := by
  constructor
  rw [strings_Compare_in a b (fun rs os => rs = A_strings_Compare r ∧ os = O_strings_Compare r)]
  unfold strings_Compare_fn at h
  cases h
  exact ⟨rfl, rfl⟩
def strings_Compare (a : ByteArray) (b : ByteArray) : Int :=
  (cmpS a b)
theorem strings_Compare_eq (a : ByteArray) (b : ByteArray) : strings_Compare_fn a b = some (strings_Compare a b) := by unfold strings_Compare_fn strings_Compare; repeat (first | rfl | split)
def F_strings_Compare : FnC Un := fun args => match args with
  | [x0, x1] => (dStr x0).bind fun a => (dStr x1).bind fun b => some ([], A_strings_Compare (strings_Compare a b), O_strings_Compare (strings_Compare a b))
  | _ => none
theorem ok_strings_Compare : FnOK 98 F_strings_Compare := by
  intro args ob rs os h hob
  unfold F_strings_Compare at h
  split at h
  · simp only [Option.bind_eq_some_iff, Option.some.injEq, Prod.mk.injEq] at h
    obtain ⟨a, e0, b, e1, rfl, rfl, rfl⟩ := h
    obtain rfl := dStr_eq e0
    obtain rfl := dStr_eq e1
    exact ⟨fn_contract (M := M_strings_Compare) rfl (tbl_ok (l1 := [(115, F_internal_bytealg_CompareString)]) (l2 := []) (l3 := []) (l4 := []) (l5 := []) ⟨ok_internal_bytealg_CompareString, trivial⟩ trivial trivial trivial trivial) Tryz.func98 (by kernel_rfl) N_strings_Compare 0 [.d] (fun hwf => strings_Compare_run (strings_Compare_eq a b)), hasBody_of Tryz.func98 (by kernel_rfl) (by kernel_rfl)⟩
  · simp at h
def M_cmp_isNaN : Mc Un := mach (tbl []) (tbl []) (tbl []) (tbl []) (tbl [])
def N_cmp_isNaN : Nat → NS := fun l => (look l []).getD ⟨[], [], [], [], [], false⟩
def A_cmp_isNaN (r : Bool) : List (A Un) := [.c (.s (.bool r))]
def O_cmp_isNaN (_r : Bool) : List (Ob Un) := []
theorem cmp_isNaN_in (x : Int) (K : List (A Un) → List (Ob Un) → Prop) :
    awp M_cmp_isNaN N_cmp_isNaN (bodyOf Tryz.f116) (entry Tryz.f116.ntmps 0 [.d (.v (.s (.int .i64 x)))]) (retQ M_cmp_isNaN Tryz.f116.results.toList [.d] K) =
(K (A_cmp_isNaN (x != x)) (O_cmp_isNaN (x != x))) := by kernel_rfl
def cmp_isNaN_fn (x : Int) : Option (Bool) :=
  some (x != x)
theorem cmp_isNaN_run {x : Int} {r : Bool} (h : cmp_isNaN_fn x = some r) : Runs (awp M_cmp_isNaN N_cmp_isNaN (bodyOf Tryz.f116) (entry Tryz.f116.ntmps 0 [.d (.v (.s (.int .i64 x)))]) (retQ M_cmp_isNaN Tryz.f116.results.toList [.d] fun rs os => rs = A_cmp_isNaN r ∧ os = O_cmp_isNaN r)) := by
  constructor
  rw [cmp_isNaN_in x (fun rs os => rs = A_cmp_isNaN r ∧ os = O_cmp_isNaN r)]
  unfold cmp_isNaN_fn at h
  cases h
  exact ⟨rfl, rfl⟩
def cmp_isNaN (x : Int) : Bool :=
  (x != x)
theorem cmp_isNaN_eq (x : Int) : cmp_isNaN_fn x = some (cmp_isNaN x) := by unfold cmp_isNaN_fn cmp_isNaN; repeat (first | rfl | split)
def F_cmp_isNaN : FnC Un := fun args => match args with
  | [x0] => (dI .i64 x0).bind fun x => some ([], A_cmp_isNaN (cmp_isNaN x), O_cmp_isNaN (cmp_isNaN x))
  | _ => none
theorem ok_cmp_isNaN : FnOK 116 F_cmp_isNaN := by
  intro args ob rs os h hob
  unfold F_cmp_isNaN at h
  split at h
  · simp only [Option.bind_eq_some_iff, Option.some.injEq, Prod.mk.injEq] at h
    obtain ⟨x, e0, rfl, rfl, rfl⟩ := h
    obtain rfl := dI_eq e0
    exact ⟨fn_contract (M := M_cmp_isNaN) rfl (tbl_ok (l1 := []) (l2 := []) (l3 := []) (l4 := []) (l5 := []) trivial trivial trivial trivial trivial) Tryz.func116 (by kernel_rfl) N_cmp_isNaN 0 [.d] (fun hwf => cmp_isNaN_run (cmp_isNaN_eq x)), hasBody_of Tryz.func116 (by kernel_rfl) (by kernel_rfl)⟩
  · simp at h
def M_cmp_Compare : Mc Un := mach (tbl [(116, F_cmp_isNaN)]) (tbl []) (tbl []) (tbl []) (tbl [])
def N_cmp_Compare : Nat → NS := fun l => (look l []).getD ⟨[], [], [], [], [], false⟩
def A_cmp_Compare (r : Int) : List (A Un) := [.c (.s (.int .i64 r))]
def O_cmp_Compare (_r : Int) : List (Ob Un) := []
theorem cmp_Compare_in (x : Int) (y : Int) (K : List (A Un) → List (Ob Un) → Prop) :
    awp M_cmp_Compare N_cmp_Compare (bodyOf Tryz.f99) (entry Tryz.f99.ntmps 0 [.d (.v (.s (.int .i64 x))), .d (.v (.s (.int .i64 y)))]) (retQ M_cmp_Compare Tryz.f99.results.toList [.d] K) =
(cnd (cmp_isNaN x)
 (cnd (cmp_isNaN y)
  (K (A_cmp_Compare ((0 : Int))) (O_cmp_Compare ((0 : Int))))
  (K (A_cmp_Compare ((-1 : Int))) (O_cmp_Compare ((-1 : Int)))))
 (cnd (cmp_isNaN y)
  (K (A_cmp_Compare ((1 : Int))) (O_cmp_Compare ((1 : Int))))
  (cnd (decide (x < y))
   (K (A_cmp_Compare ((-1 : Int))) (O_cmp_Compare ((-1 : Int))))
   (cnd (decide (x > y))
    (K (A_cmp_Compare ((1 : Int))) (O_cmp_Compare ((1 : Int))))
    (K (A_cmp_Compare ((0 : Int))) (O_cmp_Compare ((0 : Int)))))))) := by kernel_rfl
def cmp_Compare_fn (x : Int) (y : Int) : Option (Int) :=
  if (cmp_isNaN x) = true then
   if (cmp_isNaN y) = true then
    some ((0 : Int))
   else
    some ((-1 : Int))
  else
   if (cmp_isNaN y) = true then
    some ((1 : Int))
   else
    if (decide (x < y)) = true then
     some ((-1 : Int))
    else
     if (decide (x > y)) = true then
      some ((1 : Int))
     else
      some ((0 : Int))
theorem cmp_Compare_run {x : Int} {y : Int} {r : Int} (h : cmp_Compare_fn x y = some r) : Runs (awp M_cmp_Compare N_cmp_Compare (bodyOf Tryz.f99) (entry Tryz.f99.ntmps 0 [.d (.v (.s (.int .i64 x))), .d (.v (.s (.int .i64 y)))]) (retQ M_cmp_Compare Tryz.f99.results.toList [.d] fun rs os => rs = A_cmp_Compare r ∧ os = O_cmp_Compare r)) := by
  constructor
  rw [cmp_Compare_in x y (fun rs os => rs = A_cmp_Compare r ∧ os = O_cmp_Compare r)]
  unfold cmp_Compare_fn at h
  rcases ite_some h with ⟨c1, h2⟩ | ⟨c1, h2⟩
  · rcases ite_some h2 with ⟨c3, h4⟩ | ⟨c3, h4⟩
    · cases h4
      exact (cnd_t c1 (cnd_t c3 ⟨rfl, rfl⟩))
    · cases h4
      exact (cnd_t c1 (cnd_f (bfalse c3) ⟨rfl, rfl⟩))
  · rcases ite_some h2 with ⟨c5, h6⟩ | ⟨c5, h6⟩
    · cases h6
      exact (cnd_f (bfalse c1) (cnd_t c5 ⟨rfl, rfl⟩))
    · rcases ite_some h6 with ⟨c7, h8⟩ | ⟨c7, h8⟩
      · cases h8
        exact (cnd_f (bfalse c1) (cnd_f (bfalse c5) (cnd_t c7 ⟨rfl, rfl⟩)))
      · rcases ite_some h8 with ⟨c9, h10⟩ | ⟨c9, h10⟩
        · cases h10
          exact (cnd_f (bfalse c1) (cnd_f (bfalse c5) (cnd_f (bfalse c7) (cnd_t c9 ⟨rfl, rfl⟩))))
        · cases h10
          exact (cnd_f (bfalse c1) (cnd_f (bfalse c5) (cnd_f (bfalse c7) (cnd_f (bfalse c9) ⟨rfl, rfl⟩))))
def cmp_Compare (x : Int) (y : Int) : Int :=
  if (cmp_isNaN x) = true then
   if (cmp_isNaN y) = true then
    ((0 : Int))
   else
    ((-1 : Int))
  else
   if (cmp_isNaN y) = true then
    ((1 : Int))
   else
    if (decide (x < y)) = true then
     ((-1 : Int))
    else
     if (decide (x > y)) = true then
      ((1 : Int))
     else
      ((0 : Int))
theorem cmp_Compare_eq (x : Int) (y : Int) : cmp_Compare_fn x y = some (cmp_Compare x y) := by unfold cmp_Compare_fn cmp_Compare; repeat (first | rfl | split)
def F_cmp_Compare : FnC Un := fun args => match args with
  | [x0, x1] => (dI .i64 x0).bind fun x => (dI .i64 x1).bind fun y => some ([], A_cmp_Compare (cmp_Compare x y), O_cmp_Compare (cmp_Compare x y))
  | _ => none
theorem ok_cmp_Compare : FnOK 99 F_cmp_Compare := by
  intro args ob rs os h hob
  unfold F_cmp_Compare at h
  split at h
  · simp only [Option.bind_eq_some_iff, Option.some.injEq, Prod.mk.injEq] at h
    obtain ⟨x, e0, y, e1, rfl, rfl, rfl⟩ := h
    obtain rfl := dI_eq e0
    obtain rfl := dI_eq e1
    exact ⟨fn_contract (M := M_cmp_Compare) rfl (tbl_ok (l1 := [(116, F_cmp_isNaN)]) (l2 := []) (l3 := []) (l4 := []) (l5 := []) ⟨ok_cmp_isNaN, trivial⟩ trivial trivial trivial trivial) Tryz.func99 (by kernel_rfl) N_cmp_Compare 0 [.d] (fun hwf => cmp_Compare_run (cmp_Compare_eq x y)), hasBody_of Tryz.func99 (by kernel_rfl) (by kernel_rfl)⟩
  · simp at h
@[simp] theorem cmp_Compare_spec (x y : Int) : cmp_Compare x y = cmpI x y := by
  unfold cmp_Compare cmp_isNaN cmpI
  simp
@[simp] theorem strings_Compare_spec (a b : ByteArray) : strings_Compare a b = cmpS a b := rfl
end
end Go.Proofs.YtjmpnpkcgkhagaaGreat.B
namespace Go.Proofs.YtjmpnpkcgkhagaaGreat.B
open Go Go.RowKit
set_option maxRecDepth 100000
noncomputable section
attribute [local irreducible] awp ctxK itersK iterK retQ retGQ
def cmpV (a b : Val) : Int × Bool := if a.kind = b.kind then (if a.kind = 3 then (cmpS a.s b.s, true) else if a.kind = 1 ∨ a.kind = 2 then (cmpI a.n b.n, true) else (0, false)) else (0, false)
def M_value_Compare : Mc Un := mach (tbl [(98, F_strings_Compare), (99, F_cmp_Compare)]) (tbl []) (tbl []) (tbl []) (tbl [])
def N_value_Compare : Nat → NS := fun l => (look l []).getD ⟨[], [], [], [], [], false⟩
def A_value_Compare (r : Int × Bool) : List (A Un) := [.c (.s (.int .i64 r.1)), .c (.s (.bool r.2))]
def O_value_Compare (_r : Int × Bool) : List (Ob Un) := []
theorem value_Compare_in (a : Val) (b : Val) (K : List (A Un) → List (Ob Un) → Prop) :
    awp M_value_Compare N_value_Compare (bodyOf Tryz.f74) (entry Tryz.f74.ntmps 0 [.d (.agg (enc Ty.val a)), .d (.agg (enc Ty.val b))]) (retQ M_value_Compare Tryz.f74.results.toList [.d, .d] K) =
(cnd (a.kind != b.kind)
 (K (A_value_Compare ((0 : Int), false)) (O_value_Compare ((0 : Int), false)))
 (cnd (decide (a.kind < (1 : Int)))
  (K (A_value_Compare ((0 : Int), false)) (O_value_Compare ((0 : Int), false)))
  (cnd (decide (a.kind > (3 : Int)))
   (K (A_value_Compare ((0 : Int), false)) (O_value_Compare ((0 : Int), false)))
   (cnd (a.kind == (3 : Int))
    (K (A_value_Compare (strings_Compare a.s b.s, true)) (O_value_Compare (strings_Compare a.s b.s, true)))
    (K (A_value_Compare (cmp_Compare a.n b.n, true)) (O_value_Compare (cmp_Compare a.n b.n, true))))))) := by kernel_rfl
def value_Compare_fn (a : Val) (b : Val) : Option (Int × Bool) :=
  if (a.kind != b.kind) = true then
   some ((0 : Int), false)
  else
   if (decide (a.kind < (1 : Int))) = true then
    some ((0 : Int), false)
   else
    if (decide (a.kind > (3 : Int))) = true then
     some ((0 : Int), false)
    else
     if (a.kind == (3 : Int)) = true then
      some (strings_Compare a.s b.s, true)
     else
      some (cmp_Compare a.n b.n, true)
theorem value_Compare_run {a : Val} {b : Val} {r : Int × Bool} (h : value_Compare_fn a b = some r) : Runs (awp M_value_Compare N_value_Compare (bodyOf Tryz.f74) (entry Tryz.f74.ntmps 0 [.d (.agg (enc Ty.val a)), .d (.agg (enc Ty.val b))]) (retQ M_value_Compare Tryz.f74.results.toList [.d, .d] fun rs os => rs = A_value_Compare r ∧ os = O_value_Compare r)) := by
  constructor
  rw [value_Compare_in a b (fun rs os => rs = A_value_Compare r ∧ os = O_value_Compare r)]
  unfold value_Compare_fn at h
  rcases ite_some h with ⟨c1, h2⟩ | ⟨c1, h2⟩
  · cases h2
    exact (cnd_t c1 ⟨rfl, rfl⟩)
  · rcases ite_some h2 with ⟨c3, h4⟩ | ⟨c3, h4⟩
    · cases h4
      exact (cnd_f (bfalse c1) (cnd_t c3 ⟨rfl, rfl⟩))
    · rcases ite_some h4 with ⟨c5, h6⟩ | ⟨c5, h6⟩
      · cases h6
        exact (cnd_f (bfalse c1) (cnd_f (bfalse c3) (cnd_t c5 ⟨rfl, rfl⟩)))
      · rcases ite_some h6 with ⟨c7, h8⟩ | ⟨c7, h8⟩
        · cases h8
          exact (cnd_f (bfalse c1) (cnd_f (bfalse c3) (cnd_f (bfalse c5) (cnd_t c7 ⟨rfl, rfl⟩))))
        · cases h8
          exact (cnd_f (bfalse c1) (cnd_f (bfalse c3) (cnd_f (bfalse c5) (cnd_f (bfalse c7) ⟨rfl, rfl⟩))))
def value_Compare (a b : Val) : Int × Bool := cmpV a b
@[simp] theorem value_Compare_eq (a b : Val) : value_Compare a b = cmpV a b := by unfold value_Compare; rfl
theorem value_Compare_spec (a b : Val) (_ha : WS .val a) (_hb : WS .val b) : value_Compare_fn a b = some (value_Compare a b) := by
  unfold value_Compare_fn value_Compare cmpV
  simp only [bne_iff_ne, ne_eq, ite_not, beq_iff_eq, decide_eq_true_eq, cmp_Compare_spec, strings_Compare_spec]
  by_cases h1 : a.kind = b.kind
  · simp only [h1, if_true]
    by_cases h3 : b.kind = 3
    · simp [h3]
    · by_cases h4 : b.kind < 1
      · have : ¬ (b.kind = 1 ∨ b.kind = 2) := by omega
        simp [h3, h4, this]
      · by_cases h5 : b.kind > 3
        · have : ¬ (b.kind = 1 ∨ b.kind = 2) := by omega
          simp [h3, h4, h5, this]
        · have : b.kind = 1 ∨ b.kind = 2 := by omega
          simp [h3, h4, h5, this]
  · simp [h1]
def F_value_Compare : FnC Un := fun args => match args with
  | [x0, x1] => (dS .val x0).bind fun a => (dS .val x1).bind fun b => some ([], A_value_Compare (value_Compare a b), O_value_Compare (value_Compare a b))
  | _ => none
theorem ok_value_Compare : FnOK 74 F_value_Compare := by
  intro args ob rs os h hob
  unfold F_value_Compare at h
  split at h
  · simp only [Option.bind_eq_some_iff, Option.some.injEq, Prod.mk.injEq] at h
    obtain ⟨a, e0, b, e1, rfl, rfl, rfl⟩ := h
    obtain rfl := dS_eq e0
    obtain rfl := dS_eq e1
    exact ⟨fn_contract (M := M_value_Compare) rfl (tbl_ok (l1 := [(98, F_strings_Compare), (99, F_cmp_Compare)]) (l2 := []) (l3 := []) (l4 := []) (l5 := []) ⟨ok_strings_Compare, ok_cmp_Compare, trivial⟩ trivial trivial trivial trivial) Tryz.func74 (by kernel_rfl) N_value_Compare 0 [.d, .d] (fun hwf => value_Compare_run (value_Compare_spec a b (wfArg hwf (a := .d (.agg (enc Ty.val a))) (List.mem_of_getElem? (i := 0) rfl)) (wfArg hwf (a := .d (.agg (enc Ty.val b))) (List.mem_of_getElem? (i := 1) rfl)))), hasBody_of Tryz.func74 (by kernel_rfl) (by kernel_rfl)⟩
  · simp at h
end
end Go.Proofs.YtjmpnpkcgkhagaaGreat.B
namespace Go.Proofs.YtjmpnpkcgkhagaaGreat.B
open Go Go.RowKit
set_option maxRecDepth 100000
noncomputable section
attribute [local irreducible] awp ctxK itersK iterK retQ retGQ
def M_num_In : Mc Un := mach (tbl []) (tbl []) (tbl []) (tbl []) (tbl [])
def N_num_In : Nat → NS := fun l => (look l []).getD ⟨[], [], [], [], [], false⟩
def A_num_In (r : Bool) : List (A Un) := [.c (.s (.bool r))]
def O_num_In (_r : Bool) : List (Ob Un) := []
theorem num_In_in (n : Int) (K : List (A Un) → List (Ob Un) → Prop) :
    awp M_num_In N_num_In (bodyOf Tryz.f80) (entry Tryz.f80.ntmps 0 [.d (.v (.s (.int .i64 n)))]) (retQ M_num_In Tryz.f80.results.toList [.d] K) =
(cnd (decide (n ≥ (-1000000000000000 : Int)))
 (K (A_num_In (decide (n ≤ (1000000000000000 : Int)))) (O_num_In (decide (n ≤ (1000000000000000 : Int)))))
 (K (A_num_In (false)) (O_num_In (false)))) := by kernel_rfl
def num_In_fn (n : Int) : Option (Bool) :=
  if (decide (n ≥ (-1000000000000000 : Int))) = true then
   some (decide (n ≤ (1000000000000000 : Int)))
  else
   some (false)
theorem num_In_run {n : Int} {r : Bool} (h : num_In_fn n = some r) : Runs (awp M_num_In N_num_In (bodyOf Tryz.f80) (entry Tryz.f80.ntmps 0 [.d (.v (.s (.int .i64 n)))]) (retQ M_num_In Tryz.f80.results.toList [.d] fun rs os => rs = A_num_In r ∧ os = O_num_In r)) := by
  constructor
  rw [num_In_in n (fun rs os => rs = A_num_In r ∧ os = O_num_In r)]
  unfold num_In_fn at h
  rcases ite_some h with ⟨c1, h2⟩ | ⟨c1, h2⟩
  · cases h2
    exact (cnd_t c1 ⟨rfl, rfl⟩)
  · cases h2
    exact (cnd_f (bfalse c1) ⟨rfl, rfl⟩)
def num_In (n : Int) : Bool :=
  if (decide (n ≥ (-1000000000000000 : Int))) = true then
   (decide (n ≤ (1000000000000000 : Int)))
  else
   (false)
theorem num_In_eq (n : Int) : num_In_fn n = some (num_In n) := by unfold num_In_fn num_In; repeat (first | rfl | split)
def F_num_In : FnC Un := fun args => match args with
  | [x0] => (dI .i64 x0).bind fun n => some ([], A_num_In (num_In n), O_num_In (num_In n))
  | _ => none
theorem ok_num_In : FnOK 80 F_num_In := by
  intro args ob rs os h hob
  unfold F_num_In at h
  split at h
  · simp only [Option.bind_eq_some_iff, Option.some.injEq, Prod.mk.injEq] at h
    obtain ⟨n, e0, rfl, rfl, rfl⟩ := h
    obtain rfl := dI_eq e0
    exact ⟨fn_contract (M := M_num_In) rfl (tbl_ok (l1 := []) (l2 := []) (l3 := []) (l4 := []) (l5 := []) trivial trivial trivial trivial trivial) Tryz.func80 (by kernel_rfl) N_num_In 0 [.d] (fun hwf => num_In_run (num_In_eq n)), hasBody_of Tryz.func80 (by kernel_rfl) (by kernel_rfl)⟩
  · simp at h
@[simp] theorem num_In_spec (n : Int) : num_In n = inN n := by
  unfold num_In inN
  by_cases h : n ≥ -1000000000000000
  · rw [if_pos (decide_eq_true h)]; congr 1; simp only [eq_iff_iff]; omega
  · rw [if_neg (by simpa using h)]; symm; simp only [decide_eq_false_iff_not]; omega
end
end Go.Proofs.YtjmpnpkcgkhagaaGreat.B
