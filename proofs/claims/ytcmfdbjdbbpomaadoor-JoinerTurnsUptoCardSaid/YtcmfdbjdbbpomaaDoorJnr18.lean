/- Part 18 of the proof: Sjoiner2 Lbuildb Ljname. -/
import Derived.Test.YtcmfdbjdbbpomaaDoorJnr17
namespace Go.Proofs.YtcmfdbjdbbpomaaDoor.B
open Go Go.RowKit
set_option maxRecDepth 100000
noncomputable section
attribute [local irreducible] awp ctxK itersK iterK retQ retGQ awf ctxF loopF
def M_joiner_ranked : Mc Un := mach (tbl [(18, F_joiner_whole)]) (tbl []) (tbl [(36, L_ranked1)]) (tbl []) (tbl [(35, U_sortq_int)])
def A_joiner_ranked (r : List Int) : List (A Un) := [.c (.sl (U := Un) Ty.int r false)]
def O_joiner_ranked (_r : List Int) : List (Ob Un) := []
def R_joiner_ranked (r : List Int) : RF Un := (A_joiner_ranked r, O_joiner_ranked r)
def N_joiner_ranked : Nat → NS := fun l => (look l [(3, { ts := bl 24 202, bs := bl 24 2, nm := [(.sl 3, 96)], cs := true })]).getD ⟨[], [], [], [], [], true⟩
def joiner_ranked_s3 (l : List (List Val)) (v0 : Int) (v1 : List Int) : S Un := (st 24 24 97 0 [(1, ax 1), (3, ao 96), (6, ai (↑l.length : Int)), (7, ai v0)] [(1, bls .row l)] [(96, some ⟨(0 : Nat), Ty.int, v1, some (0 : Nat), true⟩)])
noncomputable def joiner_ranked_B3 : Code := sub (bodyOf Tryd.f20) [1, 1, 0, 1, 2, 2]
def joiner_ranked_L3 : S Un → Option (EX Un) := loopF (N_joiner_ranked 3) (fun s Q => awf M_joiner_ranked N_joiner_ranked joiner_ranked_B3 s Q)
def joiner_ranked_C3 : Exit → S Un → Option (RF Un) := ctxF M_joiner_ranked N_joiner_ranked (bodyOf Tryd.f20) [1, 1, 0, 1, 2] (retF M_joiner_ranked Tryd.f20.results.toList [.d])
def joiner_ranked_fn (l : List (List Val)) : Option (RF Un) := awf M_joiner_ranked N_joiner_ranked (bodyOf Tryd.f20) (entry Tryd.f20.ntmps 1 [.d (.v (.dat (U := Un) Ty.row l))]) (retF M_joiner_ranked Tryd.f20.results.toList [.d])
theorem joiner_ranked_in (l : List (List Val)) : joiner_ranked_fn l =
 (joiner_ranked_L3 (joiner_ranked_s3 l (0 : Int) ([]))).bind (thenX joiner_ranked_C3) := by kernel_rfl
theorem joiner_ranked_l3 (l : List (List Val)) (v0 : Int) (v1 : List Int) : joiner_ranked_L3 (joiner_ranked_s3 l v0 v1) =
 cndO (decide (v0 < (↑l.length : Int)))
  (obO (0 ≤ v0 ∧ v0 < (↑l.length : Int))
   (cndO (joiner_whole (l.getD v0.toNat []))
    (obO ((v1.length + [v0].length) * (8 : Nat) ≤ roomB)
     (joiner_ranked_L3 (joiner_ranked_s3 l (IntKind.i64.wrap (v0 + 1)) (v1 ++ [v0]))))
    (joiner_ranked_L3 (joiner_ranked_s3 l (IntKind.i64.wrap (v0 + 1)) v1))))
  (some (.exit 0, (joiner_ranked_s3 l v0 v1))) := (loopF_eq (N_joiner_ranked 3) joiner_ranked_B3 _).trans (by kernel_rfl)
theorem joiner_ranked_a3_x0 (l : List (List Val)) (v0 : Int) (v1 : List Int) : joiner_ranked_C3 (.exit 0) (joiner_ranked_s3 l v0 v1) =
 obO (v1.length ≤ (1000000000 : Nat))
  (obO (fq_int (rkO l) (rkC l) = fq_int (qo_int (fq_int (rkO l) (rkC l))) (qf_int (fq_int (rkO l) (rkC l))))
   (obO (∀ (x : Un.Den Ty.int), x ∈ v1 → ∀ (y : Un.Den Ty.int), y ∈ v1 → qo_int (fq_int (rkO l) (rkC l)) x y)
    (obO (uniQ (qf_int (fq_int (rkO l) (rkC l))) v1)
     (some (R_joiner_ranked (sortQ (qf_int (fq_int (rkO l) (rkC l))) v1)))))) := by kernel_rfl
theorem joiner_ranked_spec (l : List (List Val)) (_hl : WL .row l) (h : l.length ≤ 1000000) : joiner_ranked_fn l = some (R_joiner_ranked (joiner_ranked l)) := by
  rw [joiner_ranked_in]
  obtain ⟨o, ho, L1⟩ := loop_inv (L := joiner_ranked_L3) (st := fun (o : List Int) i => joiner_ranked_s3 l i o) (n := l.length) (by omega) (fun i o => o = ((List.range i).filter fun i : Nat => wholeR (l.getD i [])).map fun i : Nat => (i : Int)) (e := .exit 0)
    (fun o i hi hI => by
      have hol : o.length ≤ i := by
        rw [hI, List.length_map]
        exact Nat.le_trans (List.length_filter_le _ _) (by rw [List.length_range]; exact Nat.le_refl _)
      rw [joiner_ranked_l3]
      simp only [Int.toNat_natCast, cndO_eq]
      rw [if_pos (by simp; omega), obO_pos (by omega)]
      unfold joiner_whole
      by_cases c : wholeR (l.getD i []) = true
      · refine ⟨o ++ [(i : Int)], ?_, ?_⟩
        · rw [hI, List.range_succ, List.filter_append, List.map_append, List.filter_cons, if_pos c]; rfl
        · rw [if_pos c, obO_pos (by unfold roomB; rw [List.length_singleton]; omega)]
      · refine ⟨o, ?_, ?_⟩
        · rw [hI, List.range_succ, List.filter_append, List.map_append, List.filter_cons, if_neg c, List.filter_nil, List.map_nil, List.append_nil]
        · rw [if_neg c])
    (fun o _ => by
      rw [joiner_ranked_l3]
      simp [cndO_eq]) [] rfl
  have hll := rkList_len l
  have hin := rkList_in l
  have ho' : o = rkList l := ho
  rw [ho'] at L1
  refine (loop_end L1).trans ?_
  rw [joiner_ranked_a3_x0, qo_fq_int, qf_fq_int, obO_pos (by omega), obO_pos rfl, obO_pos (fun x hx y hy => ⟨hin x hx, hin y hy⟩), obO_pos (rk_uni l _)]
  rfl
def F_joiner_ranked : FnC Un := fun args => match args with
  | [x0] => (dL .row x0).bind fun l => some ([l.length ≤ 1000000], A_joiner_ranked (joiner_ranked l), O_joiner_ranked (joiner_ranked l))
  | _ => none
theorem ok_joiner_ranked : FnOK 20 F_joiner_ranked := by
  intro args ob rs os h hob
  unfold F_joiner_ranked at h
  split at h
  · simp only [Option.bind_eq_some_iff, Option.some.injEq, Prod.mk.injEq] at h
    obtain ⟨l, e0, rfl, rfl, rfl⟩ := h
    obtain rfl := dL_eq e0
    exact ⟨fn_contractF (M := M_joiner_ranked) rfl (tbl_ok (l1 := [(18, F_joiner_whole)]) (l2 := []) (l3 := [(36, L_ranked1)]) (l4 := []) (l5 := [(35, U_sortq_int)]) ⟨ok_joiner_whole, trivial⟩ trivial ⟨okL_ranked1, trivial⟩ trivial ⟨okU_sortq_int, trivial⟩) Tryd.func20 (by kernel_rfl) N_joiner_ranked 1 [.d] (fun hwf => (joiner_ranked_spec l (wfArg hwf (a := .d (.v (.dat (U := Un) Ty.row l))) (List.mem_of_getElem? (i := 0) rfl)) (hob _ (List.mem_of_getElem? (i := 0) rfl)))), hasBody_of Tryd.func20 (by kernel_rfl) (by kernel_rfl)⟩
  · simp at h
def M_joiner_Merge : Mc Un := mach (tbl [(20, F_joiner_ranked), (14, F_value_Orders), (21, F_joiner_run)]) (tbl [(23, V_merge1)]) (tbl []) (tbl []) (tbl [(22, U_sortq_pair)])
def A_joiner_Merge (r : (List (Int × Int))) : List (A Un) := [.c (.sl (U := Un) Ty.pair r false)]
def O_joiner_Merge (_r : (List (Int × Int))) : List (Ob Un) := []
def R_joiner_Merge (r : (List (Int × Int))) : RF Un := (A_joiner_Merge r, O_joiner_Merge r)
def N_joiner_Merge : Nat → NS := fun l => (look l [(4, { ts := bl 95 995, bs := bl 95 0, nm := [(.sl 7, 380)], cs := true }), (8, { ts := bl 95 16355, bs := bl 95 0, nm := [(.sl 7, 381)], cs := true }), (11, { ts := bl 95 32739, bs := bl 95 0, nm := [(.sl 7, 382)], cs := true })]).getD ⟨[], [], [], [], [], true⟩
def joiner_Merge_s4 (l : List (List Val)) (r : List (List Val)) (v0 : Int) (v1 : Int) (v2 : List (Int × Int)) : S Un := (st 95 95 383 0 [(0, al .row l), (1, al .row r), (5, al .int (joiner_ranked l)), (6, al .int (joiner_ranked r)), (7, ao 380), (8, ai v0), (9, ai v1)] [] [(380, some ⟨(0 : Nat), Ty.pair, v2, some (0 : Nat), true⟩)])
def joiner_Merge_s8 (l : List (List Val)) (r : List (List Val)) (v0 : Int) (v1 : Int) (v2 : List (Int × Int)) (v3 : Int) : S Un := (st 95 95 383 0 [(0, al .row l), (1, al .row r), (5, al .int (joiner_ranked l)), (6, al .int (joiner_ranked r)), (7, ao 381), (8, ai v0), (9, ai v1), (10, ai (value_Orders (l.getD (Int.toNat ((joiner_ranked l).getD v0.toNat (0 : Int))) []) (r.getD (Int.toNat ((joiner_ranked r).getD v1.toNat (0 : Int))) []))), (11, ai (joiner_run l (joiner_ranked l) v0)), (12, ai (joiner_run r (joiner_ranked r) v1)), (13, ai v3)] [] [(381, some ⟨(0 : Nat), Ty.pair, v2, some (0 : Nat), true⟩)])
def joiner_Merge_s11 (l : List (List Val)) (r : List (List Val)) (v0 : Int) (v1 : Int) (v3 : Int) (v2 : List (Int × Int)) (v4 : Int) : S Un := (st 95 95 383 0 [(0, al .row l), (1, al .row r), (5, al .int (joiner_ranked l)), (6, al .int (joiner_ranked r)), (7, ao 382), (8, ai v0), (9, ai v1), (10, ai (value_Orders (l.getD (Int.toNat ((joiner_ranked l).getD v0.toNat (0 : Int))) []) (r.getD (Int.toNat ((joiner_ranked r).getD v1.toNat (0 : Int))) []))), (11, ai (joiner_run l (joiner_ranked l) v0)), (12, ai (joiner_run r (joiner_ranked r) v1)), (13, ai v3), (14, ai v4)] [] [(382, some ⟨(0 : Nat), Ty.pair, v2, some (0 : Nat), true⟩)])
noncomputable def joiner_Merge_B4 : Code := sub (bodyOf Tryd.f11) [1, 1, 1, 0, 1, 2, 2]
def joiner_Merge_L4 : S Un → Option (EX Un) := loopF (N_joiner_Merge 4) (fun s Q => awf M_joiner_Merge N_joiner_Merge joiner_Merge_B4 s Q)
noncomputable def joiner_Merge_B8 : Code := sub (sub (bodyOf Tryd.f11) [1, 1, 1, 0, 1, 2, 2]) [1, 2, 1, 1, 0, 1, 2, 2]
def joiner_Merge_L8 : S Un → Option (EX Un) := loopF (N_joiner_Merge 8) (fun s Q => awf M_joiner_Merge N_joiner_Merge joiner_Merge_B8 s Q)
noncomputable def joiner_Merge_B11 : Code := sub (sub (sub (bodyOf Tryd.f11) [1, 1, 1, 0, 1, 2, 2]) [1, 2, 1, 1, 0, 1, 2, 2]) [1, 0, 2, 1, 2, 2]
def joiner_Merge_L11 : S Un → Option (EX Un) := loopF (N_joiner_Merge 11) (fun s Q => awf M_joiner_Merge N_joiner_Merge joiner_Merge_B11 s Q)
def joiner_Merge_C4 : Exit → S Un → Option (RF Un) := ctxF M_joiner_Merge N_joiner_Merge (bodyOf Tryd.f11) [1, 1, 1, 0, 1, 2] (retF M_joiner_Merge Tryd.f11.results.toList [.d])
def joiner_Merge_C8 : Exit → S Un → Option (EX Un) := ctxF M_joiner_Merge N_joiner_Merge joiner_Merge_B4 [1, 2, 1, 1, 0, 1, 2] (roundF (N_joiner_Merge 4) joiner_Merge_L4)
def joiner_Merge_C11 : Exit → S Un → Option (EX Un) := ctxF M_joiner_Merge N_joiner_Merge joiner_Merge_B8 [1, 0, 2, 1, 2] (roundF (N_joiner_Merge 8) joiner_Merge_L8)
def joiner_Merge_fn (l : List (List Val)) (r : List (List Val)) : Option (RF Un) := awf M_joiner_Merge N_joiner_Merge (bodyOf Tryd.f11) (entry Tryd.f11.ntmps 3 [.d (.v (.dat (U := Un) Ty.row l)), .d (.v (.dat (U := Un) Ty.row r))]) (retF M_joiner_Merge Tryd.f11.results.toList [.d])
theorem joiner_Merge_in (l : List (List Val)) (r : List (List Val)) : joiner_Merge_fn l r =
 obO (l.length ≤ (1000000 : Nat))
  (obO (r.length ≤ (1000000 : Nat))
   ((joiner_Merge_L4 (joiner_Merge_s4 l r (0 : Int) (0 : Int) ([]))).bind (thenX joiner_Merge_C4))) := by kernel_rfl
theorem joiner_Merge_l4 (l : List (List Val)) (r : List (List Val)) (v0 : Int) (v1 : Int) (v2 : List (Int × Int)) : joiner_Merge_L4 (joiner_Merge_s4 l r v0 v1 v2) =
 cndO (decide (v0 < (↑(joiner_ranked l).length : Int)))
  (cndO (decide (v1 < (↑(joiner_ranked r).length : Int)))
   (obO (0 ≤ v0 ∧ v0 < (↑(joiner_ranked l).length : Int))
    (obO ((0 : Int) ≤ (joiner_ranked l).getD v0.toNat (0 : Int) ∧ (joiner_ranked l).getD v0.toNat (0 : Int) < (↑l.length : Int))
     (obO (0 ≤ v1 ∧ v1 < (↑(joiner_ranked r).length : Int))
      (obO ((0 : Int) ≤ (joiner_ranked r).getD v1.toNat (0 : Int) ∧ (joiner_ranked r).getD v1.toNat (0 : Int) < (↑r.length : Int))
       (obO ((0 ≤ v0 ∧ v0 < (↑(joiner_ranked l).length : Int)) ∧ jIn l (joiner_ranked l))
        (obO ((0 ≤ v1 ∧ v1 < (↑(joiner_ranked r).length : Int)) ∧ jIn r (joiner_ranked r))
         ((joiner_Merge_L8 (joiner_Merge_s8 l r v0 v1 v2 (0 : Int))).bind (thenX joiner_Merge_C8))))))))
   (some (.exit 0, (joiner_Merge_s4 l r v0 v1 v2))))
  (some (.exit 0, (joiner_Merge_s4 l r v0 v1 v2))) := (loopF_eq (N_joiner_Merge 4) joiner_Merge_B4 _).trans (by kernel_rfl)
theorem joiner_Merge_a4_x0 (l : List (List Val)) (r : List (List Val)) (v0 : Int) (v1 : Int) (v2 : List (Int × Int)) : joiner_Merge_C4 (.exit 0) (joiner_Merge_s4 l r v0 v1 v2) =
 obO (v2.length ≤ (1000000000000 : Nat))
  (obO (V_merge1 = fq_pair (qo_pair V_merge1) (qf_pair V_merge1))
   (obO (∀ (x : Un.Den Ty.pair), x ∈ v2 → ∀ (y : Un.Den Ty.pair), y ∈ v2 → qo_pair V_merge1 x y)
    (obO (uniQ (qf_pair V_merge1) v2)
     (some (R_joiner_Merge (sortQ (qf_pair V_merge1) v2)))))) := by kernel_rfl
theorem joiner_Merge_l8 (l : List (List Val)) (r : List (List Val)) (v0 : Int) (v1 : Int) (v2 : List (Int × Int)) (v3 : Int) : joiner_Merge_L8 (joiner_Merge_s8 l r v0 v1 v2 v3) =
 cndO (value_Orders (l.getD (Int.toNat ((joiner_ranked l).getD v0.toNat (0 : Int))) []) (r.getD (Int.toNat ((joiner_ranked r).getD v1.toNat (0 : Int))) []) == 0)
  (cndO (decide (v3 < joiner_run l (joiner_ranked l) v0))
   ((joiner_Merge_L11 (joiner_Merge_s11 l r v0 v1 v3 v2 (0 : Int))).bind (thenX joiner_Merge_C11))
   (some (.exit 2, (joiner_Merge_s8 l r v0 v1 v2 v3))))
  (some (.exit 2, (joiner_Merge_s8 l r v0 v1 v2 v3))) := (loopF_eq (N_joiner_Merge 8) joiner_Merge_B8 _).trans (by kernel_rfl)
theorem joiner_Merge_a8_x2 (l : List (List Val)) (r : List (List Val)) (v0 : Int) (v1 : Int) (v2 : List (Int × Int)) (v3 : Int) : joiner_Merge_C8 (.exit 2) (joiner_Merge_s8 l r v0 v1 v2 v3) =
 cndO (decide (value_Orders (l.getD (Int.toNat ((joiner_ranked l).getD v0.toNat (0 : Int))) []) (r.getD (Int.toNat ((joiner_ranked r).getD v1.toNat (0 : Int))) []) ≤ 0))
  (cndO (decide (value_Orders (l.getD (Int.toNat ((joiner_ranked l).getD v0.toNat (0 : Int))) []) (r.getD (Int.toNat ((joiner_ranked r).getD v1.toNat (0 : Int))) []) ≥ 0))
   (joiner_Merge_L4 (joiner_Merge_s4 l r (IntKind.i64.wrap (v0 + joiner_run l (joiner_ranked l) v0)) (IntKind.i64.wrap (v1 + joiner_run r (joiner_ranked r) v1)) v2))
   (joiner_Merge_L4 (joiner_Merge_s4 l r (IntKind.i64.wrap (v0 + joiner_run l (joiner_ranked l) v0)) v1 v2)))
  (cndO (decide (value_Orders (l.getD (Int.toNat ((joiner_ranked l).getD v0.toNat (0 : Int))) []) (r.getD (Int.toNat ((joiner_ranked r).getD v1.toNat (0 : Int))) []) ≥ 0))
   (joiner_Merge_L4 (joiner_Merge_s4 l r v0 (IntKind.i64.wrap (v1 + joiner_run r (joiner_ranked r) v1)) v2))
   (joiner_Merge_L4 (joiner_Merge_s4 l r v0 v1 v2))) := by kernel_rfl
theorem joiner_Merge_l11 (l : List (List Val)) (r : List (List Val)) (v0 : Int) (v1 : Int) (v3 : Int) (v2 : List (Int × Int)) (v4 : Int) : joiner_Merge_L11 (joiner_Merge_s11 l r v0 v1 v3 v2 v4) =
 cndO (decide (v4 < joiner_run r (joiner_ranked r) v1))
  (obO (0 ≤ IntKind.i64.wrap (v0 + v3) ∧ IntKind.i64.wrap (v0 + v3) < (↑(joiner_ranked l).length : Int))
   (obO (0 ≤ IntKind.i64.wrap (v1 + v4) ∧ IntKind.i64.wrap (v1 + v4) < (↑(joiner_ranked r).length : Int))
    (obO ((v2.length + [((joiner_ranked l).getD (IntKind.i64.wrap (v0 + v3)).toNat (0 : Int), (joiner_ranked r).getD (IntKind.i64.wrap (v1 + v4)).toNat (0 : Int))].length) * (16 : Nat) ≤ roomB)
     (joiner_Merge_L11 (joiner_Merge_s11 l r v0 v1 v3 (v2 ++ [((joiner_ranked l).getD (IntKind.i64.wrap (v0 + v3)).toNat (0 : Int), (joiner_ranked r).getD (IntKind.i64.wrap (v1 + v4)).toNat (0 : Int))]) (IntKind.i64.wrap (v4 + 1)))))))
  (some (.exit 4, (joiner_Merge_s11 l r v0 v1 v3 v2 v4))) := (loopF_eq (N_joiner_Merge 11) joiner_Merge_B11 _).trans (by kernel_rfl)
theorem joiner_Merge_a11_x4 (l : List (List Val)) (r : List (List Val)) (v0 : Int) (v1 : Int) (v3 : Int) (v2 : List (Int × Int)) (v4 : Int) : joiner_Merge_C11 (.exit 4) (joiner_Merge_s11 l r v0 v1 v3 v2 v4) =
 joiner_Merge_L8 (joiner_Merge_s8 l r v0 v1 v2 (IntKind.i64.wrap (v3 + 1))) := by kernel_rfl
def joiner_Merge (l r : List (List Val)) : List (Int × Int) := jPairs l r
structure MI (l r : List (List Val)) (i k : Nat) (o : List (Int × Int)) : Prop where
  hi : i ≤ (joiner_ranked l).length
  hk : k ≤ (joiner_ranked r).length
  out : o = ((joiner_ranked l).take i).flatMap (rowJ l r (joiner_ranked r))
  low : ∀ y ∈ (joiner_ranked r).take k, ∀ x ∈ (joiner_ranked l).drop i, ordR (jAt r y) (jAt l x) < 0
theorem MI.end_ {l r : List (List Val)} {i k : Nat} {o : List (Int × Int)} (h : MI l r i k o) (e : ¬ (i < (joiner_ranked l).length ∧ k < (joiner_ranked r).length)) : o = mergeM l r := by
  have h1 : ((joiner_ranked l).drop i).flatMap (rowJ l r (joiner_ranked r)) = [] := by
    by_cases e1 : i < (joiner_ranked l).length
    · have hk : k = (joiner_ranked r).length := by have := h.hk; omega
      refine flat_none fun x hx y hy e2 => ?_
      have := h.low y (by rw [hk, List.take_length]; exact hy) x hx
      rw [e2] at this
      exact ordR_lt_irr _ this
    · rw [List.drop_of_length_le (by omega)]; rfl
  unfold mergeM
  conv => rhs; rw [← List.take_append_drop i (joiner_ranked l)]
  rw [List.flatMap_append, h1, List.append_nil]
  exact h.out
theorem mem_drop_at {L : List Int} {i : Nat} {x : Int} (h : x ∈ L.drop i) : ∃ t, i ≤ t ∧ t < L.length ∧ x = L.getD t 0 := by
  obtain ⟨t, ht, rfl⟩ := List.mem_iff_getElem.1 h
  rw [List.length_drop] at ht
  refine ⟨i + t, by omega, by omega, ?_⟩
  rw [List.getElem_drop, List.getD_eq_getElem?_getD, List.getElem?_eq_getElem (by omega)]; rfl
theorem mem_take_at {L : List Int} {n : Nat} {x : Int} (h : x ∈ L.take n) : ∃ t, t < n ∧ t < L.length ∧ x = L.getD t 0 := by
  obtain ⟨t, ht, rfl⟩ := List.mem_iff_getElem.1 h
  rw [List.length_take] at ht
  refine ⟨t, by omega, by omega, ?_⟩
  rw [List.getElem_take, List.getD_eq_getElem?_getD, List.getElem?_eq_getElem (by omega)]; rfl
theorem joiner_Merge_spec (l r : List (List Val)) (_hl : WL .row l) (_hr : WL .row r) (h : jBound l r) : joiner_Merge_fn l r = some (R_joiner_Merge (joiner_Merge l r)) := by
  obtain ⟨hb1, hb2⟩ := h
  rw [joiner_Merge_in, obO_pos hb1, obO_pos hb2]
  have hAl := rank_len l
  have hBl := rank_len r
  have hinA := rank_in l
  have hinB := rank_in r
  have key : ∀ (n i k : Nat) (o : List (Int × Int)), ((joiner_ranked l).length - i) + ((joiner_ranked r).length - k) = n → MI l r i k o → ∃ v0 v1 : Int, joiner_Merge_L4 (joiner_Merge_s4 l r (i : Int) (k : Int) o) = some (.exit 0, joiner_Merge_s4 l r v0 v1 (mergeM l r)) := by
    intro n
    induction n using Nat.strongRecOn with
    | _ n ih =>
      intro i k o hn hI
      have hI1 := hI.hi
      have hI2 := hI.hk
      by_cases hgo : i < (joiner_ranked l).length ∧ k < (joiner_ranked r).length
      · obtain ⟨h1, h2⟩ := hgo
        obtain ⟨m1, m2, m3, m4⟩ := run_facts l h1
        obtain ⟨n1, n2, n3, n4⟩ := run_facts r h2
        obtain ⟨m, hm⟩ : ∃ m, m = runN l (joiner_ranked l) i := ⟨_, rfl⟩
        obtain ⟨q, hq⟩ : ∃ q, q = runN r (joiner_ranked r) k := ⟨_, rfl⟩
        rw [← hm] at m1 m2 m3 m4
        rw [← hq] at n1 n2 n3 n4
        have em : joiner_run l (joiner_ranked l) (i : Int) = (m : Int) := by unfold joiner_run; rw [Int.toNat_natCast, hm]
        have eq' : joiner_run r (joiner_ranked r) (k : Int) = (q : Int) := by unfold joiner_run; rw [Int.toNat_natCast, hq]
        obtain ⟨c, hc⟩ : ∃ c, c = ordR (jAt l ((joiner_ranked l).getD i 0)) (jAt r ((joiner_ranked r).getD k 0)) := ⟨_, rfl⟩
        have hcv : value_Orders (l.getD (Int.toNat ((joiner_ranked l).getD i (0 : Int))) []) (r.getD (Int.toNat ((joiner_ranked r).getD k (0 : Int))) []) = c := hc.symm
        have hlow : ∀ y ∈ (joiner_ranked r).take k, ordR (jAt r y) (jAt l ((joiner_ranked l).getD i 0)) < 0 := fun y hy => hI.low y hy _ (by
          rw [List.getD_eq_getElem?_getD, List.getElem?_eq_getElem h1, List.drop_eq_getElem_cons h1]; exact List.mem_cons_self)
        have hmul : (joiner_ranked l).length * (joiner_ranked r).length ≤ 1000000 * 1000000 := Nat.mul_le_mul (by omega) (by omega)
        have hpairs : ∃ (o2 : List (Int × Int)) (v3 : Int), (c = 0 → o2 = o ++ (List.range m).flatMap fun x => (List.range q).map fun y => ((joiner_ranked l).getD (i + x) 0, (joiner_ranked r).getD (k + y) 0)) ∧ (c ≠ 0 → o2 = o) ∧
            joiner_Merge_L8 (joiner_Merge_s8 l r (i : Int) (k : Int) o (0 : Int)) = some (.exit 2, joiner_Merge_s8 l r (i : Int) (k : Int) o2 v3) := by
          by_cases c0 : c = 0
          · have hol : o.length ≤ i * (joiner_ranked r).length := by
              rw [hI.out]
              refine Nat.le_trans (flatJ_len l r (joiner_ranked r) _) (Nat.mul_le_mul_right _ ?_)
              rw [List.length_take]; omega
            obtain ⟨o2, ho2, L8⟩ := loop_inv (L := joiner_Merge_L8) (st := fun (o : List (Int × Int)) x => joiner_Merge_s8 l r (i : Int) (k : Int) o x) (n := m) (by omega) (fun x o2 => o2 = o ++ (List.range x).flatMap fun x => (List.range q).map fun y => ((joiner_ranked l).getD (i + x) 0, (joiner_ranked r).getD (k + y) 0)) (e := .exit 2)
              (fun o2 x hx hI8 => by
                have hfl : ∀ x, ((List.range x).flatMap fun x => (List.range q).map fun y => ((joiner_ranked l).getD (i + x) 0, (joiner_ranked r).getD (k + y) 0)).length = x * q := by
                  intro x
                  induction x with
                  | zero => simp
                  | succ x ih => rw [List.range_succ, List.flatMap_append, List.length_append, ih, Nat.succ_mul]; simp
                obtain ⟨o3, ho3, L11⟩ := loop_inv (L := joiner_Merge_L11) (st := fun (o : List (Int × Int)) y => joiner_Merge_s11 l r (i : Int) (k : Int) (x : Int) o y) (n := q) (by omega) (fun y o3 => o3 = o2 ++ (List.range y).map fun y => ((joiner_ranked l).getD (i + x) 0, (joiner_ranked r).getD (k + y) 0)) (e := .exit 4)
                  (fun o3 y hy hI11 => by
                    have hlen : o3.length + 1 ≤ (joiner_ranked l).length * (joiner_ranked r).length := by
                      have e1 : o3.length = o.length + x * q + y := by rw [hI11, hI8, List.length_append, List.length_append, hfl, List.length_map, List.length_range]
                      have e2 : x * q ≤ x * (joiner_ranked r).length := Nat.mul_le_mul_left _ (by omega)
                      have e3 : (i + x + 1) * (joiner_ranked r).length ≤ (joiner_ranked l).length * (joiner_ranked r).length := Nat.mul_le_mul_right _ (by omega)
                      rw [Nat.succ_mul, Nat.add_mul] at e3
                      omega
                    refine ⟨o3 ++ [((joiner_ranked l).getD (i + x) 0, (joiner_ranked r).getD (k + y) 0)], ?_, ?_⟩
                    · rw [hI11, List.range_succ, List.map_append, List.append_assoc]; rfl
                    · rw [joiner_Merge_l11, eq', wrap_id (show -9223372036854775808 ≤ (i : Int) + (x : Int) ∧ (i : Int) + (x : Int) ≤ 9223372036854775807 by omega), wrap_id (show -9223372036854775808 ≤ (k : Int) + (y : Int) ∧ (k : Int) + (y : Int) ≤ 9223372036854775807 by omega)]
                      have t1 : ((i : Int) + (x : Int)).toNat = i + x := by omega
                      have t2 : ((k : Int) + (y : Int)).toNat = k + y := by omega
                      simp only [cndO_eq, t1, t2]
                      rw [if_pos (by rw [decide_eq_true_eq]; omega), obO_pos (by omega), obO_pos (by omega), obO_pos (by unfold roomB; rw [List.length_singleton]; omega)])
                  (fun o3 _ => by
                    rw [joiner_Merge_l11, eq']
                    simp [cndO_eq]) o2 (by simp)
                refine ⟨o3, ?_, ?_⟩
                · rw [ho3, hI8, List.range_succ, List.flatMap_append, List.append_assoc]; simp
                · rw [joiner_Merge_l8]
                  simp only [Int.toNat_natCast, hcv, cndO_eq, em]
                  rw [if_pos (by simp [c0]), if_pos (by rw [decide_eq_true_eq]; omega), loop_end L11, joiner_Merge_a11_x4])
              (fun o2 _ => by
                rw [joiner_Merge_l8]
                simp only [Int.toNat_natCast, hcv, cndO_eq, em]
                rw [if_pos (by simp [c0]), if_neg (by simp)]) o (by simp)
            exact ⟨o2, _, fun _ => ho2, fun h => absurd c0 h, L8⟩
          · refine ⟨o, 0, fun h => absurd h c0, fun _ => rfl, ?_⟩
            rw [joiner_Merge_l8]
            simp only [Int.toNat_natCast, hcv, cndO_eq]
            rw [if_neg (by simpa using c0)]
        obtain ⟨o2, v3, p1, p2, L8⟩ := hpairs
        rw [joiner_Merge_l4]
        simp only [Int.toNat_natCast, cndO_eq]
        rw [if_pos (by rw [decide_eq_true_eq]; omega), if_pos (by rw [decide_eq_true_eq]; omega), obO_pos (by omega), obO_pos (hinA.at h1), obO_pos (by omega), obO_pos (hinB.at h2), obO_pos ⟨by omega, hinA⟩, obO_pos ⟨by omega, hinB⟩, loop_end L8, joiner_Merge_a8_x2]
        simp only [Int.toNat_natCast, hcv, cndO_eq, em, eq']
        rw [wrap_id (by omega), wrap_id (by omega)]
        have e1 : (i : Int) + (m : Int) = ((i + m : Nat) : Int) := by omega
        have e2 : (k : Int) + (q : Int) = ((k + q : Nat) : Int) := by omega
        rw [e1, e2]
        have hbeh : ∀ x ∈ (joiner_ranked l).drop (i + m), ordR (jAt l ((joiner_ranked l).getD i 0)) (jAt l x) < 0 := fun x hx => by
          obtain ⟨t, t1, t2, rfl⟩ := mem_drop_at hx
          exact m4 t t1 t2
        have hge : ∀ x ∈ (joiner_ranked l).drop i, ordR (jAt l ((joiner_ranked l).getD i 0)) (jAt l x) ≤ 0 := fun x hx => by
          obtain ⟨t, t1, t2, rfl⟩ := mem_drop_at hx
          exact rank_le l t1 t2
        have hrk : ∀ y ∈ (joiner_ranked r).take (k + q), y ∈ (joiner_ranked r).take k ∨ jAt r y = jAt r ((joiner_ranked r).getD k 0) := fun y hy => by
          obtain ⟨t, t1, t2, rfl⟩ := mem_take_at hy
          by_cases e : t < k
          · left
            rw [List.getD_eq_getElem?_getD, List.getElem?_eq_getElem t2]
            exact List.mem_take_iff_getElem.2 ⟨t, by omega, rfl⟩
          · right; exact n3 t (by omega) t1
        have hflat : ((joiner_ranked l).take (i + m)).flatMap (rowJ l r (joiner_ranked r)) = o ++ (((joiner_ranked l).drop i).take m).flatMap (rowJ l r (joiner_ranked r)) := by
          rw [List.take_add, List.flatMap_append, ← hI.out]
        have hseg : ∀ x ∈ ((joiner_ranked l).drop i).take m, jAt l x = jAt l ((joiner_ranked l).getD i 0) := fun x hx => by
          rw [seg_get _ _ _ m2] at hx
          obtain ⟨t, ht, rfl⟩ := List.mem_map.1 hx
          rw [List.mem_range] at ht
          exact m3 (i + t) (by omega) (by omega)
        by_cases c0 : c = 0
        · rw [if_pos (by rw [decide_eq_true_eq]; omega), if_pos (by rw [decide_eq_true_eq]; omega)]
          have hkk : jAt l ((joiner_ranked l).getD i 0) = jAt r ((joiner_ranked r).getD k 0) := by rw [← ordR_zero, ← hc]; exact c0
          refine ih _ (by omega) (i + m) (k + q) o2 rfl ⟨m2, n2, ?_, ?_⟩
          · rw [p1 c0, hflat, seg_get _ _ _ m2]
            congr 1
            have : ∀ (L : List Nat), (∀ x ∈ L, x < m) → (L.flatMap fun x => (List.range q).map fun y => ((joiner_ranked l).getD (i + x) 0, (joiner_ranked r).getD (k + y) 0)) = (L.map fun y => (joiner_ranked l).getD (i + y) 0).flatMap (rowJ l r (joiner_ranked r)) := by
              intro L
              induction L with
              | nil => intro _; rfl
              | cons x L ih =>
                intro hL
                rw [List.flatMap_cons, List.map_cons, List.flatMap_cons, ih fun y hy => hL y (List.mem_cons_of_mem _ hy)]
                have hx := hL x List.mem_cons_self
                have hjx := m3 (i + x) (by omega) (by omega)
                rw [row_run h2 (hjx.trans hkk) (fun y hy => by rw [hjx]; exact hlow y hy), ← hq]
            exact this _ fun x hx => List.mem_range.1 hx
          · intro y hy x hx
            rcases hrk y hy with hy | hy
            · exact hI.low y hy x (by rw [← List.drop_drop] at hx; exact List.mem_of_mem_drop hx)
            · rw [hy, ← hkk]; exact hbeh x hx
        · rw [p2 c0]
          by_cases cl : c < 0
          · rw [if_pos (by rw [decide_eq_true_eq]; omega), if_neg (by rw [decide_eq_true_eq]; omega)]
            refine ih _ (by omega) (i + m) k o rfl ⟨m2, hI2, ?_, ?_⟩
            · rw [hflat, flat_none, List.append_nil]
              intro x hx y hy e
              rw [hseg x hx] at e
              rw [← List.take_append_drop k (joiner_ranked r)] at hy
              rcases List.mem_append.1 hy with hy | hy
              · have := hlow y hy
                rw [e] at this
                exact ordR_lt_irr _ this
              · obtain ⟨t, t1, t2, rfl⟩ := mem_drop_at hy
                have := ordR_lt_le (show ordR (jAt l ((joiner_ranked l).getD i 0)) (jAt r ((joiner_ranked r).getD k 0)) < 0 by omega) (rank_le r t1 t2)
                rw [e] at this
                exact ordR_lt_irr _ this
            · intro y hy x hx
              exact hI.low y hy x (by rw [← List.drop_drop] at hx; exact List.mem_of_mem_drop hx)
          · rw [if_neg (by rw [decide_eq_true_eq]; omega), if_pos (by rw [decide_eq_true_eq]; omega)]
            refine ih _ (by omega) i (k + q) o rfl ⟨hI1, n2, hI.out, ?_⟩
            intro y hy x hx
            rcases hrk y hy with hy | hy
            · exact hI.low y hy x hx
            · rw [hy]
              have ha := ordR_anti (jAt l ((joiner_ranked l).getD i 0)) (jAt r ((joiner_ranked r).getD k 0))
              exact ordR_lt_le (show ordR (jAt r ((joiner_ranked r).getD k 0)) (jAt l ((joiner_ranked l).getD i 0)) < 0 by omega) (hge x hx)
      · have he := hI.end_ hgo
        refine ⟨(i : Int), (k : Int), ?_⟩
        rw [← he, joiner_Merge_l4, cndO_eq]
        by_cases e1 : i < (joiner_ranked l).length
        · rw [if_pos (by rw [decide_eq_true_eq]; omega), cndO_eq, if_neg (by rw [decide_eq_true_eq]; omega)]
        · rw [if_neg (by rw [decide_eq_true_eq]; omega)]
  obtain ⟨v0, v1, L4⟩ := key _ 0 0 [] rfl ⟨Nat.zero_le _, Nat.zero_le _, rfl, fun y hy => by simp at hy⟩
  refine (loop_end L4).trans ?_
  have hml : (mergeM l r).length ≤ 1000000000000 := by
    have h1 := flatJ_len l r (joiner_ranked r) (joiner_ranked l)
    have h2 : (joiner_ranked l).length * (joiner_ranked r).length ≤ 1000000 * 1000000 := Nat.mul_le_mul (by omega) (by omega)
    unfold mergeM
    omega
  unfold V_merge1 at *
  rw [joiner_Merge_a4_x0]
  unfold V_merge1
  rw [qo_fq_pair, qf_fq_pair, obO_pos hml, obO_pos rfl, obO_pos (fun _ _ _ _ => trivial), obO_pos (pr_uni _), merge_sorted]
  rfl
def F_joiner_Merge : FnC Un := fun args => match args with
  | [x0, x1] => (dL .row x0).bind fun l => (dL .row x1).bind fun r => some ([jBound l r], A_joiner_Merge (joiner_Merge l r), O_joiner_Merge (joiner_Merge l r))
  | _ => none
theorem ok_joiner_Merge : FnOK 11 F_joiner_Merge := by
  intro args ob rs os h hob
  unfold F_joiner_Merge at h
  split at h
  · simp only [Option.bind_eq_some_iff, Option.some.injEq, Prod.mk.injEq] at h
    obtain ⟨l, e0, r, e1, rfl, rfl, rfl⟩ := h
    obtain rfl := dL_eq e0
    obtain rfl := dL_eq e1
    exact ⟨fn_contractF (M := M_joiner_Merge) rfl (tbl_ok (l1 := [(20, F_joiner_ranked), (14, F_value_Orders), (21, F_joiner_run)]) (l2 := [(23, V_merge1)]) (l3 := []) (l4 := []) (l5 := [(22, U_sortq_pair)]) ⟨ok_joiner_ranked, ok_value_Orders, ok_joiner_run, trivial⟩ ⟨okV_merge1, trivial⟩ trivial trivial ⟨okU_sortq_pair, trivial⟩) Tryd.func11 (by kernel_rfl) N_joiner_Merge 3 [.d] (fun hwf => (joiner_Merge_spec l r (wfArg hwf (a := .d (.v (.dat (U := Un) Ty.row l))) (List.mem_of_getElem? (i := 0) rfl)) (wfArg hwf (a := .d (.v (.dat (U := Un) Ty.row r))) (List.mem_of_getElem? (i := 1) rfl)) (hob _ (List.mem_of_getElem? (i := 0) rfl)))), hasBody_of Tryd.func11 (by kernel_rfl) (by kernel_rfl)⟩
  · simp at h
end
end Go.Proofs.YtcmfdbjdbbpomaaDoor.B
namespace Go.Proofs.YtcmfdbjdbbpomaaDoor.B
open Go Go.RowKit Go.Shelf
set_option maxRecDepth 1000000
set_option linter.unusedVariables false
def ren_bb : Ren := ⟨fun | 167 => 33 | 240 => 44 | 276 => 59 | n => n, fun | 0 => 0 | 3 => 3 | 4 => 4 | 9 => 9 | 20 => 20 | 37 => 57 | 70 => 56 | 72 => 59 | 75 => 62 | 164 => 89 | 5 => 5 | 80 => 67 | n => n, fun | n => n⟩
theorem lays_bb : Lays.n167 Tryd.prog ren_bb := {
  mixed := by kernel_rfl
  f167 := Tryd.func33.trans (congrArg some (by kernel_rfl))
  f240 := Tryd.func44.trans (congrArg some (by kernel_rfl))
  f276 := Tryd.func59.trans (congrArg some (by kernel_rfl))
  t0 := Tryd.underlying0
  a0 := Tryd.isAgg0
  z0 := Tryd.sizeOf0
  v0 := Tryd.zeroValue0
  t5 := Tryd.underlying5
  a5 := Tryd.isAgg5
  z5 := Tryd.sizeOf5
  v5 := Tryd.zeroValue5
  t4 := Tryd.underlying4
  a4 := Tryd.isAgg4
  z4 := Tryd.sizeOf4
  v4 := Tryd.zeroValue4
  t9 := Tryd.underlying9
  a9 := Tryd.isAgg9
  z9 := Tryd.sizeOf9
  v9 := Tryd.zeroValue9
  t20 := Tryd.underlying20
  a20 := Tryd.isAgg20
  z20 := Tryd.sizeOf20
  v20 := Tryd.zeroValue20
  t37 := Tryd.underlying57
  a37 := Tryd.isAgg57
  z37 := Tryd.sizeOf57
  v37 := Tryd.zeroValue57
  t70 := Tryd.underlying56
  a70 := Tryd.isAgg56
  z70 := Tryd.sizeOf56
  v70 := Tryd.zeroValue56
  t72 := Tryd.underlying59
  a72 := Tryd.isAgg59
  z72 := Tryd.sizeOf59
  v72 := Tryd.zeroValue59
  t75 := Tryd.underlying62
  a75 := Tryd.isAgg62
  z75 := Tryd.sizeOf62
  v75 := Tryd.zeroValue62
  t164 := Tryd.underlying89
  a164 := Tryd.isAgg89
  z164 := Tryd.sizeOf89
  v164 := Tryd.zeroValue89 }
theorem extra_bb : Builder.Extra Tryd.prog ren_bb := {
  sizeBuilder := by kernel_rfl
  liesBuilder := by kernel_rfl
  t5 := Tryd.underlying5
  a5 := Tryd.isAgg5
  z5 := Tryd.sizeOf5
  v5 := Tryd.zeroValue5
  infoByte := by kernel_rfl
  cellsByte := by kernel_rfl
  sizeByte := by kernel_rfl
  neB5 := by decide }
theorem writeByte (B b : Nat) (bs : List Value) (c : Int) (w : World) (h : Lib.IsBuilderF 59 5 B b bs w) (hlen : bs.length + 1 ≤ 140737488355328) (hBw : B ≤ w.heap.size) :
    Calls Tryd.prog 33 #[.pointer (some ⟨b, 0, none⟩), .int .u8 c] w fun e w' => e = .returned .nilIface ∧ (Lib.BuilderAtF 59 5 B b (.pointer (some ⟨b, 0, none⟩)) (bs ++ [.int .u8 c]) w' ∧ Below B w w' ∧ Lib.OthersKept 5 (some b) w w') :=
  Any.Builder_WriteByte_k lays_bb extra_bb B b bs c w h hlen hBw
end Go.Proofs.YtcmfdbjdbbpomaaDoor.B
namespace Go.Proofs.YtcmfdbjdbbpomaaDoor.B
open Go Go.RowKit Go.Shelf
set_option maxRecDepth 1000000
set_option linter.unusedVariables false
noncomputable section
def numsT (x : Val) : Nat → List UInt8
  | 0 => []
  | 1 => Lib.itoa x.kind ++ [32]
  | 2 => Lib.itoa x.kind ++ 32 :: (Lib.itoa x.n ++ [32])
  | _ => Lib.itoa x.kind ++ 32 :: (Lib.itoa x.n ++ 32 :: (Lib.itoa (x.s.size : Int) ++ [32]))
theorem numsT_val (x : Val) : numsT x 3 ++ x.s.data.toList = valT x := by
  unfold numsT valT
  simp
structure RNo (w : World) (r : List Val) (i : Nat) (wr : World) : Prop where
  ext : Ext w wr
  bld : Lib.IsBuilderF 59 5 w.heap.size w.heap.size (Lib.byteCells (keyT (r.take i))) wr
structure RNi (w : World) (vb : Nat) (x : Val) (T : List UInt8) (wr : World) : Prop where
  ext : Ext w wr
  bld : Lib.IsBuilderF 59 5 w.heap.size w.heap.size (Lib.byteCells T) wr
  cell : wr.heap[vb]? = some (.cells #[.int .i64 x.kind, .int .i64 x.n, .string x.s] 39 (0, 0))
theorem isB_kept {B b : Nat} {bs : List Value} {p : Value} {w : World} (h : Lib.BuilderAtF 59 5 B b p bs w) (hp : p = .pointer (some ⟨b, 0, none⟩)) : Lib.IsBuilderF 59 5 B b bs w := by
  subst hp; exact .inr h
theorem isB_lt {B b : Nat} {bs : List Value} {w : World} (h : Lib.IsBuilderF 59 5 B b bs w) : b < w.heap.size := by
  have : ∀ p, Lib.BuilderAtF 59 5 B b p bs w → b < w.heap.size := fun p ⟨_, v, h2, _⟩ => (Array.getElem?_eq_some_iff.1 h2).1
  exact h.elim (this _) (this _)
theorem RNi.step {w wr W1 W2 W3 : World} {vb : Nat} {x : Val} {T : List UInt8} (h : RNi w vb x T wr) (t : ByteArray) (hx1 : Ext wr W1) (h2 : Below w.heap.size W1 W2) (k2 : Lib.OthersKept 5 (some w.heap.size) W1 W2) (h3 : Below w.heap.size W2 W3) (k3 : Lib.OthersKept 5 (some w.heap.size) W2 W3)
    (b3 : Lib.BuilderAtF 59 5 w.heap.size w.heap.size (.pointer (some ⟨w.heap.size, 0, none⟩)) (Lib.byteCells T ++ Lib.strCells t ++ [.int .u8 32]) W3) (hvb : w.heap.size < vb) (l : List UInt8) (hl : t.data.toList = l) :
    RNi w vb x (T ++ (l ++ [32])) W3 := by
  have hlt : vb < wr.heap.size := (Array.getElem?_eq_some_iff.1 h.cell).1
  have c1 : W1.heap[vb]? = some (.cells #[.int .i64 x.kind, .int .i64 x.n, .string x.s] 39 (0, 0)) := (hx1.block hlt).trans h.cell
  have c2 := k2 _ _ c1 (by simp; omega) (fun c fz e2 => by cases e2)
  have c3 := k3 _ _ c2 (by simp; omega) (fun c fz e2 => by cases e2)
  refine ⟨Below.trans (Below.trans (h.ext.trans hx1) h2) h3, ?_, c3⟩
  refine isB_kept ?_ rfl
  have e : Lib.byteCells (T ++ (l ++ [32])) = Lib.byteCells T ++ Lib.strCells t ++ [.int .u8 32] := by
    rw [strCells_byte t l hl]
    simp [Lib.byteCells]
  rw [e]; exact b3
theorem RNi.cells {w wr : World} {vb : Nat} {x : Val} {T : List UInt8} (h : RNi w vb x T wr) : wr.cell? ⟨vb, 0, none⟩ = some (.int .i64 x.kind) ∧ wr.cell? ⟨vb, 1, none⟩ = some (.int .i64 x.n) ∧ wr.cell? ⟨vb, 2, none⟩ = some (.string x.s) := by
  have := h.cell
  refine ⟨?_, ?_, ?_⟩ <;> simp [World.cell?, this]
theorem nums_len {r : List Val} {i : Nat} {x : Val} (h : r[i]? = some x) (j : Nat) : (keyT (r.take i) ++ numsT x j).length + 22 + x.s.size ≤ (keyT r).length + 200 := by
  obtain ⟨_, k2⟩ := keyT_part h
  have h1 : (valT x).length = (numsT x 3).length + x.s.size := by rw [← numsT_val, List.length_append]; rfl
  have h2 : (numsT x j).length ≤ (numsT x 3).length := by
    match j with
    | 0 => simp [numsT]
    | 1 => simp [numsT]
    | 2 => simp [numsT]
    | _ + 3 => exact Nat.le_refl _
  rw [List.length_append]
  omega
set_option maxHeartbeats 8000000 in
theorem name_walk (r : List Val) (a : Option Addr) (b off cap : Nat) (w : World) (hld : Laid w) (hlen : r.length ≤ 1000000000) (htx : (keyT r).length ≤ 1000000000000)
    (ha : r ≠ [] → a = some ⟨b, off, none⟩ ∧ r.length ≤ cap)
    (hcell : ∀ i x, r[i]? = some x → (w.cell? ⟨b, off + i * 3, none⟩ = some (.int .i64 x.kind) ∧ w.cell? ⟨b, off + i * 3 + 1, none⟩ = some (.int .i64 x.n) ∧ w.cell? ⟨b, off + i * 3 + 2, none⟩ = some (.string x.s)) ∧
      (-9223372036854775808 ≤ x.kind ∧ x.kind ≤ 9223372036854775807) ∧ (-9223372036854775808 ≤ x.n ∧ x.n ≤ 9223372036854775807) ∧ x.s.size ≤ maxLen) :
    Calls Tryd.prog 19 #[.slice a r.length cap] w fun e w' => e = .returned (.string ⟨(keyT r).toArray⟩) ∧ Ext w w' := by
  have mixed : Tryd.prog.follows .mixedOrders = true := by kernel_rfl
  go_enter Tryd.func19, Tryd.ntmps19
  go_wp2
  go_loopw [10] (fun s10 wr => ∃ (i : Nat), i ≤ r.length ∧ s10 = .int .i64 i ∧ RNo w r i wr) (fun s10 _ => r.length - (intOf s10).toNat)
  case atStart =>
    have h1 : ∀ (h : Array Obj) (o : Obj), (h.push o)[h.size]? = some o := fun h o => by simp
    exact ⟨0, Nat.zero_le _, rfl, ⟨(Ext.refl w).alloc _, .inl ⟨Nat.le_refl _, .slice none 0 0, h1 w.heap _, World.ownsRowF_nil _ _ _ _, by simp [Value.ownBlock]⟩⟩⟩
  case round =>
    obtain ⟨i, hi, rfl, hr⟩ := hrel
    by_cases hlt : i < r.length
    · obtain ⟨x, hx⟩ : ∃ x, r[i]? = some x := ⟨_, List.getElem?_eq_getElem hlt⟩
      obtain ⟨rfl, hcap⟩ := ha (fun e => by rw [e] at hlt; simp at hlt)
      obtain ⟨⟨c0, c1, c2⟩, b0, b1, b2⟩ := hcell i x hx
      have d0 := hr.ext.keeps c0
      have d1 := hr.ext.keeps c1
      have d2 := hr.ext.keeps c2
      have hsz1 : w.heap.size < wr.heap.size := isB_lt hr.bld
      obtain ⟨kt1, kt2⟩ := keyT_part hx
      have hnl := nums_len hx
      have KT := Lib.hid kt1
      have NL := Lib.hid hnl
      clear kt1 hnl
      have HR := Lib.hid hr
      clear hr c0 c1 c2
      have k0 : (i : Int) < (r.length : Int) := by omega
      have b3 : -9223372036854775808 ≤ ((x.s.size : Nat) : Int) ∧ ((x.s.size : Nat) : Int) ≤ 9223372036854775807 := by unfold maxLen at b2; omega
      go_wp2_with fail
      have q0 : (wr.alloc (Obj.cells #[Value.int IntKind.i64 x.kind, Value.int IntKind.i64 x.n, Value.string x.s] 39)).heap[wr.heap.size]? = some (Obj.cells #[Value.int IntKind.i64 x.kind, Value.int IntKind.i64 x.n, Value.string x.s] 39 (0, 0)) := by
        have h1 : ∀ (h : Array Obj) (o : Obj), (h.push o)[h.size]? = some o := fun h o => by simp
        exact h1 _ _
      have R0 : RNi w wr.heap.size x (keyT (r.take i) ++ numsT x 0) (wr.alloc (Obj.cells #[Value.int IntKind.i64 x.kind, Value.int IntKind.i64 x.n, Value.string x.s] 39)) := ⟨HR.out.ext.alloc _, by
        have := isB_ext HR.out.bld ((Ext.refl wr).alloc (Obj.cells #[Value.int IntKind.i64 x.kind, Value.int IntKind.i64 x.n, Value.string x.s] 39))
        simpa [numsT] using this, q0⟩
      obtain ⟨t1, p1, l1, I1⟩ := itoa_text x.kind b0
      obtain ⟨t2, p2, l2, I2⟩ := itoa_text x.n b1
      obtain ⟨t3, p3, l3, I3⟩ := itoa_text x.s.size b3
      have P1 := Lib.hid p1
      have P2 := Lib.hid p2
      have P3 := Lib.hid p3
      clear p1 p2 p3 q0 d0 d1 d2
      generalize wr.heap.size = vb at R0 hsz1
      generalize wr.alloc (Obj.cells #[Value.int IntKind.i64 x.kind, Value.int IntKind.i64 x.n, Value.string x.s] 39) = W0 at R0 ⊢
      go_loopw [22] (fun s22 wi => ∃ (j : Nat), j ≤ 3 ∧ s22 = .int .i64 j ∧ RNi w vb x (keyT (r.take i) ++ numsT x j) wi) (fun s22 _ => 3 - (intOf s22).toNat)
      case atStart => exact ⟨0, by omega, rfl, R0⟩
      case round =>
        obtain ⟨j, hj, rfl, hri⟩ := hrel
        have HI := Lib.hid hri
        clear hri
        by_cases hj3 : j < 3
        · obtain rfl | rfl | rfl : j = 0 ∨ j = 1 ∨ j = 2 := by omega
          · have hb1 : (Lib.byteCells (keyT (r.take i) ++ numsT x 0)).length + t1.size ≤ 140737488355328 := by rw [Lib.byteCells_length]; have := NL.out 0; omega
            have hb2 : (Lib.byteCells (keyT (r.take i) ++ numsT x 0) ++ Lib.strCells t1).length + 1 ≤ 140737488355328 := by
              rw [List.length_append, Lib.byteCells_length]
              have h9 : (Lib.strCells t1).length = t1.size := by unfold Lib.strCells; simp
              have := NL.out 0
              omega
            simp only [show ((0 : Nat) : Int) = (0 : Int) from rfl]
            have ix : ∀ w', (Instr.index 60 (.agg #[Value.int IntKind.i64 x.kind, Value.int IntKind.i64 x.n, Value.int IntKind.i64 (x.s.size : Int)]) (.int .i64 0)).run Tryd.prog w' = .ok (.int .i64 x.kind) w' := fun _ => by kernel_rfl
            go_wp2_with (first
              | (go_at_call_of 32 (Value.int IntKind.i64 x.kind); refine (I1 _ (hld.ext HI.out.ext)).mono ?_; rintro e W1 ⟨rfl, hx1⟩)
              | (go_at_call 31; refine (writeString w.heap.size w.heap.size _ t1 _ (isB_ext HI.out.bld hx1) hb1 (HI.out.ext.trans hx1).size).mono ?_; rintro e W2 ⟨rfl, hb4, hx2, hk2⟩)
              | (go_at_call 33; refine (writeByte w.heap.size w.heap.size _ 32 _ (isB_kept hb4 rfl) hb2 (Below.trans (HI.out.ext.trans hx1) hx2).size).mono ?_; rintro e W3 ⟨rfl, hb5, hx3, hk3⟩))
            go_roundw
            case rel =>
              refine ⟨1, by omega, by go_num, ?_⟩
              have := HI.out.step t1 hx1 hx2 hk2 hx3 hk3 hb5 hsz1 _ P1.out
              rw [List.append_assoc] at this
              have e9 : numsT x 0 ++ (Lib.itoa x.kind ++ [32]) = numsT x 1 := by simp [numsT]
              rw [e9] at this
              exact this
            case measure => simp [intOf]
          · have hb1 : (Lib.byteCells (keyT (r.take i) ++ numsT x 1)).length + t2.size ≤ 140737488355328 := by rw [Lib.byteCells_length]; have := NL.out 1; omega
            have hb2 : (Lib.byteCells (keyT (r.take i) ++ numsT x 1) ++ Lib.strCells t2).length + 1 ≤ 140737488355328 := by
              rw [List.length_append, Lib.byteCells_length]
              have h9 : (Lib.strCells t2).length = t2.size := by unfold Lib.strCells; simp
              have := NL.out 1
              omega
            simp only [show ((1 : Nat) : Int) = (1 : Int) from rfl]
            have ix : ∀ w', (Instr.index 60 (.agg #[Value.int IntKind.i64 x.kind, Value.int IntKind.i64 x.n, Value.int IntKind.i64 (x.s.size : Int)]) (.int .i64 1)).run Tryd.prog w' = .ok (.int .i64 x.n) w' := fun _ => by kernel_rfl
            go_wp2_with (first
              | (go_at_call_of 32 (Value.int IntKind.i64 x.n); refine (I2 _ (hld.ext HI.out.ext)).mono ?_; rintro e W1 ⟨rfl, hx1⟩)
              | (go_at_call 31; refine (writeString w.heap.size w.heap.size _ t2 _ (isB_ext HI.out.bld hx1) hb1 (HI.out.ext.trans hx1).size).mono ?_; rintro e W2 ⟨rfl, hb4, hx2, hk2⟩)
              | (go_at_call 33; refine (writeByte w.heap.size w.heap.size _ 32 _ (isB_kept hb4 rfl) hb2 (Below.trans (HI.out.ext.trans hx1) hx2).size).mono ?_; rintro e W3 ⟨rfl, hb5, hx3, hk3⟩))
            go_roundw
            case rel =>
              refine ⟨2, by omega, by go_num, ?_⟩
              have := HI.out.step t2 hx1 hx2 hk2 hx3 hk3 hb5 hsz1 _ P2.out
              rw [List.append_assoc] at this
              have e9 : numsT x 1 ++ (Lib.itoa x.n ++ [32]) = numsT x 2 := by simp [numsT]
              rw [e9] at this
              exact this
            case measure => simp [intOf]
          · have hb1 : (Lib.byteCells (keyT (r.take i) ++ numsT x 2)).length + t3.size ≤ 140737488355328 := by rw [Lib.byteCells_length]; have := NL.out 2; omega
            have hb2 : (Lib.byteCells (keyT (r.take i) ++ numsT x 2) ++ Lib.strCells t3).length + 1 ≤ 140737488355328 := by
              rw [List.length_append, Lib.byteCells_length]
              have h9 : (Lib.strCells t3).length = t3.size := by unfold Lib.strCells; simp
              have := NL.out 2
              omega
            simp only [show ((2 : Nat) : Int) = (2 : Int) from rfl]
            have ix : ∀ w', (Instr.index 60 (.agg #[Value.int IntKind.i64 x.kind, Value.int IntKind.i64 x.n, Value.int IntKind.i64 (x.s.size : Int)]) (.int .i64 2)).run Tryd.prog w' = .ok (.int .i64 (x.s.size : Int)) w' := fun _ => by kernel_rfl
            go_wp2_with (first
              | (go_at_call_of 32 (Value.int IntKind.i64 (x.s.size : Int)); refine (I3 _ (hld.ext HI.out.ext)).mono ?_; rintro e W1 ⟨rfl, hx1⟩)
              | (go_at_call 31; refine (writeString w.heap.size w.heap.size _ t3 _ (isB_ext HI.out.bld hx1) hb1 (HI.out.ext.trans hx1).size).mono ?_; rintro e W2 ⟨rfl, hb4, hx2, hk2⟩)
              | (go_at_call 33; refine (writeByte w.heap.size w.heap.size _ 32 _ (isB_kept hb4 rfl) hb2 (Below.trans (HI.out.ext.trans hx1) hx2).size).mono ?_; rintro e W3 ⟨rfl, hb5, hx3, hk3⟩))
            go_roundw
            case rel =>
              refine ⟨3, by omega, by go_num, ?_⟩
              have := HI.out.step t3 hx1 hx2 hk2 hx3 hk3 hb5 hsz1 _ P3.out
              rw [List.append_assoc] at this
              have e9 : numsT x 2 ++ (Lib.itoa (x.s.size : Int) ++ [32]) = numsT x 3 := by simp [numsT]
              rw [e9] at this
              exact this
            case measure => simp [intOf]
        · obtain rfl : j = 3 := by omega
          have hb1 : (Lib.byteCells (keyT (r.take i) ++ numsT x 3)).length + x.s.size ≤ 140737488355328 := by rw [Lib.byteCells_length]; have := NL.out 3; omega
          obtain ⟨f0, f1, f2⟩ := HI.out.cells
          go_wp2_with (first
            | (go_at_call 31; refine (writeString w.heap.size w.heap.size _ x.s _ HI.out.bld hb1 HI.out.ext.size).mono ?_; rintro e W2 ⟨rfl, hb4, hx2, hk2⟩))
          go_roundw
          case rel =>
            refine ⟨i + 1, by omega, by go_num, ⟨Below.trans HI.out.ext hx2, isB_kept ?_ rfl⟩⟩
            rw [KT.out, ← numsT_val, ← List.append_assoc, show Lib.byteCells (keyT (r.take i) ++ numsT x 3 ++ x.s.data.toList) = Lib.byteCells (keyT (r.take i) ++ numsT x 3) ++ Lib.byteCells x.s.data.toList by simp [Lib.byteCells], ← strCells_byte x.s _ rfl]
            exact hb4
          case measure => simp [intOf]; omega
    · have hie : i = r.length := by omega
      subst hie
      have hb := hr.bld
      rw [List.take_length] at hb
      have hxs := hr.ext.size
      have HR := Lib.hid hr
      have HB := Lib.hid hb
      clear hr hb
      have cS := Tryd.Builder_String_any_k w.heap.size w.heap.size (keyT r) _ HB.out hxs
      go_wp2_with (first
        | (go_at_call 34; refine cS.mono ?_; rintro e W5 ⟨rfl, hb5, hx5, hk5⟩; have X5 := Lib.hid hx5; clear hx5 hb5 hk5))
      go_ret
      exact ⟨rfl, Below.trans HR.out.ext X5.out⟩
end
end Go.Proofs.YtcmfdbjdbbpomaaDoor.B
