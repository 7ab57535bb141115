/- Part 18 of the proof: Sjoiner2 Slaw32a Ljla. -/
import Derived.Deep.QuietTactic
import Derived.BigQuiet
import Derived.Test.YtcmfdbjdbbpomaaDoorJla17
namespace Go.Proofs.YtcmfdbjdbbpomaaDoor.B
open Go Go.RowKit
set_option maxRecDepth 100000
noncomputable section
attribute [local irreducible] awp ctxK itersK iterK retQ retGQ awf ctxF loopF
def M_joiner_ranked : Mc Un := mach (tbl [(18, F_joiner_whole)]) (tbl []) (tbl [(36, L_ranked1)]) (tbl []) (tbl [(35, U_sortq_int)])
def A_joiner_ranked (r : List Int) : List (A Un) := [.c (.sl (U := Un) Ty.int r false)]
def O_joiner_ranked (_r : List Int) : List (Ob Un) := []
def R_joiner_ranked (r : List Int) : RF Un := (A_joiner_ranked r, O_joiner_ranked r)
def N_joiner_ranked : Nat → NS := fun l => (look l [(3, { ts := bl 24 202, bs := bl 24 2, nm := [(.sl 3, 96)], cs := true })]).getD ⟨[], [], [], [], [], true⟩
def joiner_ranked_s3 (l : List (List Val)) (v0 : Int) (v1 : List Int) : S Un := (st 24 24 97 0 [(1, ax 1), (3, ao 96), (6, ai (↑l.length : Int)), (7, ai v0)] [(1, bls .row l)] [(96, some ⟨(0 : Nat), Ty.int, v1, some (0 : Nat), true⟩)])
noncomputable def joiner_ranked_B3 : Code := sub (bodyOf Tryd.f20) [1, 1, 0, 1, 2, 2]
def joiner_ranked_L3 : S Un → Option (EX Un) := loopF (N_joiner_ranked 3) (fun s Q => awf M_joiner_ranked N_joiner_ranked joiner_ranked_B3 s Q)
def joiner_ranked_C3 : Exit → S Un → Option (RF Un) := ctxF M_joiner_ranked N_joiner_ranked (bodyOf Tryd.f20) [1, 1, 0, 1, 2] (retF M_joiner_ranked Tryd.f20.results.toList [.d])
def joiner_ranked_fn (l : List (List Val)) : Option (RF Un) := awf M_joiner_ranked N_joiner_ranked (bodyOf Tryd.f20) (entry Tryd.f20.ntmps 1 [.d (.v (.dat (U := Un) Ty.row l))]) (retF M_joiner_ranked Tryd.f20.results.toList [.d])
theorem joiner_ranked_in (l : List (List Val)) : joiner_ranked_fn l =
 (joiner_ranked_L3 (joiner_ranked_s3 l (0 : Int) ([]))).bind (thenX joiner_ranked_C3) := by kernel_rfl
theorem joiner_ranked_l3 (l : List (List Val)) (v0 : Int) (v1 : List Int) : joiner_ranked_L3 (joiner_ranked_s3 l v0 v1) =
 cndO (decide (v0 < (↑l.length : Int)))
  (obO (0 ≤ v0 ∧ v0 < (↑l.length : Int))
   (cndO (joiner_whole (l.getD v0.toNat []))
    (obO ((v1.length + [v0].length) * (8 : Nat) ≤ roomB)
     (joiner_ranked_L3 (joiner_ranked_s3 l (IntKind.i64.wrap (v0 + 1)) (v1 ++ [v0]))))
    (joiner_ranked_L3 (joiner_ranked_s3 l (IntKind.i64.wrap (v0 + 1)) v1))))
  (some (.exit 0, (joiner_ranked_s3 l v0 v1))) := (loopF_eq (N_joiner_ranked 3) joiner_ranked_B3 _).trans (by kernel_rfl)
theorem joiner_ranked_a3_x0 (l : List (List Val)) (v0 : Int) (v1 : List Int) : joiner_ranked_C3 (.exit 0) (joiner_ranked_s3 l v0 v1) =
 obO (v1.length ≤ (1000000000 : Nat))
  (obO (fq_int (rkO l) (rkC l) = fq_int (qo_int (fq_int (rkO l) (rkC l))) (qf_int (fq_int (rkO l) (rkC l))))
   (obO (∀ (x : Un.Den Ty.int), x ∈ v1 → ∀ (y : Un.Den Ty.int), y ∈ v1 → qo_int (fq_int (rkO l) (rkC l)) x y)
    (obO (uniQ (qf_int (fq_int (rkO l) (rkC l))) v1)
     (some (R_joiner_ranked (sortQ (qf_int (fq_int (rkO l) (rkC l))) v1)))))) := by kernel_rfl
theorem joiner_ranked_spec (l : List (List Val)) (_hl : WL .row l) (h : l.length ≤ 1000000) : joiner_ranked_fn l = some (R_joiner_ranked (joiner_ranked l)) := by
  rw [joiner_ranked_in]
  obtain ⟨o, ho, L1⟩ := loop_inv (L := joiner_ranked_L3) (st := fun (o : List Int) i => joiner_ranked_s3 l i o) (n := l.length) (by omega) (fun i o => o = ((List.range i).filter fun i : Nat => wholeR (l.getD i [])).map fun i : Nat => (i : Int)) (e := .exit 0)
    (fun o i hi hI => by
      have hol : o.length ≤ i := by
        rw [hI, List.length_map]
        exact Nat.le_trans (List.length_filter_le _ _) (by rw [List.length_range]; exact Nat.le_refl _)
      rw [joiner_ranked_l3]
      simp only [Int.toNat_natCast, cndO_eq]
      rw [if_pos (by simp; omega), obO_pos (by omega)]
      unfold joiner_whole
      by_cases c : wholeR (l.getD i []) = true
      · refine ⟨o ++ [(i : Int)], ?_, ?_⟩
        · rw [hI, List.range_succ, List.filter_append, List.map_append, List.filter_cons, if_pos c]; rfl
        · rw [if_pos c, obO_pos (by unfold roomB; rw [List.length_singleton]; omega)]
      · refine ⟨o, ?_, ?_⟩
        · rw [hI, List.range_succ, List.filter_append, List.map_append, List.filter_cons, if_neg c, List.filter_nil, List.map_nil, List.append_nil]
        · rw [if_neg c])
    (fun o _ => by
      rw [joiner_ranked_l3]
      simp [cndO_eq]) [] rfl
  have hll := rkList_len l
  have hin := rkList_in l
  have ho' : o = rkList l := ho
  rw [ho'] at L1
  refine (loop_end L1).trans ?_
  rw [joiner_ranked_a3_x0, qo_fq_int, qf_fq_int, obO_pos (by omega), obO_pos rfl, obO_pos (fun x hx y hy => ⟨hin x hx, hin y hy⟩), obO_pos (rk_uni l _)]
  rfl
def F_joiner_ranked : FnC Un := fun args => match args with
  | [x0] => (dL .row x0).bind fun l => some ([l.length ≤ 1000000], A_joiner_ranked (joiner_ranked l), O_joiner_ranked (joiner_ranked l))
  | _ => none
theorem ok_joiner_ranked : FnOK 20 F_joiner_ranked := by
  intro args ob rs os h hob
  unfold F_joiner_ranked at h
  split at h
  · simp only [Option.bind_eq_some_iff, Option.some.injEq, Prod.mk.injEq] at h
    obtain ⟨l, e0, rfl, rfl, rfl⟩ := h
    obtain rfl := dL_eq e0
    exact ⟨fn_contractF (M := M_joiner_ranked) rfl (tbl_ok (l1 := [(18, F_joiner_whole)]) (l2 := []) (l3 := [(36, L_ranked1)]) (l4 := []) (l5 := [(35, U_sortq_int)]) ⟨ok_joiner_whole, trivial⟩ trivial ⟨okL_ranked1, trivial⟩ trivial ⟨okU_sortq_int, trivial⟩) Tryd.func20 (by kernel_rfl) N_joiner_ranked 1 [.d] (fun hwf => (joiner_ranked_spec l (wfArg hwf (a := .d (.v (.dat (U := Un) Ty.row l))) (List.mem_of_getElem? (i := 0) rfl)) (hob _ (List.mem_of_getElem? (i := 0) rfl)))), hasBody_of Tryd.func20 (by kernel_rfl) (by kernel_rfl)⟩
  · simp at h
def M_joiner_Merge : Mc Un := mach (tbl [(20, F_joiner_ranked), (14, F_value_Orders), (21, F_joiner_run)]) (tbl [(23, V_merge1)]) (tbl []) (tbl []) (tbl [(22, U_sortq_pair)])
def A_joiner_Merge (r : (List (Int × Int))) : List (A Un) := [.c (.sl (U := Un) Ty.pair r false)]
def O_joiner_Merge (_r : (List (Int × Int))) : List (Ob Un) := []
def R_joiner_Merge (r : (List (Int × Int))) : RF Un := (A_joiner_Merge r, O_joiner_Merge r)
def N_joiner_Merge : Nat → NS := fun l => (look l [(4, { ts := bl 95 995, bs := bl 95 0, nm := [(.sl 7, 380)], cs := true }), (8, { ts := bl 95 16355, bs := bl 95 0, nm := [(.sl 7, 381)], cs := true }), (11, { ts := bl 95 32739, bs := bl 95 0, nm := [(.sl 7, 382)], cs := true })]).getD ⟨[], [], [], [], [], true⟩
def joiner_Merge_s4 (l : List (List Val)) (r : List (List Val)) (v0 : Int) (v1 : Int) (v2 : List (Int × Int)) : S Un := (st 95 95 383 0 [(0, al .row l), (1, al .row r), (5, al .int (joiner_ranked l)), (6, al .int (joiner_ranked r)), (7, ao 380), (8, ai v0), (9, ai v1)] [] [(380, some ⟨(0 : Nat), Ty.pair, v2, some (0 : Nat), true⟩)])
def joiner_Merge_s8 (l : List (List Val)) (r : List (List Val)) (v0 : Int) (v1 : Int) (v2 : List (Int × Int)) (v3 : Int) : S Un := (st 95 95 383 0 [(0, al .row l), (1, al .row r), (5, al .int (joiner_ranked l)), (6, al .int (joiner_ranked r)), (7, ao 381), (8, ai v0), (9, ai v1), (10, ai (value_Orders (l.getD (Int.toNat ((joiner_ranked l).getD v0.toNat (0 : Int))) []) (r.getD (Int.toNat ((joiner_ranked r).getD v1.toNat (0 : Int))) []))), (11, ai (joiner_run l (joiner_ranked l) v0)), (12, ai (joiner_run r (joiner_ranked r) v1)), (13, ai v3)] [] [(381, some ⟨(0 : Nat), Ty.pair, v2, some (0 : Nat), true⟩)])
def joiner_Merge_s11 (l : List (List Val)) (r : List (List Val)) (v0 : Int) (v1 : Int) (v3 : Int) (v2 : List (Int × Int)) (v4 : Int) : S Un := (st 95 95 383 0 [(0, al .row l), (1, al .row r), (5, al .int (joiner_ranked l)), (6, al .int (joiner_ranked r)), (7, ao 382), (8, ai v0), (9, ai v1), (10, ai (value_Orders (l.getD (Int.toNat ((joiner_ranked l).getD v0.toNat (0 : Int))) []) (r.getD (Int.toNat ((joiner_ranked r).getD v1.toNat (0 : Int))) []))), (11, ai (joiner_run l (joiner_ranked l) v0)), (12, ai (joiner_run r (joiner_ranked r) v1)), (13, ai v3), (14, ai v4)] [] [(382, some ⟨(0 : Nat), Ty.pair, v2, some (0 : Nat), true⟩)])
noncomputable def joiner_Merge_B4 : Code := sub (bodyOf Tryd.f11) [1, 1, 1, 0, 1, 2, 2]
def joiner_Merge_L4 : S Un → Option (EX Un) := loopF (N_joiner_Merge 4) (fun s Q => awf M_joiner_Merge N_joiner_Merge joiner_Merge_B4 s Q)
noncomputable def joiner_Merge_B8 : Code := sub (sub (bodyOf Tryd.f11) [1, 1, 1, 0, 1, 2, 2]) [1, 2, 1, 1, 0, 1, 2, 2]
def joiner_Merge_L8 : S Un → Option (EX Un) := loopF (N_joiner_Merge 8) (fun s Q => awf M_joiner_Merge N_joiner_Merge joiner_Merge_B8 s Q)
noncomputable def joiner_Merge_B11 : Code := sub (sub (sub (bodyOf Tryd.f11) [1, 1, 1, 0, 1, 2, 2]) [1, 2, 1, 1, 0, 1, 2, 2]) [1, 0, 2, 1, 2, 2]
def joiner_Merge_L11 : S Un → Option (EX Un) := loopF (N_joiner_Merge 11) (fun s Q => awf M_joiner_Merge N_joiner_Merge joiner_Merge_B11 s Q)
def joiner_Merge_C4 : Exit → S Un → Option (RF Un) := ctxF M_joiner_Merge N_joiner_Merge (bodyOf Tryd.f11) [1, 1, 1, 0, 1, 2] (retF M_joiner_Merge Tryd.f11.results.toList [.d])
def joiner_Merge_C8 : Exit → S Un → Option (EX Un) := ctxF M_joiner_Merge N_joiner_Merge joiner_Merge_B4 [1, 2, 1, 1, 0, 1, 2] (roundF (N_joiner_Merge 4) joiner_Merge_L4)
def joiner_Merge_C11 : Exit → S Un → Option (EX Un) := ctxF M_joiner_Merge N_joiner_Merge joiner_Merge_B8 [1, 0, 2, 1, 2] (roundF (N_joiner_Merge 8) joiner_Merge_L8)
def joiner_Merge_fn (l : List (List Val)) (r : List (List Val)) : Option (RF Un) := awf M_joiner_Merge N_joiner_Merge (bodyOf Tryd.f11) (entry Tryd.f11.ntmps 3 [.d (.v (.dat (U := Un) Ty.row l)), .d (.v (.dat (U := Un) Ty.row r))]) (retF M_joiner_Merge Tryd.f11.results.toList [.d])
theorem joiner_Merge_in (l : List (List Val)) (r : List (List Val)) : joiner_Merge_fn l r =
 obO (l.length ≤ (1000000 : Nat))
  (obO (r.length ≤ (1000000 : Nat))
   ((joiner_Merge_L4 (joiner_Merge_s4 l r (0 : Int) (0 : Int) ([]))).bind (thenX joiner_Merge_C4))) := by kernel_rfl
theorem joiner_Merge_l4 (l : List (List Val)) (r : List (List Val)) (v0 : Int) (v1 : Int) (v2 : List (Int × Int)) : joiner_Merge_L4 (joiner_Merge_s4 l r v0 v1 v2) =
 cndO (decide (v0 < (↑(joiner_ranked l).length : Int)))
  (cndO (decide (v1 < (↑(joiner_ranked r).length : Int)))
   (obO (0 ≤ v0 ∧ v0 < (↑(joiner_ranked l).length : Int))
    (obO ((0 : Int) ≤ (joiner_ranked l).getD v0.toNat (0 : Int) ∧ (joiner_ranked l).getD v0.toNat (0 : Int) < (↑l.length : Int))
     (obO (0 ≤ v1 ∧ v1 < (↑(joiner_ranked r).length : Int))
      (obO ((0 : Int) ≤ (joiner_ranked r).getD v1.toNat (0 : Int) ∧ (joiner_ranked r).getD v1.toNat (0 : Int) < (↑r.length : Int))
       (obO ((0 ≤ v0 ∧ v0 < (↑(joiner_ranked l).length : Int)) ∧ jIn l (joiner_ranked l))
        (obO ((0 ≤ v1 ∧ v1 < (↑(joiner_ranked r).length : Int)) ∧ jIn r (joiner_ranked r))
         ((joiner_Merge_L8 (joiner_Merge_s8 l r v0 v1 v2 (0 : Int))).bind (thenX joiner_Merge_C8))))))))
   (some (.exit 0, (joiner_Merge_s4 l r v0 v1 v2))))
  (some (.exit 0, (joiner_Merge_s4 l r v0 v1 v2))) := (loopF_eq (N_joiner_Merge 4) joiner_Merge_B4 _).trans (by kernel_rfl)
theorem joiner_Merge_a4_x0 (l : List (List Val)) (r : List (List Val)) (v0 : Int) (v1 : Int) (v2 : List (Int × Int)) : joiner_Merge_C4 (.exit 0) (joiner_Merge_s4 l r v0 v1 v2) =
 obO (v2.length ≤ (1000000000000 : Nat))
  (obO (V_merge1 = fq_pair (qo_pair V_merge1) (qf_pair V_merge1))
   (obO (∀ (x : Un.Den Ty.pair), x ∈ v2 → ∀ (y : Un.Den Ty.pair), y ∈ v2 → qo_pair V_merge1 x y)
    (obO (uniQ (qf_pair V_merge1) v2)
     (some (R_joiner_Merge (sortQ (qf_pair V_merge1) v2)))))) := by kernel_rfl
theorem joiner_Merge_l8 (l : List (List Val)) (r : List (List Val)) (v0 : Int) (v1 : Int) (v2 : List (Int × Int)) (v3 : Int) : joiner_Merge_L8 (joiner_Merge_s8 l r v0 v1 v2 v3) =
 cndO (value_Orders (l.getD (Int.toNat ((joiner_ranked l).getD v0.toNat (0 : Int))) []) (r.getD (Int.toNat ((joiner_ranked r).getD v1.toNat (0 : Int))) []) == 0)
  (cndO (decide (v3 < joiner_run l (joiner_ranked l) v0))
   ((joiner_Merge_L11 (joiner_Merge_s11 l r v0 v1 v3 v2 (0 : Int))).bind (thenX joiner_Merge_C11))
   (some (.exit 2, (joiner_Merge_s8 l r v0 v1 v2 v3))))
  (some (.exit 2, (joiner_Merge_s8 l r v0 v1 v2 v3))) := (loopF_eq (N_joiner_Merge 8) joiner_Merge_B8 _).trans (by kernel_rfl)
theorem joiner_Merge_a8_x2 (l : List (List Val)) (r : List (List Val)) (v0 : Int) (v1 : Int) (v2 : List (Int × Int)) (v3 : Int) : joiner_Merge_C8 (.exit 2) (joiner_Merge_s8 l r v0 v1 v2 v3) =
 cndO (decide (value_Orders (l.getD (Int.toNat ((joiner_ranked l).getD v0.toNat (0 : Int))) []) (r.getD (Int.toNat ((joiner_ranked r).getD v1.toNat (0 : Int))) []) ≤ 0))
  (cndO (decide (value_Orders (l.getD (Int.toNat ((joiner_ranked l).getD v0.toNat (0 : Int))) []) (r.getD (Int.toNat ((joiner_ranked r).getD v1.toNat (0 : Int))) []) ≥ 0))
   (joiner_Merge_L4 (joiner_Merge_s4 l r (IntKind.i64.wrap (v0 + joiner_run l (joiner_ranked l) v0)) (IntKind.i64.wrap (v1 + joiner_run r (joiner_ranked r) v1)) v2))
   (joiner_Merge_L4 (joiner_Merge_s4 l r (IntKind.i64.wrap (v0 + joiner_run l (joiner_ranked l) v0)) v1 v2)))
  (cndO (decide (value_Orders (l.getD (Int.toNat ((joiner_ranked l).getD v0.toNat (0 : Int))) []) (r.getD (Int.toNat ((joiner_ranked r).getD v1.toNat (0 : Int))) []) ≥ 0))
   (joiner_Merge_L4 (joiner_Merge_s4 l r v0 (IntKind.i64.wrap (v1 + joiner_run r (joiner_ranked r) v1)) v2))
   (joiner_Merge_L4 (joiner_Merge_s4 l r v0 v1 v2))) := by kernel_rfl
theorem joiner_Merge_l11 (l : List (List Val)) (r : List (List Val)) (v0 : Int) (v1 : Int) (v3 : Int) (v2 : List (Int × Int)) (v4 : Int) : joiner_Merge_L11 (joiner_Merge_s11 l r v0 v1 v3 v2 v4) =
 cndO (decide (v4 < joiner_run r (joiner_ranked r) v1))
  (obO (0 ≤ IntKind.i64.wrap (v0 + v3) ∧ IntKind.i64.wrap (v0 + v3) < (↑(joiner_ranked l).length : Int))
   (obO (0 ≤ IntKind.i64.wrap (v1 + v4) ∧ IntKind.i64.wrap (v1 + v4) < (↑(joiner_ranked r).length : Int))
    (obO ((v2.length + [((joiner_ranked l).getD (IntKind.i64.wrap (v0 + v3)).toNat (0 : Int), (joiner_ranked r).getD (IntKind.i64.wrap (v1 + v4)).toNat (0 : Int))].length) * (16 : Nat) ≤ roomB)
     (joiner_Merge_L11 (joiner_Merge_s11 l r v0 v1 v3 (v2 ++ [((joiner_ranked l).getD (IntKind.i64.wrap (v0 + v3)).toNat (0 : Int), (joiner_ranked r).getD (IntKind.i64.wrap (v1 + v4)).toNat (0 : Int))]) (IntKind.i64.wrap (v4 + 1)))))))
  (some (.exit 4, (joiner_Merge_s11 l r v0 v1 v3 v2 v4))) := (loopF_eq (N_joiner_Merge 11) joiner_Merge_B11 _).trans (by kernel_rfl)
theorem joiner_Merge_a11_x4 (l : List (List Val)) (r : List (List Val)) (v0 : Int) (v1 : Int) (v3 : Int) (v2 : List (Int × Int)) (v4 : Int) : joiner_Merge_C11 (.exit 4) (joiner_Merge_s11 l r v0 v1 v3 v2 v4) =
 joiner_Merge_L8 (joiner_Merge_s8 l r v0 v1 v2 (IntKind.i64.wrap (v3 + 1))) := by kernel_rfl
def joiner_Merge (l r : List (List Val)) : List (Int × Int) := jPairs l r
structure MI (l r : List (List Val)) (i k : Nat) (o : List (Int × Int)) : Prop where
  hi : i ≤ (joiner_ranked l).length
  hk : k ≤ (joiner_ranked r).length
  out : o = ((joiner_ranked l).take i).flatMap (rowJ l r (joiner_ranked r))
  low : ∀ y ∈ (joiner_ranked r).take k, ∀ x ∈ (joiner_ranked l).drop i, ordR (jAt r y) (jAt l x) < 0
theorem MI.end_ {l r : List (List Val)} {i k : Nat} {o : List (Int × Int)} (h : MI l r i k o) (e : ¬ (i < (joiner_ranked l).length ∧ k < (joiner_ranked r).length)) : o = mergeM l r := by
  have h1 : ((joiner_ranked l).drop i).flatMap (rowJ l r (joiner_ranked r)) = [] := by
    by_cases e1 : i < (joiner_ranked l).length
    · have hk : k = (joiner_ranked r).length := by have := h.hk; omega
      refine flat_none fun x hx y hy e2 => ?_
      have := h.low y (by rw [hk, List.take_length]; exact hy) x hx
      rw [e2] at this
      exact ordR_lt_irr _ this
    · rw [List.drop_of_length_le (by omega)]; rfl
  unfold mergeM
  conv => rhs; rw [← List.take_append_drop i (joiner_ranked l)]
  rw [List.flatMap_append, h1, List.append_nil]
  exact h.out
theorem mem_drop_at {L : List Int} {i : Nat} {x : Int} (h : x ∈ L.drop i) : ∃ t, i ≤ t ∧ t < L.length ∧ x = L.getD t 0 := by
  obtain ⟨t, ht, rfl⟩ := List.mem_iff_getElem.1 h
  rw [List.length_drop] at ht
  refine ⟨i + t, by omega, by omega, ?_⟩
  rw [List.getElem_drop, List.getD_eq_getElem?_getD, List.getElem?_eq_getElem (by omega)]; rfl
theorem mem_take_at {L : List Int} {n : Nat} {x : Int} (h : x ∈ L.take n) : ∃ t, t < n ∧ t < L.length ∧ x = L.getD t 0 := by
  obtain ⟨t, ht, rfl⟩ := List.mem_iff_getElem.1 h
  rw [List.length_take] at ht
  refine ⟨t, by omega, by omega, ?_⟩
  rw [List.getElem_take, List.getD_eq_getElem?_getD, List.getElem?_eq_getElem (by omega)]; rfl
theorem joiner_Merge_spec (l r : List (List Val)) (_hl : WL .row l) (_hr : WL .row r) (h : jBound l r) : joiner_Merge_fn l r = some (R_joiner_Merge (joiner_Merge l r)) := by
  obtain ⟨hb1, hb2⟩ := h
  rw [joiner_Merge_in, obO_pos hb1, obO_pos hb2]
  have hAl := rank_len l
  have hBl := rank_len r
  have hinA := rank_in l
  have hinB := rank_in r
  have key : ∀ (n i k : Nat) (o : List (Int × Int)), ((joiner_ranked l).length - i) + ((joiner_ranked r).length - k) = n → MI l r i k o → ∃ v0 v1 : Int, joiner_Merge_L4 (joiner_Merge_s4 l r (i : Int) (k : Int) o) = some (.exit 0, joiner_Merge_s4 l r v0 v1 (mergeM l r)) := by
    intro n
    induction n using Nat.strongRecOn with
    | _ n ih =>
      intro i k o hn hI
      have hI1 := hI.hi
      have hI2 := hI.hk
      by_cases hgo : i < (joiner_ranked l).length ∧ k < (joiner_ranked r).length
      · obtain ⟨h1, h2⟩ := hgo
        obtain ⟨m1, m2, m3, m4⟩ := run_facts l h1
        obtain ⟨n1, n2, n3, n4⟩ := run_facts r h2
        obtain ⟨m, hm⟩ : ∃ m, m = runN l (joiner_ranked l) i := ⟨_, rfl⟩
        obtain ⟨q, hq⟩ : ∃ q, q = runN r (joiner_ranked r) k := ⟨_, rfl⟩
        rw [← hm] at m1 m2 m3 m4
        rw [← hq] at n1 n2 n3 n4
        have em : joiner_run l (joiner_ranked l) (i : Int) = (m : Int) := by unfold joiner_run; rw [Int.toNat_natCast, hm]
        have eq' : joiner_run r (joiner_ranked r) (k : Int) = (q : Int) := by unfold joiner_run; rw [Int.toNat_natCast, hq]
        obtain ⟨c, hc⟩ : ∃ c, c = ordR (jAt l ((joiner_ranked l).getD i 0)) (jAt r ((joiner_ranked r).getD k 0)) := ⟨_, rfl⟩
        have hcv : value_Orders (l.getD (Int.toNat ((joiner_ranked l).getD i (0 : Int))) []) (r.getD (Int.toNat ((joiner_ranked r).getD k (0 : Int))) []) = c := hc.symm
        have hlow : ∀ y ∈ (joiner_ranked r).take k, ordR (jAt r y) (jAt l ((joiner_ranked l).getD i 0)) < 0 := fun y hy => hI.low y hy _ (by
          rw [List.getD_eq_getElem?_getD, List.getElem?_eq_getElem h1, List.drop_eq_getElem_cons h1]; exact List.mem_cons_self)
        have hmul : (joiner_ranked l).length * (joiner_ranked r).length ≤ 1000000 * 1000000 := Nat.mul_le_mul (by omega) (by omega)
        have hpairs : ∃ (o2 : List (Int × Int)) (v3 : Int), (c = 0 → o2 = o ++ (List.range m).flatMap fun x => (List.range q).map fun y => ((joiner_ranked l).getD (i + x) 0, (joiner_ranked r).getD (k + y) 0)) ∧ (c ≠ 0 → o2 = o) ∧
            joiner_Merge_L8 (joiner_Merge_s8 l r (i : Int) (k : Int) o (0 : Int)) = some (.exit 2, joiner_Merge_s8 l r (i : Int) (k : Int) o2 v3) := by
          by_cases c0 : c = 0
          · have hol : o.length ≤ i * (joiner_ranked r).length := by
              rw [hI.out]
              refine Nat.le_trans (flatJ_len l r (joiner_ranked r) _) (Nat.mul_le_mul_right _ ?_)
              rw [List.length_take]; omega
            obtain ⟨o2, ho2, L8⟩ := loop_inv (L := joiner_Merge_L8) (st := fun (o : List (Int × Int)) x => joiner_Merge_s8 l r (i : Int) (k : Int) o x) (n := m) (by omega) (fun x o2 => o2 = o ++ (List.range x).flatMap fun x => (List.range q).map fun y => ((joiner_ranked l).getD (i + x) 0, (joiner_ranked r).getD (k + y) 0)) (e := .exit 2)
              (fun o2 x hx hI8 => by
                have hfl : ∀ x, ((List.range x).flatMap fun x => (List.range q).map fun y => ((joiner_ranked l).getD (i + x) 0, (joiner_ranked r).getD (k + y) 0)).length = x * q := by
                  intro x
                  induction x with
                  | zero => simp
                  | succ x ih => rw [List.range_succ, List.flatMap_append, List.length_append, ih, Nat.succ_mul]; simp
                obtain ⟨o3, ho3, L11⟩ := loop_inv (L := joiner_Merge_L11) (st := fun (o : List (Int × Int)) y => joiner_Merge_s11 l r (i : Int) (k : Int) (x : Int) o y) (n := q) (by omega) (fun y o3 => o3 = o2 ++ (List.range y).map fun y => ((joiner_ranked l).getD (i + x) 0, (joiner_ranked r).getD (k + y) 0)) (e := .exit 4)
                  (fun o3 y hy hI11 => by
                    have hlen : o3.length + 1 ≤ (joiner_ranked l).length * (joiner_ranked r).length := by
                      have e1 : o3.length = o.length + x * q + y := by rw [hI11, hI8, List.length_append, List.length_append, hfl, List.length_map, List.length_range]
                      have e2 : x * q ≤ x * (joiner_ranked r).length := Nat.mul_le_mul_left _ (by omega)
                      have e3 : (i + x + 1) * (joiner_ranked r).length ≤ (joiner_ranked l).length * (joiner_ranked r).length := Nat.mul_le_mul_right _ (by omega)
                      rw [Nat.succ_mul, Nat.add_mul] at e3
                      omega
                    refine ⟨o3 ++ [((joiner_ranked l).getD (i + x) 0, (joiner_ranked r).getD (k + y) 0)], ?_, ?_⟩
                    · rw [hI11, List.range_succ, List.map_append, List.append_assoc]; rfl
                    · rw [joiner_Merge_l11, eq', wrap_id (show -9223372036854775808 ≤ (i : Int) + (x : Int) ∧ (i : Int) + (x : Int) ≤ 9223372036854775807 by omega), wrap_id (show -9223372036854775808 ≤ (k : Int) + (y : Int) ∧ (k : Int) + (y : Int) ≤ 9223372036854775807 by omega)]
                      have t1 : ((i : Int) + (x : Int)).toNat = i + x := by omega
                      have t2 : ((k : Int) + (y : Int)).toNat = k + y := by omega
                      simp only [cndO_eq, t1, t2]
                      rw [if_pos (by rw [decide_eq_true_eq]; omega), obO_pos (by omega), obO_pos (by omega), obO_pos (by unfold roomB; rw [List.length_singleton]; omega)])
                  (fun o3 _ => by
                    rw [joiner_Merge_l11, eq']
                    simp [cndO_eq]) o2 (by simp)
                refine ⟨o3, ?_, ?_⟩
                · rw [ho3, hI8, List.range_succ, List.flatMap_append, List.append_assoc]; simp
                · rw [joiner_Merge_l8]
                  simp only [Int.toNat_natCast, hcv, cndO_eq, em]
                  rw [if_pos (by simp [c0]), if_pos (by rw [decide_eq_true_eq]; omega), loop_end L11, joiner_Merge_a11_x4])
              (fun o2 _ => by
                rw [joiner_Merge_l8]
                simp only [Int.toNat_natCast, hcv, cndO_eq, em]
                rw [if_pos (by simp [c0]), if_neg (by simp)]) o (by simp)
            exact ⟨o2, _, fun _ => ho2, fun h => absurd c0 h, L8⟩
          · refine ⟨o, 0, fun h => absurd h c0, fun _ => rfl, ?_⟩
            rw [joiner_Merge_l8]
            simp only [Int.toNat_natCast, hcv, cndO_eq]
            rw [if_neg (by simpa using c0)]
        obtain ⟨o2, v3, p1, p2, L8⟩ := hpairs
        rw [joiner_Merge_l4]
        simp only [Int.toNat_natCast, cndO_eq]
        rw [if_pos (by rw [decide_eq_true_eq]; omega), if_pos (by rw [decide_eq_true_eq]; omega), obO_pos (by omega), obO_pos (hinA.at h1), obO_pos (by omega), obO_pos (hinB.at h2), obO_pos ⟨by omega, hinA⟩, obO_pos ⟨by omega, hinB⟩, loop_end L8, joiner_Merge_a8_x2]
        simp only [Int.toNat_natCast, hcv, cndO_eq, em, eq']
        rw [wrap_id (by omega), wrap_id (by omega)]
        have e1 : (i : Int) + (m : Int) = ((i + m : Nat) : Int) := by omega
        have e2 : (k : Int) + (q : Int) = ((k + q : Nat) : Int) := by omega
        rw [e1, e2]
        have hbeh : ∀ x ∈ (joiner_ranked l).drop (i + m), ordR (jAt l ((joiner_ranked l).getD i 0)) (jAt l x) < 0 := fun x hx => by
          obtain ⟨t, t1, t2, rfl⟩ := mem_drop_at hx
          exact m4 t t1 t2
        have hge : ∀ x ∈ (joiner_ranked l).drop i, ordR (jAt l ((joiner_ranked l).getD i 0)) (jAt l x) ≤ 0 := fun x hx => by
          obtain ⟨t, t1, t2, rfl⟩ := mem_drop_at hx
          exact rank_le l t1 t2
        have hrk : ∀ y ∈ (joiner_ranked r).take (k + q), y ∈ (joiner_ranked r).take k ∨ jAt r y = jAt r ((joiner_ranked r).getD k 0) := fun y hy => by
          obtain ⟨t, t1, t2, rfl⟩ := mem_take_at hy
          by_cases e : t < k
          · left
            rw [List.getD_eq_getElem?_getD, List.getElem?_eq_getElem t2]
            exact List.mem_take_iff_getElem.2 ⟨t, by omega, rfl⟩
          · right; exact n3 t (by omega) t1
        have hflat : ((joiner_ranked l).take (i + m)).flatMap (rowJ l r (joiner_ranked r)) = o ++ (((joiner_ranked l).drop i).take m).flatMap (rowJ l r (joiner_ranked r)) := by
          rw [List.take_add, List.flatMap_append, ← hI.out]
        have hseg : ∀ x ∈ ((joiner_ranked l).drop i).take m, jAt l x = jAt l ((joiner_ranked l).getD i 0) := fun x hx => by
          rw [seg_get _ _ _ m2] at hx
          obtain ⟨t, ht, rfl⟩ := List.mem_map.1 hx
          rw [List.mem_range] at ht
          exact m3 (i + t) (by omega) (by omega)
        by_cases c0 : c = 0
        · rw [if_pos (by rw [decide_eq_true_eq]; omega), if_pos (by rw [decide_eq_true_eq]; omega)]
          have hkk : jAt l ((joiner_ranked l).getD i 0) = jAt r ((joiner_ranked r).getD k 0) := by rw [← ordR_zero, ← hc]; exact c0
          refine ih _ (by omega) (i + m) (k + q) o2 rfl ⟨m2, n2, ?_, ?_⟩
          · rw [p1 c0, hflat, seg_get _ _ _ m2]
            congr 1
            have : ∀ (L : List Nat), (∀ x ∈ L, x < m) → (L.flatMap fun x => (List.range q).map fun y => ((joiner_ranked l).getD (i + x) 0, (joiner_ranked r).getD (k + y) 0)) = (L.map fun y => (joiner_ranked l).getD (i + y) 0).flatMap (rowJ l r (joiner_ranked r)) := by
              intro L
              induction L with
              | nil => intro _; rfl
              | cons x L ih =>
                intro hL
                rw [List.flatMap_cons, List.map_cons, List.flatMap_cons, ih fun y hy => hL y (List.mem_cons_of_mem _ hy)]
                have hx := hL x List.mem_cons_self
                have hjx := m3 (i + x) (by omega) (by omega)
                rw [row_run h2 (hjx.trans hkk) (fun y hy => by rw [hjx]; exact hlow y hy), ← hq]
            exact this _ fun x hx => List.mem_range.1 hx
          · intro y hy x hx
            rcases hrk y hy with hy | hy
            · exact hI.low y hy x (by rw [← List.drop_drop] at hx; exact List.mem_of_mem_drop hx)
            · rw [hy, ← hkk]; exact hbeh x hx
        · rw [p2 c0]
          by_cases cl : c < 0
          · rw [if_pos (by rw [decide_eq_true_eq]; omega), if_neg (by rw [decide_eq_true_eq]; omega)]
            refine ih _ (by omega) (i + m) k o rfl ⟨m2, hI2, ?_, ?_⟩
            · rw [hflat, flat_none, List.append_nil]
              intro x hx y hy e
              rw [hseg x hx] at e
              rw [← List.take_append_drop k (joiner_ranked r)] at hy
              rcases List.mem_append.1 hy with hy | hy
              · have := hlow y hy
                rw [e] at this
                exact ordR_lt_irr _ this
              · obtain ⟨t, t1, t2, rfl⟩ := mem_drop_at hy
                have := ordR_lt_le (show ordR (jAt l ((joiner_ranked l).getD i 0)) (jAt r ((joiner_ranked r).getD k 0)) < 0 by omega) (rank_le r t1 t2)
                rw [e] at this
                exact ordR_lt_irr _ this
            · intro y hy x hx
              exact hI.low y hy x (by rw [← List.drop_drop] at hx; exact List.mem_of_mem_drop hx)
          · rw [if_neg (by rw [decide_eq_true_eq]; omega), if_pos (by rw [decide_eq_true_eq]; omega)]
            refine ih _ (by omega) i (k + q) o rfl ⟨hI1, n2, hI.out, ?_⟩
            intro y hy x hx
            rcases hrk y hy with hy | hy
            · exact hI.low y hy x hx
            · rw [hy]
              have ha := ordR_anti (jAt l ((joiner_ranked l).getD i 0)) (jAt r ((joiner_ranked r).getD k 0))
              exact ordR_lt_le (show ordR (jAt r ((joiner_ranked r).getD k 0)) (jAt l ((joiner_ranked l).getD i 0)) < 0 by omega) (hge x hx)
      · have he := hI.end_ hgo
        refine ⟨(i : Int), (k : Int), ?_⟩
        rw [← he, joiner_Merge_l4, cndO_eq]
        by_cases e1 : i < (joiner_ranked l).length
        · rw [if_pos (by rw [decide_eq_true_eq]; omega), cndO_eq, if_neg (by rw [decide_eq_true_eq]; omega)]
        · rw [if_neg (by rw [decide_eq_true_eq]; omega)]
  obtain ⟨v0, v1, L4⟩ := key _ 0 0 [] rfl ⟨Nat.zero_le _, Nat.zero_le _, rfl, fun y hy => by simp at hy⟩
  refine (loop_end L4).trans ?_
  have hml : (mergeM l r).length ≤ 1000000000000 := by
    have h1 := flatJ_len l r (joiner_ranked r) (joiner_ranked l)
    have h2 : (joiner_ranked l).length * (joiner_ranked r).length ≤ 1000000 * 1000000 := Nat.mul_le_mul (by omega) (by omega)
    unfold mergeM
    omega
  unfold V_merge1 at *
  rw [joiner_Merge_a4_x0]
  unfold V_merge1
  rw [qo_fq_pair, qf_fq_pair, obO_pos hml, obO_pos rfl, obO_pos (fun _ _ _ _ => trivial), obO_pos (pr_uni _), merge_sorted]
  rfl
def F_joiner_Merge : FnC Un := fun args => match args with
  | [x0, x1] => (dL .row x0).bind fun l => (dL .row x1).bind fun r => some ([jBound l r], A_joiner_Merge (joiner_Merge l r), O_joiner_Merge (joiner_Merge l r))
  | _ => none
theorem ok_joiner_Merge : FnOK 11 F_joiner_Merge := by
  intro args ob rs os h hob
  unfold F_joiner_Merge at h
  split at h
  · simp only [Option.bind_eq_some_iff, Option.some.injEq, Prod.mk.injEq] at h
    obtain ⟨l, e0, r, e1, rfl, rfl, rfl⟩ := h
    obtain rfl := dL_eq e0
    obtain rfl := dL_eq e1
    exact ⟨fn_contractF (M := M_joiner_Merge) rfl (tbl_ok (l1 := [(20, F_joiner_ranked), (14, F_value_Orders), (21, F_joiner_run)]) (l2 := [(23, V_merge1)]) (l3 := []) (l4 := []) (l5 := [(22, U_sortq_pair)]) ⟨ok_joiner_ranked, ok_value_Orders, ok_joiner_run, trivial⟩ ⟨okV_merge1, trivial⟩ trivial trivial ⟨okU_sortq_pair, trivial⟩) Tryd.func11 (by kernel_rfl) N_joiner_Merge 3 [.d] (fun hwf => (joiner_Merge_spec l r (wfArg hwf (a := .d (.v (.dat (U := Un) Ty.row l))) (List.mem_of_getElem? (i := 0) rfl)) (wfArg hwf (a := .d (.v (.dat (U := Un) Ty.row r))) (List.mem_of_getElem? (i := 1) rfl)) (hob _ (List.mem_of_getElem? (i := 0) rfl)))), hasBody_of Tryd.func11 (by kernel_rfl) (by kernel_rfl)⟩
  · simp at h
end
end Go.Proofs.YtcmfdbjdbbpomaaDoor.B
namespace Go.Proofs.YtcmfdbjdbbpomaaDoor.B
open Go Go.RowKit
set_option maxRecDepth 100000
noncomputable section
attribute [local irreducible] awp ctxK itersK iterK retQ retGQ awf ctxF loopF
def M_l32_awake : Mc Un := mach (tbl [(15, F_value_Num), (12, F_joiner_Alone), (9, F_joiner_Nest), (8, F_r32_Same), (10, F_joiner_Hash), (11, F_joiner_Merge)]) (tbl []) (tbl []) (tbl []) (tbl [])
def A_l32_awake (r : Bool) : List (A Un) := [.c (.s (.bool r))]
def O_l32_awake (_r : Bool) : List (Ob Un) := []
def R_l32_awake (r : Bool) : RF Un := (A_l32_awake r, O_l32_awake r)
def N_l32_awake : Nat → NS := fun l => (look l []).getD ⟨[], [], [], [], [], true⟩
def l32_awake_fn : Option (RF Un) := awf M_l32_awake N_l32_awake (bodyOf Tryd.f6) (entry Tryd.f6.ntmps 0 []) (retF M_l32_awake Tryd.f6.results.toList [.d])
theorem l32_awake_in : l32_awake_fn =
 obO ((3 : Int) ≤ (1000000 : Int) ∧ [((0 : Int), (1 : Int)), ((0 : Int), (2 : Int)), ((2 : Int), (0 : Int))].length ≤ (1000000000000 : Nat))
  (obO (jBound [[(value_Num (1 : Int))], [zeroVal], [(value_Num (2 : Int))]] [[(value_Num (2 : Int))], [(value_Num (1 : Int))], [(value_Num (1 : Int))]])
   (cndO (r32_Same (joiner_Nest [[(value_Num (1 : Int))], [zeroVal], [(value_Num (2 : Int))]] [[(value_Num (2 : Int))], [(value_Num (1 : Int))], [(value_Num (1 : Int))]]) [((0 : Int), (1 : Int)), ((0 : Int), (2 : Int)), ((2 : Int), (0 : Int))])
    (obO (jBound [[(value_Num (1 : Int))], [zeroVal], [(value_Num (2 : Int))]] [[(value_Num (2 : Int))], [(value_Num (1 : Int))], [(value_Num (1 : Int))]] ∧ keysOK [[(value_Num (1 : Int))], [zeroVal], [(value_Num (2 : Int))]] ∧ keysOK [[(value_Num (2 : Int))], [(value_Num (1 : Int))], [(value_Num (1 : Int))]])
     (cndO (r32_Same (jPairs [[(value_Num (1 : Int))], [zeroVal], [(value_Num (2 : Int))]] [[(value_Num (2 : Int))], [(value_Num (1 : Int))], [(value_Num (1 : Int))]]) [((0 : Int), (1 : Int)), ((0 : Int), (2 : Int)), ((2 : Int), (0 : Int))])
      (obO (jBound [[(value_Num (1 : Int))], [zeroVal], [(value_Num (2 : Int))]] [[(value_Num (2 : Int))], [(value_Num (1 : Int))], [(value_Num (1 : Int))]])
       (cndO (r32_Same (joiner_Merge [[(value_Num (1 : Int))], [zeroVal], [(value_Num (2 : Int))]] [[(value_Num (2 : Int))], [(value_Num (1 : Int))], [(value_Num (1 : Int))]]) [((0 : Int), (1 : Int)), ((0 : Int), (2 : Int)), ((2 : Int), (0 : Int))])
        (cndO ((↑(aloneL 3 [((0 : Int), (1 : Int)), ((0 : Int), (2 : Int)), ((2 : Int), (0 : Int))]).length : Int) == (1 : Int))
         (obO ((0 : Int) ≤ (0 : Int) ∧ (0 : Int) < (↑(aloneL 3 [((0 : Int), (1 : Int)), ((0 : Int), (2 : Int)), ((2 : Int), (0 : Int))]).length : Int))
          (some (R_l32_awake ((aloneL 3 [((0 : Int), (1 : Int)), ((0 : Int), (2 : Int)), ((2 : Int), (0 : Int))]).getD 0 (0 : Int) == (1 : Int)))))
         (some (R_l32_awake (false))))
        (some (R_l32_awake (false)))))
      (some (R_l32_awake (false)))))
    (some (R_l32_awake (false))))) := by kernel_rfl
theorem same_self (a b : List (Int × Int)) (h : a = b) : r32_Same a b = true := by
  subst h
  unfold r32_Same
  rw [deq_iff]
def l32_awake : Bool := true
theorem l32_awake_spec : l32_awake_fn = some (R_l32_awake l32_awake) := by
  rw [l32_awake_in]
  have e1 : [[(value_Num (1 : Int))], [zeroVal], [(value_Num (2 : Int))]] = exJL := rfl
  have e2 : [[(value_Num (2 : Int))], [(value_Num (1 : Int))], [(value_Num (1 : Int))]] = exJR := rfl
  have hB : jBound exJL exJR := ⟨by decide, by decide⟩
  rw [e1, e2, obO_pos ⟨by decide, by decide⟩, obO_pos hB, obO_pos ⟨hB, exJ_ok.1, exJ_ok.2⟩, obO_pos hB, exJA]
  unfold joiner_Nest joiner_Merge
  rw [exJP, same_self _ _ rfl]
  simp only [cndO_eq]
  rw [if_pos trivial, if_pos trivial, if_pos trivial, if_pos (by rfl), obO_pos (by decide)]
  rfl
def F_l32_awake : FnC Un := fun args => match args with
  | [] => some ([], A_l32_awake (l32_awake), O_l32_awake (l32_awake))
  | _ => none
theorem ok_l32_awake : FnOK 6 F_l32_awake := by
  intro args ob rs os h hob
  unfold F_l32_awake at h
  split at h
  · simp only [Option.bind_eq_some_iff, Option.some.injEq, Prod.mk.injEq] at h
    obtain ⟨rfl, rfl, rfl⟩ := h
    exact ⟨fn_contractF (M := M_l32_awake) rfl (tbl_ok (l1 := [(15, F_value_Num), (12, F_joiner_Alone), (9, F_joiner_Nest), (8, F_r32_Same), (10, F_joiner_Hash), (11, F_joiner_Merge)]) (l2 := []) (l3 := []) (l4 := []) (l5 := []) ⟨ok_value_Num, ok_joiner_Alone, ok_joiner_Nest, ok_r32_Same, ok_joiner_Hash, ok_joiner_Merge, trivial⟩ trivial trivial trivial trivial) Tryd.func6 (by kernel_rfl) N_l32_awake 0 [.d] (fun hwf => (l32_awake_spec)), hasBody_of Tryd.func6 (by kernel_rfl) (by kernel_rfl)⟩
  · simp at h
end
end Go.Proofs.YtcmfdbjdbbpomaaDoor.B
namespace Go.Proofs.YtcmfdbjdbbpomaaDoor.B
open Go Go.RowKit Go.Shelf Go.Maps
set_option maxRecDepth 1000000
set_option linter.unusedVariables false
noncomputable section
theorem prs_cells {w : World} {base : Nat} {v : Value} {xs : List (Int × Int)} (h : w.ownsRow base 32 2 v xs.length (xs.flatMap prV)) :
    ∃ (a : Option Addr) (b cap : Nat), v = .slice a xs.length cap ∧ (xs ≠ [] → a = some ⟨b, 0, none⟩ ∧ xs.length ≤ cap ∧ b < w.heap.size) ∧ ∀ i x, xs[i]? = some x → w.cell? ⟨b, i * 2, none⟩ = some (.int .i64 x.1) ∧ w.cell? ⟨b, i * 2 + 1, none⟩ = some (.int .i64 x.2) := by
  obtain ⟨a, c, rfl, hf⟩ := own_form h
  by_cases h0 : xs = []
  · subst h0
    exact ⟨a, 0, c, rfl, fun h => absurd rfl h, fun i x hi => by simp at hi⟩
  · obtain ⟨g, rfl, hc⟩ := hf (List.length_pos_iff.2 h0)
    refine ⟨_, g, c, rfl, fun _ => ⟨rfl, hc, (h.lt g rfl).2⟩, fun i x hx => ?_⟩
    obtain ⟨hi, rfl⟩ := List.getElem?_eq_some_iff.1 hx
    have key : ∀ j, j < 2 → w.cell? ⟨g, i * 2 + j, none⟩ = (prV xs[i])[j]? := fun j hj => by
      have := h.cellAt (i * 2 + j) (by omega)
      rw [this, prs_get xs i j hj hi, List.getD_eq_getElem?_getD, List.getElem?_eq_getElem hi]; rfl
    exact ⟨key 0 (by omega), key 1 (by omega)⟩
theorem ints_cells {w : World} {base : Nat} {v : Value} {xs : List Int} (h : w.ownsRow base 3 1 v xs.length (xs.map (Value.int .i64))) :
    ∃ (a : Option Addr) (b cap : Nat), v = .slice a xs.length cap ∧ (xs ≠ [] → a = some ⟨b, 0, none⟩ ∧ xs.length ≤ cap ∧ b < w.heap.size) ∧ ∀ i x, xs[i]? = some x → w.cell? ⟨b, i, none⟩ = some (.int .i64 x) := by
  obtain ⟨a, c, rfl, hf⟩ := own_form h
  by_cases h0 : xs = []
  · subst h0
    exact ⟨a, 0, c, rfl, fun h => absurd rfl h, fun i x hi => by simp at hi⟩
  · obtain ⟨g, rfl, hc⟩ := hf (List.length_pos_iff.2 h0)
    refine ⟨_, g, c, rfl, fun _ => ⟨rfl, hc, (h.lt g rfl).2⟩, fun i x hx => ?_⟩
    obtain ⟨hi, rfl⟩ := List.getElem?_eq_some_iff.1 hx
    have := h.cellAt i (by simpa using hi)
    rw [this, List.getElem?_map, List.getElem?_eq_getElem hi]; rfl
theorem call_ints {f : FuncId} {F : FnC Un} (hok : FnOK f F) {args : List (D Un)} {ob : List Prop} {xs : List Int} {t : Bool} (hF : F args = some (ob, [.c (.sl (U := Un) Ty.int xs t)], [])) (hob : ∀ p ∈ ob, p) {w : World} {St : Nat → Nat → Prop} {vs : List Value} (hbd : ∀ b o, St b o → b < w.heap.size) (hrel : All2 (DRel Tryd.prog En St w) vs args) (hld : Laid w) :
    Calls Tryd.prog f vs.toArray w fun e w' => ∃ (a : Option Addr) (b off cap : Nat), e = .returned (.slice a xs.length cap) ∧ Ext w w' ∧ (xs ≠ [] → a = some ⟨b, off, none⟩ ∧ xs.length ≤ cap ∧ b < w'.heap.size) ∧ ∀ i x, xs[i]? = some x → w'.cell? ⟨b, off + i, none⟩ = some (.int .i64 x) := by
  refine ((hok args ob _ [] hF hob).1 w St vs hbd hrel hld).mono ?_
  rintro e w' ⟨v, rfl, hx, g, -, -, hg3, hr, -⟩
  have hv : VRel En g.St w' v (.dat (U := Un) Ty.int xs) := hr.1
  rcases hv.inv with ⟨rfl, a, cap, rfl⟩ | ⟨b, o, cap, cv, rfl, hcap, h1, h2⟩
  · exact ⟨a, 0, 0, cap, rfl, hx, fun h => (h rfl).elim, fun i x hi => by simp at hi⟩
  · refine ⟨_, b, o, cap, rfl, hx, fun hne => ⟨rfl, hcap.1, ?_⟩, fun i x hxi => ?_⟩
    · have := (h1 0 0 (List.length_pos_iff.2 hne) (show (0 : Nat) < 1 by omega)).1
      exact hg3 b _ _ this
    · obtain ⟨hi, rfl⟩ := List.getElem?_eq_some_iff.1 hxi
      have c0 := (h1 i 0 hi (show (0 : Nat) < 1 by omega)).2
      have r0 := vrel_s (h2 i hi 0 (.s (.int .i64 xs[i])) rfl)
      have e : o + i * Un.sz Ty.int + 0 = o + i := by show o + i * 1 + 0 = _; omega
      rw [e, r0.1] at c0
      exact c0
structure RS (W : World) (sb : Nat) (f : Nat → Int) (wr : World) : Prop where
  ext : Ext W wr
  blk : ∃ cs t, wr.heap[sb]? = some (.cells cs t (0, 0)) ∧ cs.size = 40 ∧ ∀ j, j < 40 → cs[j]? = some (.int .i64 (f j))
theorem RS.cell {W wr : World} {sb : Nat} {f : Nat → Int} (h : RS W sb f wr) {j : Nat} (hj : j < 40) : wr.cell? ⟨sb, j, none⟩ = some (.int .i64 (f j)) ∧ wr.frozen? ⟨sb, j, none⟩ = false := by
  obtain ⟨cs, t, h1, _, h3⟩ := h.blk
  unfold World.cell? World.frozen?
  rw [h1]
  exact ⟨by simpa using h3 j hj, by simp⟩
theorem RS.set {W wr : World} {sb : Nat} {f g : Nat → Int} {j : Nat} {x : Int} (h : RS W sb f wr) (hsb : W.heap.size ≤ sb) (hj : j < 40) (hg : ∀ i, i < 40 → g i = if i = j then x else f i) : RS W sb g (wr.setCell ⟨sb, j, none⟩ (.int .i64 x)) := by
  obtain ⟨cs, t, h1, h2, h3⟩ := h.blk
  refine ⟨h.ext.setCell hsb _, cs.setIfInBounds j (.int .i64 x), t, ?_, by simpa using h2, fun i hi => ?_⟩
  · unfold World.setCell
    simp only [Array.getElem?_modify]
    rw [if_pos trivial, h1]
    rfl
  · rw [hg i hi, Array.getElem?_setIfInBounds]
    by_cases e : i = j
    · subst e
      rw [if_pos rfl, if_pos (by omega), if_pos rfl]
    · rw [if_neg (fun h => e h.symm), if_neg e]
      exact h3 i hi
theorem RS.drew {W wr : World} {sb : Nat} {f : Nat → Int} (h : RS W sb f wr) (q : Nat) : RS W sb f (wr.drewN q) := ⟨h.ext.drewN q, h.blk⟩
def mark2 (P : List (Int × Int)) (L : List Int) (j : Nat) : Int := (if (P.any fun q => q.1 == (j : Int)) = true then 1 else 0) + (if (j : Int) ∈ L then 2 else 0)
theorem aloneL_mem {n : Nat} {P : List (Int × Int)} {x : Int} : x ∈ aloneL n P ↔ ∃ i : Nat, i < n ∧ (P.any fun q => q.1 == (i : Int)) = false ∧ x = (i : Int) := by
  unfold aloneL
  constructor
  · intro h
    obtain ⟨i, hi, rfl⟩ := List.mem_map.1 h
    obtain ⟨h1, h2⟩ := List.mem_filter.1 hi
    exact ⟨i, List.mem_range.1 h1, by simpa using h2, rfl⟩
  · rintro ⟨i, hi, h, rfl⟩
    exact List.mem_map.2 ⟨i, List.mem_filter.2 ⟨List.mem_range.2 hi, by simpa using h⟩, rfl⟩
theorem aloneL_inc (n : Nat) (P : List (Int × Int)) : (aloneL n P).Pairwise (· < ·) := by
  unfold aloneL
  refine List.pairwise_map.2 (List.Pairwise.filter _ ?_)
  exact List.pairwise_lt_range.imp fun {a b} h => Int.ofNat_lt.2 h
theorem mark_end {n : Nat} {P : List (Int × Int)} {j : Nat} (hj : j < n) : mark2 P (aloneL n P) j = 1 ∨ mark2 P (aloneL n P) j = 2 := by
  unfold mark2
  cases h : P.any fun q => q.1 == (j : Int) with
  | true =>
    left
    rw [if_pos rfl, if_neg]
    · rfl
    · intro hm
      obtain ⟨i, _, h2, e⟩ := aloneL_mem.1 hm
      have : i = j := by omega
      rw [this, h] at h2
      simp at h2
  | false =>
    right
    rw [if_neg (by simp), if_pos (aloneL_mem.2 ⟨j, hj, h, rfl⟩)]
    rfl
theorem mark_one {P : List (Int × Int)} {i a : Nat} {x : Int × Int} (h : P[i]? = some x) (hx : x.1 = (a : Int)) (j : Nat) : mark2 (P.take (i + 1)) [] j = if j = a then 1 else mark2 (P.take i) [] j := by
  obtain ⟨x1, x2⟩ := x
  obtain rfl : x1 = (a : Int) := hx
  unfold mark2
  rw [List.take_add_one, h, List.any_append]
  by_cases e : j = a
  · subst e
    simp
  · have h1 : ((a : Int) == (j : Int)) = false := by simp; omega
    rw [if_neg e]
    show (if ((List.take i P).any (fun q => q.1 == (j : Int)) || ((a : Int) == (j : Int) || false)) = true then 1 else 0) + _ = _
    rw [h1, Bool.or_false, Bool.or_false]
theorem mark_two {P : List (Int × Int)} {L : List Int} {i a : Nat} (h : L[i]? = some (a : Int)) (hn : (a : Int) ∉ L.take i) (j : Nat) : mark2 P (L.take (i + 1)) j = if j = a then mark2 P (L.take i) a + 2 else mark2 P (L.take i) j := by
  unfold mark2
  rw [List.take_add_one, h]
  by_cases e : j = a
  · subst e
    simp [hn]
  · have : ¬ ((j : Int) = (a : Int)) := by omega
    simp [e, this]
theorem mark_le (P : List (Int × Int)) (L : List Int) (j : Nat) : 0 ≤ mark2 P L j ∧ mark2 P L j ≤ 3 := by
  unfold mark2
  split <;> split <;> omega
theorem rs_start (W : World) (t : TypeId) : RS W W.heap.size (mark2 (([] : List (Int × Int)).take 0) []) (W.alloc (Obj.cells (Array.replicate 40 (Value.int .i64 0)) t)) := by
  refine ⟨(Ext.refl W).alloc _, Array.replicate 40 (Value.int .i64 0), t, ?_, by simp, fun j hj => ?_⟩
  · show (W.heap.push _)[W.heap.size]? = _
    simp
  · rw [Array.getElem?_replicate, if_pos hj]; rfl
set_option maxHeartbeats 1500000 in
theorem law_alone_walk (n : Int) (p : List (Int × Int)) (k0 k1 : List (List Val)) (pa : Option Addr) (pb poff pcap : Nat) (a0 a1 : Option Addr) (b0 o0 c0 b1 o1 c1 : Nat) (kv0 kv1 : Nat → Value) (w : World) (hp9 : p.length ≤ 9223372036854775807) (hk9 : k0.length ≤ 9223372036854775807)
    (hlaw : ∀ W, Ext w W → Calls Tryd.prog 6 #[] W fun e W' => e = .returned (.bool true) ∧ Ext W W')
    (hA : n ≤ 200 → p.length ≤ 100 → ∀ W, Ext w W → Calls Tryd.prog 12 #[.int .i64 n, .slice pa p.length pcap] W fun e W' => ∃ v, e = .returned v ∧ Ext W W' ∧ W'.ownsRow W.heap.size 3 1 v (aloneL n.toNat p).length ((aloneL n.toNat p).map (Value.int .i64)))
    (hR : n ≤ 200 → ∀ W, Ext w W → Calls Tryd.prog 13 #[.int .i64 n, .slice pa p.length pcap] W fun e w' => ∃ (a : Option Addr) (b off cap : Nat), e = .returned (.slice a (aloneL n.toNat p).length cap) ∧ Ext W w' ∧ (aloneL n.toNat p ≠ [] → a = some ⟨b, off, none⟩ ∧ (aloneL n.toNat p).length ≤ cap ∧ b < w'.heap.size) ∧ ∀ i x, (aloneL n.toNat p)[i]? = some x → w'.cell? ⟨b, off + i, none⟩ = some (.int .i64 x))
    (hH : k0.length ≤ 40 → k1.length ≤ 40 → ∀ W, Ext w W → Calls Tryd.prog 10 #[.slice a0 k0.length c0, .slice a1 k1.length c1] W fun e w' => ∃ v, e = .returned v ∧ Ext W w' ∧ w'.ownsRow W.heap.size 32 2 v (jPairs k0 k1).length ((jPairs k0 k1).flatMap prV)) :
    Calls Tryd.prog 4 #[.int .i64 n, .slice pa p.length pcap, .agg #[.slice a0 k0.length c0, .slice a1 k1.length c1]] w fun e w' => e = .returned (.bool true) ∧ Ext w w' := by
  have mixed : Tryd.prog.follows .mixedOrders = true := by kernel_rfl
  have HL := Lib.hid hlaw
  clear hlaw
  have e0 : Ext w (w.alloc (Obj.cells #[Value.slice a0 k0.length c0, Value.slice a1 k1.length c1] 22)) := (Ext.refl w).alloc _
  by_cases q1 : n > 200
  · go_enter Tryd.func4, Tryd.ntmps4
    go_wp2_with (first
      | (go_at_call 6; refine (HL.out _ ((Ext.refl w).alloc _)).mono ?_; rintro e W1 ⟨rfl, hx1⟩; have X1 := Lib.hid hx1; clear hx1)
      | fail)
    go_ret
    exact ⟨rfl, ((Ext.refl w).alloc _).trans X1.out⟩
  have n1 : ¬ (200 < n) := by omega
  by_cases q2 : p.length > 100
  · have q2' : (100 : Int) < (p.length : Int) := by omega
    go_enter Tryd.func4, Tryd.ntmps4
    go_wp2_with (first
      | (go_at_call 6; refine (HL.out _ ((Ext.refl w).alloc _)).mono ?_; rintro e W1 ⟨rfl, hx1⟩; have X1 := Lib.hid hx1; clear hx1)
      | fail)
    go_ret
    exact ⟨rfl, ((Ext.refl w).alloc _).trans X1.out⟩
  have n2 : ¬ ((100 : Int) < (p.length : Int)) := by omega
  by_cases q3 : k0.length > 40
  · have q3' : (40 : Int) < (k0.length : Int) := by omega
    go_enter Tryd.func4, Tryd.ntmps4
    go_wp2_with (first
      | (go_at_call 6; refine (HL.out _ ((Ext.refl w).alloc _)).mono ?_; rintro e W1 ⟨rfl, hx1⟩; have X1 := Lib.hid hx1; clear hx1)
      | fail)
    go_ret
    exact ⟨rfl, ((Ext.refl w).alloc _).trans X1.out⟩
  have n3 : ¬ ((40 : Int) < (k0.length : Int)) := by omega
  by_cases q4 : k1.length > 40
  · have q4' : (40 : Int) < (k1.length : Int) := by omega
    go_enter Tryd.func4, Tryd.ntmps4
    go_wp2_with (first
      | (go_at_call 6; refine (HL.out _ ((Ext.refl w).alloc _)).mono ?_; rintro e W1 ⟨rfl, hx1⟩; have X1 := Lib.hid hx1; clear hx1)
      | fail)
    go_ret
    exact ⟨rfl, ((Ext.refl w).alloc _).trans X1.out⟩
  have n4 : ¬ ((40 : Int) < (k1.length : Int)) := by omega
  have HA := Lib.hid (hA (by omega) (by omega))
  have HR := Lib.hid (hR (by omega))
  have HH := Lib.hid (hH (by omega) (by omega))
  clear hA hR hH e0
  obtain ⟨L, hL⟩ : ∃ L, L = aloneL n.toNat p := ⟨_, rfl⟩
  have hLl := aloneL_len n.toNat p
  rw [← hL] at HA HR hLl
  have hLl2 : L.length ≤ 200 := by omega
  clear hL
  go_enter Tryd.func4, Tryd.ntmps4
  go_wp2_with (first
    | (go_at_call 12; refine (HA.out _ ((Ext.refl w).alloc _)).mono ?_; rintro e W1 ⟨v1, rfl, hx1, hrow1⟩; obtain ⟨ga, gb, gc, rfl, hg1, hg2⟩ := ints_cells hrow1; have X1 := Lib.hid (((Ext.refl w).alloc _).trans hx1); have G1 := Lib.hid hg1; have G2 := Lib.hid hg2; clear hrow1 hg1 hg2; have XB := Lib.hid hx1; clear hx1)
    | (go_at_call 13; refine (HR.out _ X1.out).mono ?_; rintro e W2 ⟨ra, rb, ro, rc, rfl, hx2, hr1, hr2⟩; have X2 := Lib.hid hx2; have R1 := Lib.hid hr1; have R2 := Lib.hid hr2; clear hx2 hr1 hr2)
    | fail)
  obtain ⟨W0, x0, bx0, bx1, x01⟩ : ∃ W0, Ext w W0 ∧ W0.cell? ⟨w.heap.size, 0, none⟩ = some (.slice a0 k0.length c0) ∧ W0.cell? ⟨w.heap.size, 1, none⟩ = some (.slice a1 k1.length c1) ∧ Ext W0 W1 := ⟨_, (Ext.refl w).alloc _, cell_last rfl _ _ _ _ rfl, cell_last rfl _ _ _ _ rfl, XB.out⟩
  have X02 := Lib.hid (x01.trans X2.out)
  clear XB x01
  go_loopw [9] (fun s9 wr => ∃ i : Nat, i ≤ L.length ∧ s9 = .int .i64 i ∧ Ext W2 wr) (fun s9 _ => L.length - (intOf s9).toNat)
  case atStart => exact ⟨0, Nat.zero_le _, rfl, Ext.refl _⟩
  case round =>
    obtain ⟨i, hi, rfl, hr⟩ := hrel
    by_cases hlt : i < L.length
    · have hne : L ≠ [] := by intro e; rw [e] at hlt; simp at hlt
      obtain ⟨rfl, hgc, hgb⟩ := G1.out hne
      obtain ⟨rfl, hrc, hrb⟩ := R1.out hne
      obtain ⟨x, hx⟩ : ∃ x, L[i]? = some x := ⟨_, List.getElem?_eq_getElem hlt⟩
      have d1 := hr.keeps (X2.out.keeps (G2.out i x hx))
      have d2 := hr.keeps (R2.out i x hx)
      have i0 : (i : Int) < (L.length : Int) := by omega
      have HR1 := Lib.hid hr
      clear hr hx
      go_wp2_with fail
      go_quiet (fail)
      go_wp2_with fail
      go_roundw
      case rel => exact ⟨i + 1, by omega, by go_num, HR1.out.drewN _⟩
      case measure => simp [intOf]; omega
    · obtain ⟨W3, rfl⟩ : ∃ W3, W3 = wr := ⟨_, rfl⟩
      have hle : i = L.length := by omega
      subst hle
      have X03 := Lib.hid (X02.out.trans hr)
      have XW3 := Lib.hid (x0.trans X03.out)
      have f0 := X03.out.keeps bx0
      have f1 := X03.out.keeps bx1
      obtain ⟨P, hP⟩ : ∃ P, P = jPairs k0 k1 := ⟨_, rfl⟩
      have hPf : ∀ (i : Nat) (x : Int × Int), P[i]? = some x → ∃ a : Nat, a < k0.length ∧ x.1 = (a : Int) := fun i x hx => by
        have hm : x ∈ jPairs k0 k1 := by rw [← hP]; exact List.mem_of_getElem? hx
        obtain ⟨a, b, h1, _, _, rfl⟩ := mem_jPairs.1 hm
        exact ⟨a, h1, rfl⟩
      have hPl : P.length ≤ 1000000000000 := by rw [hP]; exact jPairs_len ⟨by omega, by omega⟩
      rw [← hP] at HH
      have PF := Lib.hid hPf
      clear hr hP hPf
      go_wp2_with (first
        | (go_at_call 10; refine (HH.out _ XW3.out).mono ?_; rintro e W4 ⟨v4, rfl, hx4, hrow4⟩; obtain ⟨ha, hb, hc, rfl, hq1, hq2⟩ := prs_cells hrow4; have X4 := Lib.hid hx4; have f2 := X4.out.keeps f0; have Q1 := Lib.hid hq1; have Q2 := Lib.hid hq2; clear hrow4 hq1 hq2 hx4)
        | (go_at_call 12; refine (alone_walk (k0.length : Int) P ha hb 0 hc _ (by omega) hPl (fun h => ⟨(Q1.out h).1, (Q1.out h).2.1⟩) (fun i x hx => by
            obtain ⟨a, ha1, ha2⟩ := PF.out i x hx
            rw [Nat.zero_add]
            exact ⟨Q2.out i x hx, by omega⟩)).mono ?_; rintro e W5 ⟨v5, rfl, hx5, hrow5⟩; rw [Int.toNat_natCast] at hrow5; obtain ⟨la, lb, lc, rfl, hl1, hl2⟩ := ints_cells hrow5; have X5 := Lib.hid hx5; have f4 := X5.out.keeps f2; have M1 := Lib.hid hl1; have M2 := Lib.hid hl2; clear hrow5 hl1 hl2 hx5)
        | fail)
      have E1 := Lib.hid (show ∀ (i : Nat) (x : Int), (aloneL k0.length P)[i]? = some x → ∃ a : Nat, a < k0.length ∧ x = (a : Int) from fun i x hx => by
        obtain ⟨a, h1, _, h2⟩ := aloneL_mem.1 (List.mem_of_getElem? hx)
        exact ⟨a, h1, h2⟩)
      have E2 := Lib.hid (aloneL_inc k0.length P)
      have E3 := Lib.hid (show ∀ j, j < k0.length → mark2 P (aloneL k0.length P) j = 1 ∨ mark2 P (aloneL k0.length P) j = 2 from fun j hj => mark_end hj)
      have hLL := aloneL_len k0.length P
      generalize aloneL k0.length P = LL at M1 M2 E1 E2 E3 hLL ⊢
      clear HH f0 f1 f2 HR HA
      go_loopw [13] (fun s13 wr => ∃ i : Nat, i ≤ P.length ∧ s13 = .int .i64 i ∧ RS W5 W5.heap.size (mark2 (P.take i) []) wr) (fun s13 _ => P.length - (intOf s13).toNat)
      case atStart => exact ⟨0, Nat.zero_le _, rfl, rs_start W5 _⟩
      case round =>
        obtain ⟨i, hi2, rfl, hr⟩ := hrel
        by_cases hlt2 : i < P.length
        · have hne : P ≠ [] := by intro e; rw [e] at hlt2; simp at hlt2
          obtain ⟨rfl, hqc, hqb⟩ := Q1.out hne
          obtain ⟨⟨xa, xb⟩, hx⟩ : ∃ x, P[i]? = some x := ⟨_, List.getElem?_eq_getElem hlt2⟩
          obtain ⟨a, ha1, ha2⟩ := PF.out i _ hx
          obtain rfl : xa = (a : Int) := ha2
          have d1 := hr.ext.keeps (X5.out.keeps (Q2.out i _ hx).1)
          have d2 := hr.ext.keeps f4
          obtain ⟨d3, d4⟩ := hr.cell (j := a) (by omega)
          have i0 : (i : Int) < (P.length : Int) := by omega
          have i1 : (a : Int) < (k0.length : Int) := by omega
          have i2 : (a : Int) < 40 := by omega
          have i3 : ¬ ((a : Int) < 0) := by omega
          have i4 : ¬ ((k0.length : Int) ≤ (a : Int)) := by omega
          have HR1 := Lib.hid hr
          have HX := Lib.hid hx
          clear hr hx
          go_wp2_with fail
          go_quiet (fail)
          go_wp2_with fail
          go_roundw
          case rel => exact ⟨i + 1, by omega, by go_num, (HR1.out.drew _).set (Nat.le_refl _) (by omega) (fun j _ => mark_one HX.out rfl j)⟩
          case measure => simp [intOf]; omega
        · have hle : i = P.length := by omega
          subst hle
          obtain ⟨W6, rfl⟩ : ∃ W6, W6 = wr := ⟨_, rfl⟩
          rw [List.take_length] at hr
          have R6 := Lib.hid hr
          clear hr
          go_wp2_with fail
          go_loopw [14] (fun s14 wr => ∃ i : Nat, i ≤ LL.length ∧ s14 = .int .i64 i ∧ RS W5 W5.heap.size (mark2 P (LL.take i)) wr) (fun s14 _ => LL.length - (intOf s14).toNat)
          case atStart => exact ⟨0, Nat.zero_le _, rfl, R6.out⟩
          case round =>
            obtain ⟨i, hi3, rfl, hr⟩ := hrel
            by_cases hlt3 : i < LL.length
            · have hne : LL ≠ [] := by intro e; rw [e] at hlt3; simp at hlt3
              obtain ⟨rfl, hmc, hmb⟩ := M1.out hne
              obtain ⟨x, hx⟩ : ∃ x, LL[i]? = some x := ⟨_, List.getElem?_eq_getElem hlt3⟩
              obtain ⟨a, ha1, rfl⟩ := E1.out i _ hx
              have hni : (a : Int) ∉ LL.take i := fun hm => by
                obtain ⟨j, hj, hje⟩ := List.mem_iff_getElem.1 hm
                rw [List.getElem_take] at hje
                rw [List.length_take] at hj
                have h2 := List.pairwise_iff_getElem.1 E2.out j i (by omega) hlt3 (by omega)
                have h3 := (List.getElem?_eq_some_iff.1 hx).2
                omega
              have d1 := hr.ext.keeps (M2.out i _ hx)
              have d2 := hr.ext.keeps f4
              obtain ⟨d3, d4⟩ := hr.cell (j := a) (by omega)
              obtain ⟨m1, m2⟩ := mark_le P (LL.take i) a
              have i0 : (i : Int) < (LL.length : Int) := by omega
              have i1 : (a : Int) < (k0.length : Int) := by omega
              have i2 : (a : Int) < 40 := by omega
              have i3 : ((a : Int) < 0) = False := by simp
              have i4 : ¬ (k0.length ≤ a) := by omega
              have HR1 := Lib.hid hr
              have HX := Lib.hid hx
              have HN := Lib.hid hni
              clear hr hni
              generalize hmv : mark2 P (LL.take i) a = mv at d3 m1 m2
              have HM := Lib.hid hmv
              clear hmv
              by_cases hi0 : i = 0
              · have i7 : ¬ ((0 : Int) < (i : Int)) := by omega
                have i8 : ¬ (0 < i) := by omega
                clear hx hi0
                go_wp2_with fail
                refine wp_region_quiet_lit (by kernel_rfl) (by kernel_rfl) ?_
                repeat (with_reducible refine wpQuiet_step (fun K hK => ?_); go_simp; with_reducible refine hK _ ?_; clear hK K)
                with_reducible refine wpQuiet_nil ?_
                intro _ hw'
                obtain ⟨nq, hw''⟩ := hw'
                subst hw''
                go_wp2_with fail
                go_roundw
                case rel => exact ⟨i + 1, by omega, by go_num, (HR1.out.drew _).set (Nat.le_refl _) (by omega) (fun j _ => by rw [← HM.out]; exact mark_two HX.out HN.out j)⟩
                case measure => simp [intOf]; omega
              · obtain ⟨k, hik⟩ : ∃ k, i = k + 1 := ⟨i - 1, by omega⟩
                obtain ⟨y, hy⟩ : ∃ y, LL[k]? = some y := ⟨_, List.getElem?_eq_getElem (by omega)⟩
                obtain ⟨b, hb1, rfl⟩ := E1.out k _ hy
                have hba : (b : Int) < (a : Int) := by
                  have h2 := List.pairwise_iff_getElem.1 E2.out k i (by omega) hlt3 (by omega)
                  rw [(List.getElem?_eq_some_iff.1 hx).2, (List.getElem?_eq_some_iff.1 hy).2] at h2
                  exact h2
                have d5 := HR1.out.ext.keeps (M2.out k _ hy)
                have i5 : ¬ (a ≤ b) := by omega
                have i6 : (k : Int) < (LL.length : Int) := by omega
                have i7 : 0 < i := by omega
                have i8 : (i : Int) - 1 = (k : Int) := by omega
                have i9 : IntKind.i64.wrap (k : Int) = (k : Int) := IntWalk.i64_in _ (by omega)
                clear hx hy hi0 hik
                go_wp2_with fail
                refine wp_region_quiet_lit (by kernel_rfl) (by kernel_rfl) ?_
                repeat (with_reducible refine wpQuiet_step (fun K hK => ?_); go_simp; with_reducible refine hK _ ?_; clear hK K)
                with_reducible refine wpQuiet_nil ?_
                intro _ hw'
                obtain ⟨nq, hw''⟩ := hw'
                subst hw''
                go_wp2_with fail
                go_roundw
                case rel => exact ⟨i + 1, by omega, by go_num, (HR1.out.drew _).set (Nat.le_refl _) (by omega) (fun j _ => by rw [← HM.out]; exact mark_two HX.out HN.out j)⟩
                case measure => simp [intOf]; omega
            · have hle : i = LL.length := by omega
              subst hle
              obtain ⟨W7, rfl⟩ : ∃ W7, W7 = wr := ⟨_, rfl⟩
              rw [List.take_length] at hr
              have R7 := Lib.hid hr
              clear hr
              go_wp2_with fail
              go_loopw [15] (fun s15 wr => ∃ i : Nat, i ≤ k0.length ∧ s15 = .int .i64 i ∧ RS W5 W5.heap.size (mark2 P LL) wr) (fun s15 _ => k0.length - (intOf s15).toNat)
              case atStart => exact ⟨0, Nat.zero_le _, rfl, R7.out⟩
              case round =>
                obtain ⟨i, hi4, rfl, hr⟩ := hrel
                have d2 := hr.ext.keeps f4
                by_cases hlt4 : i < k0.length
                · have e3 := E3.out i hlt4
                  obtain ⟨d3, d4⟩ := hr.cell (j := i) (by omega)
                  have i0 : (i : Int) < (k0.length : Int) := by omega
                  have i2 : (i : Int) < 40 := by omega
                  have HR1 := Lib.hid hr
                  clear hr
                  generalize mark2 P LL i = mv at d3 e3
                  rcases e3 with rfl | rfl
                  · go_wp2_with fail
                    go_roundw
                    case rel => exact ⟨i + 1, by omega, by go_num, HR1.out.drew 0⟩
                    case measure => simp [intOf]; omega
                  · go_wp2_with fail
                    go_roundw
                    case rel => exact ⟨i + 1, by omega, by go_num, HR1.out.drew 0⟩
                    case measure => simp [intOf]; omega
                · have X7 := Lib.hid (XW3.out.trans (X4.out.trans (X5.out.trans hr.ext)))
                  have i0 : ¬ ((i : Int) < (k0.length : Int)) := by omega
                  clear hr
                  go_wp2_with (first
                    | (go_at_call 6; refine (HL.out _ X7.out).mono ?_; rintro e W8 ⟨rfl, hx8⟩; have X8 := Lib.hid hx8; clear hx8)
                    | fail)
                  go_ret
                  exact ⟨rfl, X7.out.trans X8.out⟩
end
end Go.Proofs.YtcmfdbjdbbpomaaDoor.B
