/- Part 6 of the proof: Sref15 Sref15b Sref21 Sref21b Sconj5 Salg0 Salg1 Salg2 Salg2b. -/
import Derived.Test.YtmpnompddfhkeaaGreatGL5
namespace Go.Proofs.YtmpnompddfhkeaaGreat.B
open Go Go.RowKit
set_option maxRecDepth 100000
noncomputable section
attribute [local irreducible] awp ctxK itersK iterK retQ retGQ awf ctxF loopF
theorem loop_pre {α β : Type} {L : S Un → Option (EX Un)} {st : Int → S Un} {C : Exit → S Un → Option β} (R : Bool → Option β) {a b : List α} {d : α} {e : Exit} (hl : a.length ≤ 9223372036854775807)
    (step : ∀ i : Nat, i < a.length → i < b.length → L (st i) = if deq (a.getD i d) (b.getD i d) = true then L (st (IntKind.i64.wrap ((i : Int) + 1))) else some (.ret, st i))
    (stop : ∀ i : Nat, ¬ (i < a.length ∧ i < b.length) → L (st i) = some (e, st i)) (cr : ∀ i : Nat, C .ret (st i) = R false) (ce : ∀ i : Nat, C e (st i) = R ((a.length : Int) == (b.length : Int))) : (L (st (0 : Int))).bind (thenX C) = R (deq a b) := by
  have key : ∀ (k i : Nat), i + k = a.length → i ≤ b.length → (L (st i)).bind (thenX C) = R (deq (a.drop i) (b.drop i)) := by
    intro k
    induction k with
    | zero =>
      intro i hi hb
      obtain rfl : i = a.length := by omega
      rw [loop_end (stop _ (by omega)), ce]
      congr 1
      refine deq_of ?_
      rw [List.drop_length, beq_iff_eq]
      constructor
      · intro h; rw [List.drop_eq_nil_of_le (by omega)]
      · intro h
        have := congrArg List.length h
        rw [List.length_drop, List.length_nil] at this; omega
    | succ k ih =>
      intro i hi hb
      have h1 : i < a.length := by omega
      by_cases h2 : i < b.length
      · have ga : a.getD i d = a[i] := by rw [List.getD_eq_getElem?_getD, List.getElem?_eq_getElem h1]; rfl
        have gb : b.getD i d = b[i] := by rw [List.getD_eq_getElem?_getD, List.getElem?_eq_getElem h2]; rfl
        have hs := step i h1 h2
        rw [ga, gb] at hs
        rw [List.drop_eq_getElem_cons h1, List.drop_eq_getElem_cons h2]
        by_cases hq : deq a[i] b[i] = true
        · rw [if_pos hq, wrap_next h1 hl] at hs
          rw [hs, ih (i + 1) (by omega) (by omega)]
          rw [deq_iff] at hq
          congr 1
          refine deq_of ?_
          rw [deq_iff, hq]
          exact ⟨fun h => by rw [h], fun h => (List.cons.inj h).2⟩
        · rw [if_neg hq] at hs
          rw [loop_end hs, cr]
          congr 1
          refine deq_of ?_
          rw [deq_iff] at hq
          exact ⟨fun h => absurd h (by decide), fun h => absurd (List.cons.inj h).1 hq⟩
      · rw [loop_end (stop _ (by omega)), ce]
        congr 1
        refine deq_of ?_
        rw [beq_iff_eq]
        constructor
        · intro h; omega
        · intro h
          have := congrArg List.length h
          rw [List.length_drop, List.length_drop] at this; omega
  exact key a.length 0 (by omega) (by omega)
theorem ord_deq (x y : List Val) : (r03_Orders x y != 0) = !deq x y := by
  rw [Bool.eq_iff_iff, bne_iff_ne, Bool.not_eq_true', ← Bool.not_eq_true, deq_iff, r03_Orders_eq, ne_eq, ordR_zero]
def M_r03_List : Mc Un := mach (tbl [(138, F_r03_Orders)]) (tbl []) (tbl []) (tbl []) (tbl [])
def A_r03_List (r : Bool) : List (A Un) := [.c (.s (.bool r))]
def O_r03_List (_r : Bool) : List (Ob Un) := []
def R_r03_List (r : Bool) : RF Un := (A_r03_List r, O_r03_List r)
def N_r03_List : Nat → NS := fun l => (look l [(2, { ts := bl 33 51, bs := bl 33 0, nm := [] })]).getD ⟨[], [], [], [], []⟩
def r03_List_s2 (a : List (List Val)) (b : List (List Val)) (v0 : Int) : S Un := (st 33 33 132 0 [(0, al .row a), (1, al .row b), (4, ab false), (5, ai v0)] [] [])
def r03_List_B2 : Code := sub (bodyOf Tryz.f73) [1, 0, 1, 2, 2]
def r03_List_L2 : S Un → Option (EX Un) := loopF (N_r03_List 2) (fun s Q => awf M_r03_List N_r03_List r03_List_B2 s Q)
def r03_List_C2 : Exit → S Un → Option (RF Un) := ctxF M_r03_List N_r03_List (bodyOf Tryz.f73) [1, 0, 1, 2] (retF M_r03_List Tryz.f73.results.toList [.d])
def r03_List_fn (a : List (List Val)) (b : List (List Val)) : Option (RF Un) := awf M_r03_List N_r03_List (bodyOf Tryz.f73) (entry Tryz.f73.ntmps 0 [.d (.v (.dat (U := Un) Ty.row a)), .d (.v (.dat (U := Un) Ty.row b))]) (retF M_r03_List Tryz.f73.results.toList [.d])
theorem r03_List_in (a : List (List Val)) (b : List (List Val)) : r03_List_fn a b =
 (r03_List_L2 (r03_List_s2 a b (0 : Int))).bind (thenX r03_List_C2) := by kernel_rfl
theorem r03_List_l2 (a : List (List Val)) (b : List (List Val)) (v0 : Int) : r03_List_L2 (r03_List_s2 a b v0) =
 cndO (decide (v0 < (↑a.length : Int)))
  (cndO (decide (v0 < (↑b.length : Int)))
   (obO (0 ≤ v0 ∧ v0 < (↑a.length : Int))
    (obO (0 ≤ v0 ∧ v0 < (↑b.length : Int))
     (cndO (r03_Orders (a.getD v0.toNat []) (b.getD v0.toNat []) != 0)
      (some (.ret, (r03_List_s2 a b v0)))
      (r03_List_L2 (r03_List_s2 a b (IntKind.i64.wrap (v0 + 1)))))))
   (some (.exit 0, (r03_List_s2 a b v0))))
  (some (.exit 0, (r03_List_s2 a b v0))) := (loopF_eq (N_r03_List 2) r03_List_B2 _).trans (by kernel_rfl)
theorem r03_List_a2_ret (a : List (List Val)) (b : List (List Val)) (v0 : Int) : r03_List_C2 .ret (r03_List_s2 a b v0) =
 some (R_r03_List (false)) := by kernel_rfl
theorem r03_List_a2_x0 (a : List (List Val)) (b : List (List Val)) (v0 : Int) : r03_List_C2 (.exit 0) (r03_List_s2 a b v0) =
 some (R_r03_List ((↑a.length : Int) == (↑b.length : Int))) := by kernel_rfl
noncomputable def r03_List (a b : List (List Val)) : Bool := deq a b
theorem r03_List_spec (a b : List (List Val)) (ha : WL .row a) (_hb : WL .row b) : r03_List_fn a b = some (R_r03_List (r03_List a b)) := by
  rw [r03_List_in]
  exact loop_pre (L := r03_List_L2) (st := fun i => r03_List_s2 a b i) (fun r => some (R_r03_List r)) (d := []) ha.len
    (fun i hi hj => by
      rw [r03_List_l2, ord_deq]
      simp only [cndO_eq, Int.toNat_natCast]
      rw [if_pos (by simp; omega), if_pos (by simp; omega), obO_pos (by omega), obO_pos (by omega)]
      cases deq (a.getD i []) (b.getD i []) <;> simp)
    (fun i h => by
      rw [r03_List_l2]
      simp only [cndO_eq, decide_eq_true_eq]
      by_cases h1 : (i : Int) < (a.length : Int)
      · rw [if_pos h1, if_neg (by omega)]
      · rw [if_neg h1])
    (fun i => r03_List_a2_ret _ _ _) (fun i => r03_List_a2_x0 _ _ _)
def F_r03_List : FnC Un := fun args => match args with
  | [x0, x1] => (dL .row x0).bind fun a => (dL .row x1).bind fun b => some ([], A_r03_List (r03_List a b), O_r03_List (r03_List a b))
  | _ => none
theorem ok_r03_List : FnOK 73 F_r03_List := by
  intro args ob rs os h hob
  unfold F_r03_List at h
  split at h
  · simp only [Option.bind_eq_some_iff, Option.some.injEq, Prod.mk.injEq] at h
    obtain ⟨a, e0, b, e1, rfl, rfl, rfl⟩ := h
    obtain rfl := dL_eq e0
    obtain rfl := dL_eq e1
    exact ⟨fn_contractF (M := M_r03_List) rfl (tbl_ok (l1 := [(138, F_r03_Orders)]) (l2 := []) (l3 := []) (l4 := []) (l5 := []) ⟨ok_r03_Orders, trivial⟩ trivial trivial trivial trivial) Tryz.func73 (by kernel_rfl) N_r03_List 0 [.d] (fun hwf => (r03_List_spec a b (wfArg hwf (a := .d (.v (.dat (U := Un) Ty.row a))) (List.mem_of_getElem? (i := 0) rfl)) (wfArg hwf (a := .d (.v (.dat (U := Un) Ty.row b))) (List.mem_of_getElem? (i := 1) rfl)))), hasBody_of Tryz.func73 (by kernel_rfl) (by kernel_rfl)⟩
  · simp at h
def M_r15_Cols : Mc Un := mach (tbl []) (tbl []) (tbl []) (tbl []) (tbl [])
def A_r15_Cols (r : Bool) : List (A Un) := [.c (.s (.bool r))]
def O_r15_Cols (_r : Bool) : List (Ob Un) := []
def R_r15_Cols (r : Bool) : RF Un := (A_r15_Cols r, O_r15_Cols r)
def N_r15_Cols : Nat → NS := fun l => (look l [(2, { ts := bl 32 51, bs := bl 32 0, nm := [] })]).getD ⟨[], [], [], [], []⟩
def r15_Cols_s2 (a : List Col) (b : List Col) (v0 : Int) : S Un := (st 32 32 128 0 [(0, al .col a), (1, al .col b), (4, ab false), (5, ai v0)] [] [])
def r15_Cols_B2 : Code := sub (bodyOf Tryz.f71) [1, 0, 1, 2, 2]
def r15_Cols_L2 : S Un → Option (EX Un) := loopF (N_r15_Cols 2) (fun s Q => awf M_r15_Cols N_r15_Cols r15_Cols_B2 s Q)
def r15_Cols_C2 : Exit → S Un → Option (RF Un) := ctxF M_r15_Cols N_r15_Cols (bodyOf Tryz.f71) [1, 0, 1, 2] (retF M_r15_Cols Tryz.f71.results.toList [.d])
def r15_Cols_fn (a : List Col) (b : List Col) : Option (RF Un) := awf M_r15_Cols N_r15_Cols (bodyOf Tryz.f71) (entry Tryz.f71.ntmps 0 [.d (.v (.dat (U := Un) Ty.col a)), .d (.v (.dat (U := Un) Ty.col b))]) (retF M_r15_Cols Tryz.f71.results.toList [.d])
theorem r15_Cols_in (a : List Col) (b : List Col) : r15_Cols_fn a b =
 (r15_Cols_L2 (r15_Cols_s2 a b (0 : Int))).bind (thenX r15_Cols_C2) := by kernel_rfl
theorem r15_Cols_l2 (a : List Col) (b : List Col) (v0 : Int) : r15_Cols_L2 (r15_Cols_s2 a b v0) =
 cndO (decide (v0 < (↑a.length : Int)))
  (cndO (decide (v0 < (↑b.length : Int)))
   (obO (0 ≤ v0 ∧ v0 < (↑a.length : Int))
    (obO (0 ≤ v0 ∧ v0 < (↑b.length : Int))
     (cndO (!andB [EK.str, EK.int IntKind.i64] ((a.getD v0.toNat zeroCol).table.toList == (b.getD v0.toNat zeroCol).table.toList) (andB [EK.int IntKind.i64] ((a.getD v0.toNat zeroCol).name.toList == (b.getD v0.toNat zeroCol).name.toList) (andB [] ((a.getD v0.toNat zeroCol).type == (b.getD v0.toNat zeroCol).type) true)))
      (some (.ret, (r15_Cols_s2 a b v0)))
      (r15_Cols_L2 (r15_Cols_s2 a b (IntKind.i64.wrap (v0 + 1)))))))
   (some (.exit 0, (r15_Cols_s2 a b v0))))
  (some (.exit 0, (r15_Cols_s2 a b v0))) := (loopF_eq (N_r15_Cols 2) r15_Cols_B2 _).trans (by kernel_rfl)
theorem r15_Cols_a2_ret (a : List Col) (b : List Col) (v0 : Int) : r15_Cols_C2 .ret (r15_Cols_s2 a b v0) =
 some (R_r15_Cols (false)) := by kernel_rfl
theorem r15_Cols_a2_x0 (a : List Col) (b : List Col) (v0 : Int) : r15_Cols_C2 (.exit 0) (r15_Cols_s2 a b v0) =
 some (R_r15_Cols ((↑a.length : Int) == (↑b.length : Int))) := by kernel_rfl
noncomputable def r15_Cols (a b : List Col) : Bool := deq a b
theorem r15_Cols_spec (a b : List Col) (ha : WL .col a) (_hb : WL .col b) : r15_Cols_fn a b = some (R_r15_Cols (r15_Cols a b)) := by
  rw [r15_Cols_in]
  exact loop_pre (L := r15_Cols_L2) (st := fun i => r15_Cols_s2 a b i) (fun r => some (R_r15_Cols r)) (d := zeroCol) ha.len
    (fun i hi hj => by
      rw [r15_Cols_l2, eqCol]
      simp only [cndO_eq, Int.toNat_natCast]
      rw [if_pos (by simp; omega), if_pos (by simp; omega), obO_pos (by omega), obO_pos (by omega)]
      cases deq (a.getD i zeroCol) (b.getD i zeroCol) <;> simp)
    (fun i h => by
      rw [r15_Cols_l2]
      simp only [cndO_eq, decide_eq_true_eq]
      by_cases h1 : (i : Int) < (a.length : Int)
      · rw [if_pos h1, if_neg (by omega)]
      · rw [if_neg h1])
    (fun i => r15_Cols_a2_ret _ _ _) (fun i => r15_Cols_a2_x0 _ _ _)
def F_r15_Cols : FnC Un := fun args => match args with
  | [x0, x1] => (dL .col x0).bind fun a => (dL .col x1).bind fun b => some ([], A_r15_Cols (r15_Cols a b), O_r15_Cols (r15_Cols a b))
  | _ => none
theorem ok_r15_Cols : FnOK 71 F_r15_Cols := by
  intro args ob rs os h hob
  unfold F_r15_Cols at h
  split at h
  · simp only [Option.bind_eq_some_iff, Option.some.injEq, Prod.mk.injEq] at h
    obtain ⟨a, e0, b, e1, rfl, rfl, rfl⟩ := h
    obtain rfl := dL_eq e0
    obtain rfl := dL_eq e1
    exact ⟨fn_contractF (M := M_r15_Cols) rfl (tbl_ok (l1 := []) (l2 := []) (l3 := []) (l4 := []) (l5 := []) trivial trivial trivial trivial trivial) Tryz.func71 (by kernel_rfl) N_r15_Cols 0 [.d] (fun hwf => (r15_Cols_spec a b (wfArg hwf (a := .d (.v (.dat (U := Un) Ty.col a))) (List.mem_of_getElem? (i := 0) rfl)) (wfArg hwf (a := .d (.v (.dat (U := Un) Ty.col b))) (List.mem_of_getElem? (i := 1) rfl)))), hasBody_of Tryz.func71 (by kernel_rfl) (by kernel_rfl)⟩
  · simp at h
def M_r15_Keys : Mc Un := mach (tbl []) (tbl []) (tbl []) (tbl []) (tbl [])
def A_r15_Keys (r : Bool) : List (A Un) := [.c (.s (.bool r))]
def O_r15_Keys (_r : Bool) : List (Ob Un) := []
def R_r15_Keys (r : Bool) : RF Un := (A_r15_Keys r, O_r15_Keys r)
def N_r15_Keys : Nat → NS := fun l => (look l [(2, { ts := bl 32 51, bs := bl 32 0, nm := [] })]).getD ⟨[], [], [], [], []⟩
def r15_Keys_s2 (a : List By) (b : List By) (v0 : Int) : S Un := (st 32 32 128 0 [(0, al .by_ a), (1, al .by_ b), (4, ab false), (5, ai v0)] [] [])
def r15_Keys_B2 : Code := sub (bodyOf Tryz.f72) [1, 0, 1, 2, 2]
def r15_Keys_L2 : S Un → Option (EX Un) := loopF (N_r15_Keys 2) (fun s Q => awf M_r15_Keys N_r15_Keys r15_Keys_B2 s Q)
def r15_Keys_C2 : Exit → S Un → Option (RF Un) := ctxF M_r15_Keys N_r15_Keys (bodyOf Tryz.f72) [1, 0, 1, 2] (retF M_r15_Keys Tryz.f72.results.toList [.d])
def r15_Keys_fn (a : List By) (b : List By) : Option (RF Un) := awf M_r15_Keys N_r15_Keys (bodyOf Tryz.f72) (entry Tryz.f72.ntmps 0 [.d (.v (.dat (U := Un) Ty.by_ a)), .d (.v (.dat (U := Un) Ty.by_ b))]) (retF M_r15_Keys Tryz.f72.results.toList [.d])
theorem r15_Keys_in (a : List By) (b : List By) : r15_Keys_fn a b =
 (r15_Keys_L2 (r15_Keys_s2 a b (0 : Int))).bind (thenX r15_Keys_C2) := by kernel_rfl
theorem r15_Keys_l2 (a : List By) (b : List By) (v0 : Int) : r15_Keys_L2 (r15_Keys_s2 a b v0) =
 cndO (decide (v0 < (↑a.length : Int)))
  (cndO (decide (v0 < (↑b.length : Int)))
   (obO (0 ≤ v0 ∧ v0 < (↑a.length : Int))
    (obO (0 ≤ v0 ∧ v0 < (↑b.length : Int))
     (cndO (!andB [EK.bool] ((a.getD v0.toNat zeroBy).at_ == (b.getD v0.toNat zeroBy).at_) (andB [] ((a.getD v0.toNat zeroBy).down == (b.getD v0.toNat zeroBy).down) true))
      (some (.ret, (r15_Keys_s2 a b v0)))
      (r15_Keys_L2 (r15_Keys_s2 a b (IntKind.i64.wrap (v0 + 1)))))))
   (some (.exit 0, (r15_Keys_s2 a b v0))))
  (some (.exit 0, (r15_Keys_s2 a b v0))) := (loopF_eq (N_r15_Keys 2) r15_Keys_B2 _).trans (by kernel_rfl)
theorem r15_Keys_a2_ret (a : List By) (b : List By) (v0 : Int) : r15_Keys_C2 .ret (r15_Keys_s2 a b v0) =
 some (R_r15_Keys (false)) := by kernel_rfl
theorem r15_Keys_a2_x0 (a : List By) (b : List By) (v0 : Int) : r15_Keys_C2 (.exit 0) (r15_Keys_s2 a b v0) =
 some (R_r15_Keys ((↑a.length : Int) == (↑b.length : Int))) := by kernel_rfl
noncomputable def r15_Keys (a b : List By) : Bool := deq a b
theorem r15_Keys_spec (a b : List By) (ha : WL .by_ a) (_hb : WL .by_ b) : r15_Keys_fn a b = some (R_r15_Keys (r15_Keys a b)) := by
  rw [r15_Keys_in]
  exact loop_pre (L := r15_Keys_L2) (st := fun i => r15_Keys_s2 a b i) (fun r => some (R_r15_Keys r)) (d := zeroBy) ha.len
    (fun i hi hj => by
      rw [r15_Keys_l2, eqBy]
      simp only [cndO_eq, Int.toNat_natCast]
      rw [if_pos (by simp; omega), if_pos (by simp; omega), obO_pos (by omega), obO_pos (by omega)]
      cases deq (a.getD i zeroBy) (b.getD i zeroBy) <;> simp)
    (fun i h => by
      rw [r15_Keys_l2]
      simp only [cndO_eq, decide_eq_true_eq]
      by_cases h1 : (i : Int) < (a.length : Int)
      · rw [if_pos h1, if_neg (by omega)]
      · rw [if_neg h1])
    (fun i => r15_Keys_a2_ret _ _ _) (fun i => r15_Keys_a2_x0 _ _ _)
def F_r15_Keys : FnC Un := fun args => match args with
  | [x0, x1] => (dL .by_ x0).bind fun a => (dL .by_ x1).bind fun b => some ([], A_r15_Keys (r15_Keys a b), O_r15_Keys (r15_Keys a b))
  | _ => none
theorem ok_r15_Keys : FnOK 72 F_r15_Keys := by
  intro args ob rs os h hob
  unfold F_r15_Keys at h
  split at h
  · simp only [Option.bind_eq_some_iff, Option.some.injEq, Prod.mk.injEq] at h
    obtain ⟨a, e0, b, e1, rfl, rfl, rfl⟩ := h
    obtain rfl := dL_eq e0
    obtain rfl := dL_eq e1
    exact ⟨fn_contractF (M := M_r15_Keys) rfl (tbl_ok (l1 := []) (l2 := []) (l3 := []) (l4 := []) (l5 := []) trivial trivial trivial trivial trivial) Tryz.func72 (by kernel_rfl) N_r15_Keys 0 [.d] (fun hwf => (r15_Keys_spec a b (wfArg hwf (a := .d (.v (.dat (U := Un) Ty.by_ a))) (List.mem_of_getElem? (i := 0) rfl)) (wfArg hwf (a := .d (.v (.dat (U := Un) Ty.by_ b))) (List.mem_of_getElem? (i := 1) rfl)))), hasBody_of Tryz.func72 (by kernel_rfl) (by kernel_rfl)⟩
  · simp at h
end
end Go.Proofs.YtmpnompddfhkeaaGreat.B
namespace Go.Proofs.YtmpnompddfhkeaaGreat.B
open Go Go.RowKit
set_option maxRecDepth 100000
noncomputable section
attribute [local irreducible] awp ctxK itersK iterK retQ retGQ awf ctxF loopF
noncomputable def r15_Terms (a b : List Term) : Bool := deq a b
noncomputable def r15_Rels (a b : List Rel) : Bool := deq a b
noncomputable def r15_SameTerm (a b : Term) : Bool := deq a b
noncomputable def r15_Aggs (a b : List Agg) : Bool := deq a b
noncomputable def r15_SameRel (a b : Rel) : Bool := deq a b
theorem agg_deqb (x y : Agg) : deq x y = ((x.name.toList == y.name.toList) && ((x.distinct == y.distinct) && deq x.t y.t)) := by
  rw [Bool.eq_iff_iff, agg_deq]
  simp only [Bool.and_eq_true, beq_iff_eq, name_eq, deq_iff]
theorem cndO_nand {β : Type} (R : Bool → β) {q x : Bool} : cndO (!q) (some (R false)) (some (R x)) = some (R (q && x)) := by cases q <;> rfl
def A_r15_Terms (r : Bool) : List (A Un) := [.c (.s (.bool r))]
def O_r15_Terms (_r : Bool) : List (Ob Un) := []
def Fm_r15_Terms (m : Nat) : FnC Un := fun args => match args with
  | [x0, x1] => (dL .term x0).bind fun a => (dL .term x1).bind fun b => some ([2 * htTs a + 1 < m], A_r15_Terms (r15_Terms a b), O_r15_Terms (r15_Terms a b))
  | _ => none
def A_r15_Rels (r : Bool) : List (A Un) := [.c (.s (.bool r))]
def O_r15_Rels (_r : Bool) : List (Ob Un) := []
def Fm_r15_Rels (m : Nat) : FnC Un := fun args => match args with
  | [x0, x1] => (dL .rel x0).bind fun a => (dL .rel x1).bind fun b => some ([2 * htRs a + 1 < m], A_r15_Rels (r15_Rels a b), O_r15_Rels (r15_Rels a b))
  | _ => none
def A_r15_SameTerm (r : Bool) : List (A Un) := [.c (.s (.bool r))]
def O_r15_SameTerm (_r : Bool) : List (Ob Un) := []
def Fm_r15_SameTerm (m : Nat) : FnC Un := fun args => match args with
  | [x0, x1] => (dS .term x0).bind fun a => (dS .term x1).bind fun b => some ([2 * a.ht < m], A_r15_SameTerm (r15_SameTerm a b), O_r15_SameTerm (r15_SameTerm a b))
  | _ => none
def A_r15_Aggs (r : Bool) : List (A Un) := [.c (.s (.bool r))]
def O_r15_Aggs (_r : Bool) : List (Ob Un) := []
def Fm_r15_Aggs (m : Nat) : FnC Un := fun args => match args with
  | [x0, x1] => (dL .agg x0).bind fun a => (dL .agg x1).bind fun b => some ([2 * htAs a + 1 < m], A_r15_Aggs (r15_Aggs a b), O_r15_Aggs (r15_Aggs a b))
  | _ => none
def A_r15_SameRel (r : Bool) : List (A Un) := [.c (.s (.bool r))]
def O_r15_SameRel (_r : Bool) : List (Ob Un) := []
def Fm_r15_SameRel (m : Nat) : FnC Un := fun args => match args with
  | [x0, x1] => (dS .rel x0).bind fun a => (dS .rel x1).bind fun b => some ([2 * a.ht < m], A_r15_SameRel (r15_SameRel a b), O_r15_SameRel (r15_SameRel a b))
  | _ => none
def M_r15_Terms (m : Nat) : Mc Un := mach (tbl [(52, Fm_r15_SameTerm m)]) (tbl []) (tbl []) (tbl []) (tbl [])
def R_r15_Terms (r : Bool) : RF Un := (A_r15_Terms r, O_r15_Terms r)
def N_r15_Terms : Nat → NS := fun l => (look l [(2, { ts := bl 33 51, bs := bl 33 0, nm := [] })]).getD ⟨[], [], [], [], []⟩
def r15_Terms_s2 (a : List Term) (b : List Term) (v0 : Int) : S Un := (st 33 33 132 0 [(0, al .term a), (1, al .term b), (4, ab false), (5, ai v0)] [] [])
def r15_Terms_B2 : Code := sub (bodyOf Tryz.f74) [1, 0, 1, 2, 2]
def r15_Terms_L2 (m : Nat) : S Un → Option (EX Un) := loopF (N_r15_Terms 2) (fun s Q => awf (M_r15_Terms m) N_r15_Terms r15_Terms_B2 s Q)
def r15_Terms_C2 (m : Nat) : Exit → S Un → Option (RF Un) := ctxF (M_r15_Terms m) N_r15_Terms (bodyOf Tryz.f74) [1, 0, 1, 2] (retF (M_r15_Terms m) Tryz.f74.results.toList [.d])
def r15_Terms_fn (m : Nat) (a : List Term) (b : List Term) : Option (RF Un) := awf (M_r15_Terms m) N_r15_Terms (bodyOf Tryz.f74) (entry Tryz.f74.ntmps 0 [.d (.v (.dat (U := Un) Ty.term a)), .d (.v (.dat (U := Un) Ty.term b))]) (retF (M_r15_Terms m) Tryz.f74.results.toList [.d])
theorem r15_Terms_in (m : Nat) (a : List Term) (b : List Term) : r15_Terms_fn m a b =
 (r15_Terms_L2 m (r15_Terms_s2 a b (0 : Int))).bind (thenX (r15_Terms_C2 m)) := by kernel_rfl
theorem r15_Terms_l2 (m : Nat) (a : List Term) (b : List Term) (v0 : Int) : r15_Terms_L2 m (r15_Terms_s2 a b v0) =
 cndO (decide (v0 < (↑a.length : Int)))
  (cndO (decide (v0 < (↑b.length : Int)))
   (obO (0 ≤ v0 ∧ v0 < (↑a.length : Int))
    (obO (0 ≤ v0 ∧ v0 < (↑b.length : Int))
     (obO ((2 : Nat) * (Term.ids (a.getD v0.toNat zeroTerm)).ht < m)
      (cndO (!r15_SameTerm (Term.ids (a.getD v0.toNat zeroTerm)) (Term.ids (b.getD v0.toNat zeroTerm)))
       (some (.ret, (r15_Terms_s2 a b v0)))
       (r15_Terms_L2 m (r15_Terms_s2 a b (IntKind.i64.wrap (v0 + 1))))))))
   (some (.exit 0, (r15_Terms_s2 a b v0))))
  (some (.exit 0, (r15_Terms_s2 a b v0))) := (loopF_eq (N_r15_Terms 2) r15_Terms_B2 _).trans (by kernel_rfl)
theorem r15_Terms_a2_ret (m : Nat) (a : List Term) (b : List Term) (v0 : Int) : r15_Terms_C2 m .ret (r15_Terms_s2 a b v0) =
 some (R_r15_Terms (false)) := by kernel_rfl
theorem r15_Terms_a2_x0 (m : Nat) (a : List Term) (b : List Term) (v0 : Int) : r15_Terms_C2 m (.exit 0) (r15_Terms_s2 a b v0) =
 some (R_r15_Terms ((↑a.length : Int) == (↑b.length : Int))) := by kernel_rfl
theorem r15_Terms_spec (m : Nat) (a b : List Term) (ha : WL .term a) (_hb : WL .term b) (h : 2 * htTs a + 1 < m + 1) : r15_Terms_fn m a b = some (R_r15_Terms (r15_Terms a b)) := by
  rw [r15_Terms_in]
  exact loop_pre (L := r15_Terms_L2 m) (st := fun i => r15_Terms_s2 a b i) (fun r => some (R_r15_Terms r)) (d := zeroTerm) ha.len
    (fun i hi hj => by
      have hht := htTs_mem (getD_mem (d := zeroTerm) hi)
      rw [r15_Terms_l2]
      simp only [Term.ids_eq, cndO_eq, Int.toNat_natCast, r15_SameTerm]
      rw [if_pos (by simp; omega), if_pos (by simp; omega), obO_pos (by omega), obO_pos (by omega), obO_pos (by omega)]
      cases deq (a.getD i zeroTerm) (b.getD i zeroTerm) <;> simp)
    (fun i h => by
      rw [r15_Terms_l2]
      simp only [cndO_eq, decide_eq_true_eq]
      by_cases h1 : (i : Int) < (a.length : Int)
      · rw [if_pos h1, if_neg (by omega)]
      · rw [if_neg h1])
    (fun i => r15_Terms_a2_ret _ _ _ _) (fun i => r15_Terms_a2_x0 _ _ _ _)
theorem okm_r15_Terms (m : Nat) (h_r15_Terms : FnOK 74 (Fm_r15_Terms m)) (h_r15_Rels : FnOK 76 (Fm_r15_Rels m)) (h_r15_SameTerm : FnOK 52 (Fm_r15_SameTerm m)) (h_r15_Aggs : FnOK 75 (Fm_r15_Aggs m)) (h_r15_SameRel : FnOK 17 (Fm_r15_SameRel m)) : FnOK 74 (Fm_r15_Terms (m + 1)) := by
  intro args ob rs os h hob
  unfold Fm_r15_Terms at h
  split at h
  · simp only [Option.bind_eq_some_iff, Option.some.injEq, Prod.mk.injEq] at h
    obtain ⟨a, e0, b, e1, rfl, rfl, rfl⟩ := h
    obtain rfl := dL_eq e0
    obtain rfl := dL_eq e1
    exact ⟨fn_contractF (M := (M_r15_Terms m)) rfl (tbl_ok (l1 := [(52, Fm_r15_SameTerm m)]) (l2 := []) (l3 := []) (l4 := []) (l5 := []) ⟨h_r15_SameTerm, trivial⟩ trivial trivial trivial trivial) Tryz.func74 (by kernel_rfl) N_r15_Terms 0 [.d] (fun hwf => (r15_Terms_spec m a b (wfArg hwf (a := .d (.v (.dat (U := Un) Ty.term a))) (List.mem_of_getElem? (i := 0) rfl)) (wfArg hwf (a := .d (.v (.dat (U := Un) Ty.term b))) (List.mem_of_getElem? (i := 1) rfl)) (hob _ (List.mem_of_getElem? (i := 0) rfl)))), hasBody_of Tryz.func74 (by kernel_rfl) (by kernel_rfl)⟩
  · simp at h
def M_r15_Rels (m : Nat) : Mc Un := mach (tbl [(17, Fm_r15_SameRel m)]) (tbl []) (tbl []) (tbl []) (tbl [])
def R_r15_Rels (r : Bool) : RF Un := (A_r15_Rels r, O_r15_Rels r)
def N_r15_Rels : Nat → NS := fun l => (look l [(2, { ts := bl 33 51, bs := bl 33 0, nm := [] })]).getD ⟨[], [], [], [], []⟩
def r15_Rels_s2 (a : List Rel) (b : List Rel) (v0 : Int) : S Un := (st 33 33 132 0 [(0, al .rel a), (1, al .rel b), (4, ab false), (5, ai v0)] [] [])
def r15_Rels_B2 : Code := sub (bodyOf Tryz.f76) [1, 0, 1, 2, 2]
def r15_Rels_L2 (m : Nat) : S Un → Option (EX Un) := loopF (N_r15_Rels 2) (fun s Q => awf (M_r15_Rels m) N_r15_Rels r15_Rels_B2 s Q)
def r15_Rels_C2 (m : Nat) : Exit → S Un → Option (RF Un) := ctxF (M_r15_Rels m) N_r15_Rels (bodyOf Tryz.f76) [1, 0, 1, 2] (retF (M_r15_Rels m) Tryz.f76.results.toList [.d])
def r15_Rels_fn (m : Nat) (a : List Rel) (b : List Rel) : Option (RF Un) := awf (M_r15_Rels m) N_r15_Rels (bodyOf Tryz.f76) (entry Tryz.f76.ntmps 0 [.d (.v (.dat (U := Un) Ty.rel a)), .d (.v (.dat (U := Un) Ty.rel b))]) (retF (M_r15_Rels m) Tryz.f76.results.toList [.d])
theorem r15_Rels_in (m : Nat) (a : List Rel) (b : List Rel) : r15_Rels_fn m a b =
 (r15_Rels_L2 m (r15_Rels_s2 a b (0 : Int))).bind (thenX (r15_Rels_C2 m)) := by kernel_rfl
theorem r15_Rels_l2 (m : Nat) (a : List Rel) (b : List Rel) (v0 : Int) : r15_Rels_L2 m (r15_Rels_s2 a b v0) =
 cndO (decide (v0 < (↑a.length : Int)))
  (cndO (decide (v0 < (↑b.length : Int)))
   (obO (0 ≤ v0 ∧ v0 < (↑a.length : Int))
    (obO (0 ≤ v0 ∧ v0 < (↑b.length : Int))
     (obO ((2 : Nat) * (Rel.ids (a.getD v0.toNat zeroRel)).ht < m)
      (cndO (!r15_SameRel (Rel.ids (a.getD v0.toNat zeroRel)) (Rel.ids (b.getD v0.toNat zeroRel)))
       (some (.ret, (r15_Rels_s2 a b v0)))
       (r15_Rels_L2 m (r15_Rels_s2 a b (IntKind.i64.wrap (v0 + 1))))))))
   (some (.exit 0, (r15_Rels_s2 a b v0))))
  (some (.exit 0, (r15_Rels_s2 a b v0))) := (loopF_eq (N_r15_Rels 2) r15_Rels_B2 _).trans (by kernel_rfl)
theorem r15_Rels_a2_ret (m : Nat) (a : List Rel) (b : List Rel) (v0 : Int) : r15_Rels_C2 m .ret (r15_Rels_s2 a b v0) =
 some (R_r15_Rels (false)) := by kernel_rfl
theorem r15_Rels_a2_x0 (m : Nat) (a : List Rel) (b : List Rel) (v0 : Int) : r15_Rels_C2 m (.exit 0) (r15_Rels_s2 a b v0) =
 some (R_r15_Rels ((↑a.length : Int) == (↑b.length : Int))) := by kernel_rfl
theorem r15_Rels_spec (m : Nat) (a b : List Rel) (ha : WL .rel a) (_hb : WL .rel b) (h : 2 * htRs a + 1 < m + 1) : r15_Rels_fn m a b = some (R_r15_Rels (r15_Rels a b)) := by
  rw [r15_Rels_in]
  exact loop_pre (L := r15_Rels_L2 m) (st := fun i => r15_Rels_s2 a b i) (fun r => some (R_r15_Rels r)) (d := zeroRel) ha.len
    (fun i hi hj => by
      have hht := htRs_mem (getD_mem (d := zeroRel) hi)
      rw [r15_Rels_l2]
      simp only [Rel.ids_eq, cndO_eq, Int.toNat_natCast, r15_SameRel]
      rw [if_pos (by simp; omega), if_pos (by simp; omega), obO_pos (by omega), obO_pos (by omega), obO_pos (by omega)]
      cases deq (a.getD i zeroRel) (b.getD i zeroRel) <;> simp)
    (fun i h => by
      rw [r15_Rels_l2]
      simp only [cndO_eq, decide_eq_true_eq]
      by_cases h1 : (i : Int) < (a.length : Int)
      · rw [if_pos h1, if_neg (by omega)]
      · rw [if_neg h1])
    (fun i => r15_Rels_a2_ret _ _ _ _) (fun i => r15_Rels_a2_x0 _ _ _ _)
theorem okm_r15_Rels (m : Nat) (h_r15_Terms : FnOK 74 (Fm_r15_Terms m)) (h_r15_Rels : FnOK 76 (Fm_r15_Rels m)) (h_r15_SameTerm : FnOK 52 (Fm_r15_SameTerm m)) (h_r15_Aggs : FnOK 75 (Fm_r15_Aggs m)) (h_r15_SameRel : FnOK 17 (Fm_r15_SameRel m)) : FnOK 76 (Fm_r15_Rels (m + 1)) := by
  intro args ob rs os h hob
  unfold Fm_r15_Rels at h
  split at h
  · simp only [Option.bind_eq_some_iff, Option.some.injEq, Prod.mk.injEq] at h
    obtain ⟨a, e0, b, e1, rfl, rfl, rfl⟩ := h
    obtain rfl := dL_eq e0
    obtain rfl := dL_eq e1
    exact ⟨fn_contractF (M := (M_r15_Rels m)) rfl (tbl_ok (l1 := [(17, Fm_r15_SameRel m)]) (l2 := []) (l3 := []) (l4 := []) (l5 := []) ⟨h_r15_SameRel, trivial⟩ trivial trivial trivial trivial) Tryz.func76 (by kernel_rfl) N_r15_Rels 0 [.d] (fun hwf => (r15_Rels_spec m a b (wfArg hwf (a := .d (.v (.dat (U := Un) Ty.rel a))) (List.mem_of_getElem? (i := 0) rfl)) (wfArg hwf (a := .d (.v (.dat (U := Un) Ty.rel b))) (List.mem_of_getElem? (i := 1) rfl)) (hob _ (List.mem_of_getElem? (i := 0) rfl)))), hasBody_of Tryz.func76 (by kernel_rfl) (by kernel_rfl)⟩
  · simp at h
def M_r15_SameTerm (m : Nat) : Mc Un := mach (tbl [(74, Fm_r15_Terms m), (76, Fm_r15_Rels m)]) (tbl []) (tbl []) (tbl []) (tbl [])
def R_r15_SameTerm (r : Bool) : RF Un := (A_r15_SameTerm r, O_r15_SameTerm r)
def N_r15_SameTerm : Nat → NS := fun l => (look l []).getD ⟨[], [], [], [], []⟩
def r15_SameTerm_fn (m : Nat) (a : Term) (b : Term) : Option (RF Un) := awf (M_r15_SameTerm m) N_r15_SameTerm (bodyOf Tryz.f52) (entry Tryz.f52.ntmps 0 [.d (.agg (enc Ty.term a)), .d (.agg (enc Ty.term b))]) (retF (M_r15_SameTerm m) Tryz.f52.results.toList [.d])
theorem r15_SameTerm_in (m : Nat) (a : Term) (b : Term) : r15_SameTerm_fn m a b =
 cndO (a.op == b.op)
  (cndO (andB [EK.int IntKind.i64, EK.str] (a.v.kind == b.v.kind) (andB [EK.str] (a.v.n == b.v.n) (andB [] (a.v.s.toList == b.v.s.toList) true)))
   (cndO (a.depth == b.depth)
    (cndO (a.at_ == b.at_)
     (cndO (a.name.toList == b.name.toList)
      (cndO (a.type == b.type)
       (obO ((2 : Nat) * htTs a.kids + (1 : Nat) < m)
        (cndO (r15_Terms a.kids b.kids)
         (obO ((2 : Nat) * htRs a.sub + (1 : Nat) < m)
          (some (R_r15_SameTerm (r15_Rels a.sub b.sub))))
         (some (R_r15_SameTerm (false)))))
       (some (R_r15_SameTerm (false))))
      (some (R_r15_SameTerm (false))))
     (some (R_r15_SameTerm (false))))
    (some (R_r15_SameTerm (false))))
   (some (R_r15_SameTerm (false))))
  (some (R_r15_SameTerm (false))) := by kernel_rfl
theorem r15_SameTerm_spec (m : Nat) (a b : Term) (_ha : WS .term a) (_hb : WS .term b) (h : 2 * a.ht < m + 1) : r15_SameTerm_fn m a b = some (R_r15_SameTerm (r15_SameTerm a b)) := by
  have hk : htTs a.kids < a.ht ∧ htRs a.sub < a.ht := by cases a; simp only [Term.ht, Term.kids_mk, Term.sub_mk]; omega
  rw [r15_SameTerm_in, eqVal, obO_pos (by omega), obO_pos (by omega)]
  simp only [cndO_and R_r15_SameTerm]
  congr 2
  unfold r15_SameTerm r15_Terms r15_Rels
  rw [Bool.eq_iff_iff, term_deq]
  simp only [Bool.and_eq_true, beq_iff_eq, name_eq, deq_iff]
theorem okm_r15_SameTerm (m : Nat) (h_r15_Terms : FnOK 74 (Fm_r15_Terms m)) (h_r15_Rels : FnOK 76 (Fm_r15_Rels m)) (h_r15_SameTerm : FnOK 52 (Fm_r15_SameTerm m)) (h_r15_Aggs : FnOK 75 (Fm_r15_Aggs m)) (h_r15_SameRel : FnOK 17 (Fm_r15_SameRel m)) : FnOK 52 (Fm_r15_SameTerm (m + 1)) := by
  intro args ob rs os h hob
  unfold Fm_r15_SameTerm at h
  split at h
  · simp only [Option.bind_eq_some_iff, Option.some.injEq, Prod.mk.injEq] at h
    obtain ⟨a, e0, b, e1, rfl, rfl, rfl⟩ := h
    obtain rfl := dS_eq e0
    obtain rfl := dS_eq e1
    exact ⟨fn_contractF (M := (M_r15_SameTerm m)) rfl (tbl_ok (l1 := [(74, Fm_r15_Terms m), (76, Fm_r15_Rels m)]) (l2 := []) (l3 := []) (l4 := []) (l5 := []) ⟨h_r15_Terms, h_r15_Rels, trivial⟩ trivial trivial trivial trivial) Tryz.func52 (by kernel_rfl) N_r15_SameTerm 0 [.d] (fun hwf => (r15_SameTerm_spec m a b (wfArg hwf (a := .d (.agg (enc Ty.term a))) (List.mem_of_getElem? (i := 0) rfl)) (wfArg hwf (a := .d (.agg (enc Ty.term b))) (List.mem_of_getElem? (i := 1) rfl)) (hob _ (List.mem_of_getElem? (i := 0) rfl)))), hasBody_of Tryz.func52 (by kernel_rfl) (by kernel_rfl)⟩
  · simp at h
def M_r15_Aggs (m : Nat) : Mc Un := mach (tbl [(74, Fm_r15_Terms m)]) (tbl []) (tbl []) (tbl []) (tbl [])
def R_r15_Aggs (r : Bool) : RF Un := (A_r15_Aggs r, O_r15_Aggs r)
def N_r15_Aggs : Nat → NS := fun l => (look l [(2, { ts := bl 61 51, bs := bl 61 0, nm := [] })]).getD ⟨[], [], [], [], []⟩
def r15_Aggs_s2 (a : List Agg) (b : List Agg) (v0 : Int) : S Un := (st 61 61 244 0 [(0, al .agg a), (1, al .agg b), (4, ab false), (5, ai v0)] [] [])
def r15_Aggs_B2 : Code := sub (bodyOf Tryz.f75) [1, 0, 1, 2, 2]
def r15_Aggs_L2 (m : Nat) : S Un → Option (EX Un) := loopF (N_r15_Aggs 2) (fun s Q => awf (M_r15_Aggs m) N_r15_Aggs r15_Aggs_B2 s Q)
def r15_Aggs_C2 (m : Nat) : Exit → S Un → Option (RF Un) := ctxF (M_r15_Aggs m) N_r15_Aggs (bodyOf Tryz.f75) [1, 0, 1, 2] (retF (M_r15_Aggs m) Tryz.f75.results.toList [.d])
def r15_Aggs_fn (m : Nat) (a : List Agg) (b : List Agg) : Option (RF Un) := awf (M_r15_Aggs m) N_r15_Aggs (bodyOf Tryz.f75) (entry Tryz.f75.ntmps 0 [.d (.v (.dat (U := Un) Ty.agg a)), .d (.v (.dat (U := Un) Ty.agg b))]) (retF (M_r15_Aggs m) Tryz.f75.results.toList [.d])
theorem r15_Aggs_in (m : Nat) (a : List Agg) (b : List Agg) : r15_Aggs_fn m a b =
 (r15_Aggs_L2 m (r15_Aggs_s2 a b (0 : Int))).bind (thenX (r15_Aggs_C2 m)) := by kernel_rfl
theorem r15_Aggs_l2 (m : Nat) (a : List Agg) (b : List Agg) (v0 : Int) : r15_Aggs_L2 m (r15_Aggs_s2 a b v0) =
 cndO (decide (v0 < (↑a.length : Int)))
  (cndO (decide (v0 < (↑b.length : Int)))
   (obO (0 ≤ v0 ∧ v0 < (↑a.length : Int))
    (obO (0 ≤ v0 ∧ v0 < (↑b.length : Int))
     (cndO (!(Agg.name (a.getD v0.toNat zeroAgg)).toList == (Agg.name (b.getD v0.toNat zeroAgg)).toList)
      (some (.ret, (r15_Aggs_s2 a b v0)))
      (obO (0 ≤ v0 ∧ v0 < (↑a.length : Int))
       (obO (0 ≤ v0 ∧ v0 < (↑b.length : Int))
        (cndO (!Agg.distinct (a.getD v0.toNat zeroAgg) == Agg.distinct (b.getD v0.toNat zeroAgg))
         (some (.ret, (r15_Aggs_s2 a b v0)))
         (obO (0 ≤ v0 ∧ v0 < (↑a.length : Int))
          (obO (0 ≤ v0 ∧ v0 < (↑b.length : Int))
           (obO ((2 : Nat) * htTs (Agg.t (a.getD v0.toNat zeroAgg)) + (1 : Nat) < m)
            (cndO (!r15_Terms (Agg.t (a.getD v0.toNat zeroAgg)) (Agg.t (b.getD v0.toNat zeroAgg)))
             (some (.ret, (r15_Aggs_s2 a b v0)))
             (r15_Aggs_L2 m (r15_Aggs_s2 a b (IntKind.i64.wrap (v0 + 1))))))))))))))
   (some (.exit 0, (r15_Aggs_s2 a b v0))))
  (some (.exit 0, (r15_Aggs_s2 a b v0))) := (loopF_eq (N_r15_Aggs 2) r15_Aggs_B2 _).trans (by kernel_rfl)
theorem r15_Aggs_a2_ret (m : Nat) (a : List Agg) (b : List Agg) (v0 : Int) : r15_Aggs_C2 m .ret (r15_Aggs_s2 a b v0) =
 some (R_r15_Aggs (false)) := by kernel_rfl
theorem r15_Aggs_a2_x0 (m : Nat) (a : List Agg) (b : List Agg) (v0 : Int) : r15_Aggs_C2 m (.exit 0) (r15_Aggs_s2 a b v0) =
 some (R_r15_Aggs ((↑a.length : Int) == (↑b.length : Int))) := by kernel_rfl
theorem r15_Aggs_spec (m : Nat) (a b : List Agg) (ha : WL .agg a) (_hb : WL .agg b) (h : 2 * htAs a + 1 < m + 1) : r15_Aggs_fn m a b = some (R_r15_Aggs (r15_Aggs a b)) := by
  rw [r15_Aggs_in]
  exact loop_pre (L := r15_Aggs_L2 m) (st := fun i => r15_Aggs_s2 a b i) (fun r => some (R_r15_Aggs r)) (d := zeroAgg) ha.len
    (fun i hi hj => by
      have hht := htAs_mem (getD_mem (d := zeroAgg) hi)
      have hxh : htTs (a.getD i zeroAgg).t < (a.getD i zeroAgg).ht := by cases (a.getD i zeroAgg); simp only [Agg.ht, Agg.t_mk]; omega
      rw [r15_Aggs_l2, agg_deqb]
      simp only [cndO_eq, Int.toNat_natCast, r15_Terms]
      rw [if_pos (by simp; omega), if_pos (by simp; omega), obO_pos (by omega), obO_pos (by omega), obO_pos (by omega), obO_pos (by omega), obO_pos (by omega), obO_pos (by omega), obO_pos (by omega)]
      cases ((a.getD i zeroAgg).name.toList == (b.getD i zeroAgg).name.toList) <;> cases ((a.getD i zeroAgg).distinct == (b.getD i zeroAgg).distinct) <;> cases deq (a.getD i zeroAgg).t (b.getD i zeroAgg).t <;> simp)
    (fun i h => by
      rw [r15_Aggs_l2]
      simp only [cndO_eq, decide_eq_true_eq]
      by_cases h1 : (i : Int) < (a.length : Int)
      · rw [if_pos h1, if_neg (by omega)]
      · rw [if_neg h1])
    (fun i => r15_Aggs_a2_ret _ _ _ _) (fun i => r15_Aggs_a2_x0 _ _ _ _)
theorem okm_r15_Aggs (m : Nat) (h_r15_Terms : FnOK 74 (Fm_r15_Terms m)) (h_r15_Rels : FnOK 76 (Fm_r15_Rels m)) (h_r15_SameTerm : FnOK 52 (Fm_r15_SameTerm m)) (h_r15_Aggs : FnOK 75 (Fm_r15_Aggs m)) (h_r15_SameRel : FnOK 17 (Fm_r15_SameRel m)) : FnOK 75 (Fm_r15_Aggs (m + 1)) := by
  intro args ob rs os h hob
  unfold Fm_r15_Aggs at h
  split at h
  · simp only [Option.bind_eq_some_iff, Option.some.injEq, Prod.mk.injEq] at h
    obtain ⟨a, e0, b, e1, rfl, rfl, rfl⟩ := h
    obtain rfl := dL_eq e0
    obtain rfl := dL_eq e1
    exact ⟨fn_contractF (M := (M_r15_Aggs m)) rfl (tbl_ok (l1 := [(74, Fm_r15_Terms m)]) (l2 := []) (l3 := []) (l4 := []) (l5 := []) ⟨h_r15_Terms, trivial⟩ trivial trivial trivial trivial) Tryz.func75 (by kernel_rfl) N_r15_Aggs 0 [.d] (fun hwf => (r15_Aggs_spec m a b (wfArg hwf (a := .d (.v (.dat (U := Un) Ty.agg a))) (List.mem_of_getElem? (i := 0) rfl)) (wfArg hwf (a := .d (.v (.dat (U := Un) Ty.agg b))) (List.mem_of_getElem? (i := 1) rfl)) (hob _ (List.mem_of_getElem? (i := 0) rfl)))), hasBody_of Tryz.func75 (by kernel_rfl) (by kernel_rfl)⟩
  · simp at h
def M_r15_SameRel (m : Nat) : Mc Un := mach (tbl [(71, F_r15_Cols), (72, F_r15_Keys), (73, F_r03_List), (74, Fm_r15_Terms m), (75, Fm_r15_Aggs m), (76, Fm_r15_Rels m)]) (tbl []) (tbl []) (tbl []) (tbl [])
def R_r15_SameRel (r : Bool) : RF Un := (A_r15_SameRel r, O_r15_SameRel r)
def N_r15_SameRel : Nat → NS := fun l => (look l []).getD ⟨[], [], [], [], []⟩
def r15_SameRel_fn (m : Nat) (a : Rel) (b : Rel) : Option (RF Un) := awf (M_r15_SameRel m) N_r15_SameRel (bodyOf Tryz.f17) (entry Tryz.f17.ntmps 0 [.d (.agg (enc Ty.rel a)), .d (.agg (enc Ty.rel b))]) (retF (M_r15_SameRel m) Tryz.f17.results.toList [.d])
theorem r15_SameRel_in (m : Nat) (a : Rel) (b : Rel) : r15_SameRel_fn m a b =
 cndO (a.op != b.op)
  (some (R_r15_SameRel (false)))
  (cndO (!a.table.toList == b.table.toList)
   (some (R_r15_SameRel (false)))
   (cndO (a.limit != b.limit)
    (some (R_r15_SameRel (false)))
    (cndO (a.skip != b.skip)
     (some (R_r15_SameRel (false)))
     (cndO (!a.all == b.all)
      (some (R_r15_SameRel (false)))
      (cndO (!r15_Cols a.cols b.cols)
       (some (R_r15_SameRel (false)))
       (cndO (!r15_Keys a.keys b.keys)
        (some (R_r15_SameRel (false)))
        (cndO (r03_List a.rows b.rows)
         (obO ((2 : Nat) * htTs a.terms + (1 : Nat) < m)
          (cndO (r15_Terms a.terms b.terms)
           (obO ((2 : Nat) * htAs a.aggs + (1 : Nat) < m)
            (cndO (r15_Aggs a.aggs b.aggs)
             (obO ((2 : Nat) * htRs a.kids + (1 : Nat) < m)
              (some (R_r15_SameRel (r15_Rels a.kids b.kids))))
             (some (R_r15_SameRel (false)))))
           (some (R_r15_SameRel (false)))))
         (some (R_r15_SameRel (false)))))))))) := by kernel_rfl
theorem r15_SameRel_spec (m : Nat) (a b : Rel) (_ha : WS .rel a) (_hb : WS .rel b) (h : 2 * a.ht < m + 1) : r15_SameRel_fn m a b = some (R_r15_SameRel (r15_SameRel a b)) := by
  have hk : htTs a.terms < a.ht ∧ htAs a.aggs < a.ht ∧ htRs a.kids < a.ht := by cases a; simp only [Rel.ht, Rel.kids_mk, Rel.terms_mk, Rel.aggs_mk]; omega
  rw [r15_SameRel_in, obO_pos (by omega), obO_pos (by omega), obO_pos (by omega)]
  simp only [bne, cndO_and R_r15_SameRel, cndO_nand R_r15_SameRel]
  congr 2
  unfold r15_SameRel r15_Terms r15_Rels r15_Aggs r15_Cols r15_Keys r03_List
  rw [Bool.eq_iff_iff, rel_deq]
  simp only [Bool.and_eq_true, beq_iff_eq, name_eq, deq_iff]
theorem okm_r15_SameRel (m : Nat) (h_r15_Terms : FnOK 74 (Fm_r15_Terms m)) (h_r15_Rels : FnOK 76 (Fm_r15_Rels m)) (h_r15_SameTerm : FnOK 52 (Fm_r15_SameTerm m)) (h_r15_Aggs : FnOK 75 (Fm_r15_Aggs m)) (h_r15_SameRel : FnOK 17 (Fm_r15_SameRel m)) : FnOK 17 (Fm_r15_SameRel (m + 1)) := by
  intro args ob rs os h hob
  unfold Fm_r15_SameRel at h
  split at h
  · simp only [Option.bind_eq_some_iff, Option.some.injEq, Prod.mk.injEq] at h
    obtain ⟨a, e0, b, e1, rfl, rfl, rfl⟩ := h
    obtain rfl := dS_eq e0
    obtain rfl := dS_eq e1
    exact ⟨fn_contractF (M := (M_r15_SameRel m)) rfl (tbl_ok (l1 := [(71, F_r15_Cols), (72, F_r15_Keys), (73, F_r03_List), (74, Fm_r15_Terms m), (75, Fm_r15_Aggs m), (76, Fm_r15_Rels m)]) (l2 := []) (l3 := []) (l4 := []) (l5 := []) ⟨ok_r15_Cols, ok_r15_Keys, ok_r03_List, h_r15_Terms, h_r15_Aggs, h_r15_Rels, trivial⟩ trivial trivial trivial trivial) Tryz.func17 (by kernel_rfl) N_r15_SameRel 0 [.d] (fun hwf => (r15_SameRel_spec m a b (wfArg hwf (a := .d (.agg (enc Ty.rel a))) (List.mem_of_getElem? (i := 0) rfl)) (wfArg hwf (a := .d (.agg (enc Ty.rel b))) (List.mem_of_getElem? (i := 1) rfl)) (hob _ (List.mem_of_getElem? (i := 0) rfl)))), hasBody_of Tryz.func17 (by kernel_rfl) (by kernel_rfl)⟩
  · simp at h
theorem okAll_s15G : ∀ m, FnOK 74 (Fm_r15_Terms m) ∧ FnOK 76 (Fm_r15_Rels m) ∧ FnOK 52 (Fm_r15_SameTerm m) ∧ FnOK 75 (Fm_r15_Aggs m) ∧ FnOK 17 (Fm_r15_SameRel m)
  | 0 => by
    refine ⟨?_, ?_, ?_, ?_, ?_⟩
    · intro args ob rs os h hob
      unfold Fm_r15_Terms at h
      split at h
      · simp only [Option.bind_eq_some_iff, Option.some.injEq, Prod.mk.injEq] at h
        obtain ⟨_, _, _, _, rfl, _, _⟩ := h
        exact absurd (hob _ (List.mem_of_getElem? (i := 0) rfl)) (Nat.not_lt_zero _)
      · simp at h
    · intro args ob rs os h hob
      unfold Fm_r15_Rels at h
      split at h
      · simp only [Option.bind_eq_some_iff, Option.some.injEq, Prod.mk.injEq] at h
        obtain ⟨_, _, _, _, rfl, _, _⟩ := h
        exact absurd (hob _ (List.mem_of_getElem? (i := 0) rfl)) (Nat.not_lt_zero _)
      · simp at h
    · intro args ob rs os h hob
      unfold Fm_r15_SameTerm at h
      split at h
      · simp only [Option.bind_eq_some_iff, Option.some.injEq, Prod.mk.injEq] at h
        obtain ⟨_, _, _, _, rfl, _, _⟩ := h
        exact absurd (hob _ (List.mem_of_getElem? (i := 0) rfl)) (Nat.not_lt_zero _)
      · simp at h
    · intro args ob rs os h hob
      unfold Fm_r15_Aggs at h
      split at h
      · simp only [Option.bind_eq_some_iff, Option.some.injEq, Prod.mk.injEq] at h
        obtain ⟨_, _, _, _, rfl, _, _⟩ := h
        exact absurd (hob _ (List.mem_of_getElem? (i := 0) rfl)) (Nat.not_lt_zero _)
      · simp at h
    · intro args ob rs os h hob
      unfold Fm_r15_SameRel at h
      split at h
      · simp only [Option.bind_eq_some_iff, Option.some.injEq, Prod.mk.injEq] at h
        obtain ⟨_, _, _, _, rfl, _, _⟩ := h
        exact absurd (hob _ (List.mem_of_getElem? (i := 0) rfl)) (Nat.not_lt_zero _)
      · simp at h
  | m + 1 => by
    have ih := okAll_s15G m
    exact ⟨okm_r15_Terms m ih.1 ih.2.1 ih.2.2.1 ih.2.2.2.1 ih.2.2.2.2, okm_r15_Rels m ih.1 ih.2.1 ih.2.2.1 ih.2.2.2.1 ih.2.2.2.2, okm_r15_SameTerm m ih.1 ih.2.1 ih.2.2.1 ih.2.2.2.1 ih.2.2.2.2, okm_r15_Aggs m ih.1 ih.2.1 ih.2.2.1 ih.2.2.2.1 ih.2.2.2.2, okm_r15_SameRel m ih.1 ih.2.1 ih.2.2.1 ih.2.2.2.1 ih.2.2.2.2⟩
def F_r15_SameTerm : FnC Un := fun args => match args with
  | [x0, x1] => (dS .term x0).bind fun a => (dS .term x1).bind fun b => some ([], A_r15_SameTerm (r15_SameTerm a b), O_r15_SameTerm (r15_SameTerm a b))
  | _ => none
theorem ok_r15_SameTerm : FnOK 52 F_r15_SameTerm := by
  intro args ob rs os h hob
  unfold F_r15_SameTerm at h
  split at h
  · simp only [Option.bind_eq_some_iff, Option.some.injEq, Prod.mk.injEq] at h
    obtain ⟨a, e0, b, e1, rfl, rfl, rfl⟩ := h
    refine ((okAll_s15G (2 * a.ht + 1)).2.2.1) _ [2 * a.ht < 2 * a.ht + 1] _ _ (?_ : Fm_r15_SameTerm (2 * a.ht + 1) _ = some _) ?_
    · unfold Fm_r15_SameTerm
      simp only [e0, e1, Option.bind_some]
    · intro p hp
      simp only [List.mem_cons, List.not_mem_nil, or_false] at hp
      subst hp
      exact Nat.lt_succ_self _
  · simp at h
end
end Go.Proofs.YtmpnompddfhkeaaGreat.B
namespace Go.Proofs.YtmpnompddfhkeaaGreat.B
open Go Go.RowKit
set_option maxRecDepth 100000
noncomputable section
attribute [local irreducible] awp ctxK itersK iterK retQ retGQ awf ctxF loopF
def r21_Split (t : Term) : List Term := splitT t
@[simp] theorem r21_Split_eq (t : Term) : r21_Split t = splitT t := by unfold r21_Split; rfl
def A_r21_Split (r : List Term) : List (A Un) := [.c (.ob 0 0)]
def O_r21_Split (r : List Term) : List (Ob Un) := [⟨0, Ty.term, r, none, true⟩]
def Fm_r21_Split (m : Nat) : FnC Un := fun args => match args with
  | [x0] => (dS .term x0).bind fun t => some ([t.ht < m, t.sz ≤ 2000000], A_r21_Split (r21_Split t), O_r21_Split (r21_Split t))
  | _ => none
def M_r21_Split (m : Nat) : Mc Un := mach (tbl [(63, Fm_r21_Split m)]) (tbl []) (tbl []) (tbl []) (tbl [])
def R_r21_Split (r : List Term) : RF Un := (A_r21_Split r, O_r21_Split r)
def N_r21_Split : Nat → NS := fun l => (look l []).getD ⟨[], [], [], [], []⟩
def r21_Split_fn (m : Nat) (t : Term) : Option (RF Un) := awf (M_r21_Split m) N_r21_Split (bodyOf Tryz.f63) (entry Tryz.f63.ntmps 0 [.d (.agg (enc Ty.term t))]) (retF (M_r21_Split m) Tryz.f63.results.toList [.o])
theorem r21_Split_in (m : Nat) (t : Term) : r21_Split_fn m t =
 cndO (t.op != 17)
  (some (R_r21_Split ([(Term.ids t)])))
  (cndO ((↑t.kids.length : Int) != (2 : Int))
   (some (R_r21_Split ([(Term.ids t)])))
   (obO ((0 : Int) ≤ (0 : Int) ∧ (0 : Int) < (↑t.kids.length : Int))
    (obO ((Term.ids (t.kids.getD 0 zeroTerm)).ht < m)
     (obO ((Term.ids (t.kids.getD 0 zeroTerm)).sz ≤ (2000000 : Nat))
      (obO ((0 + (r21_Split (Term.ids (t.kids.getD 0 zeroTerm))).length) * (128 : Nat) ≤ roomB)
       (obO ((0 : Int) ≤ (1 : Int) ∧ (1 : Int) < (↑t.kids.length : Int))
        (obO ((Term.ids (t.kids.getD 1 zeroTerm)).ht < m)
         (obO ((Term.ids (t.kids.getD 1 zeroTerm)).sz ≤ (2000000 : Nat))
          (obO (((r21_Split (Term.ids (t.kids.getD 0 zeroTerm))).length + (r21_Split (Term.ids (t.kids.getD 1 zeroTerm))).length) * (128 : Nat) ≤ roomB)
           (some (R_r21_Split (r21_Split (Term.ids (t.kids.getD 0 zeroTerm)) ++ r21_Split (Term.ids (t.kids.getD 1 zeroTerm)))))))))))))) := by kernel_rfl
theorem r21_Split_spec (m : Nat) (t : Term) (_ht : WS .term t) (hm : t.ht < m + 1) (h : t.sz ≤ 2000000) : r21_Split_fn m t = some (R_r21_Split (r21_Split t)) := by
  rw [r21_Split_in]
  simp only [r21_Split_eq, Term.ids_eq, cndO_eq]
  conv => rhs; rw [splitT_eq]
  by_cases h1 : t.op = 17
  · by_cases h2 : t.kids.length = 2
    · obtain ⟨a, b, hab⟩ : ∃ a b, t.kids = [a, b] := by
        match hk : t.kids, h2 with
        | [a, b], _ => exact ⟨a, b, rfl⟩
      have ha : a ∈ t.kids := by rw [hab]; simp
      have hb : b ∈ t.kids := by rw [hab]; simp
      have hta := Term.ht_kid ha
      have htb := Term.ht_kid hb
      have hsz := t.sz_eq
      have hs : szTs t.kids = a.sz + b.sz := by rw [hab]; simp [szTs]
      have la := splitT_len a
      have lb := splitT_len b
      rw [if_neg (by simp [h1]), if_neg (by simp [h2]), if_pos ⟨h1, h2⟩, hab]
      have e0 : [a, b].getD 0 zeroTerm = a := rfl
      have e1 : [a, b].getD 1 zeroTerm = b := rfl
      rw [e0, e1, obO_pos (by simp), obO_pos (by omega), obO_pos (by omega), obO_pos (by unfold roomB; omega), obO_pos (by simp), obO_pos (by omega), obO_pos (by omega), obO_pos (by unfold roomB; omega)]
      simp [splitTs]
    · rw [if_neg (by simp [h1]), if_pos (by simp; omega), if_neg (fun e => h2 e.2)]
  · rw [if_pos (by simpa using h1), if_neg (fun e => h1 e.1)]
theorem okm_r21_Split (m : Nat) (h_r21_Split : FnOK 63 (Fm_r21_Split m)) : FnOK 63 (Fm_r21_Split (m + 1)) := by
  intro args ob rs os h hob
  unfold Fm_r21_Split at h
  split at h
  · simp only [Option.bind_eq_some_iff, Option.some.injEq, Prod.mk.injEq] at h
    obtain ⟨t, e0, rfl, rfl, rfl⟩ := h
    obtain rfl := dS_eq e0
    exact ⟨fn_contractF (M := (M_r21_Split m)) rfl (tbl_ok (l1 := [(63, Fm_r21_Split m)]) (l2 := []) (l3 := []) (l4 := []) (l5 := []) ⟨h_r21_Split, trivial⟩ trivial trivial trivial trivial) Tryz.func63 (by kernel_rfl) N_r21_Split 0 [.o] (fun hwf => (r21_Split_spec m t (wfArg hwf (a := .d (.agg (enc Ty.term t))) (List.mem_of_getElem? (i := 0) rfl)) (hob _ (List.mem_of_getElem? (i := 0) rfl)) (hob _ (List.mem_of_getElem? (i := 1) rfl)))), hasBody_of Tryz.func63 (by kernel_rfl) (by kernel_rfl)⟩
  · simp at h
theorem okAll_r21SplitG : ∀ m, FnOK 63 (Fm_r21_Split m)
  | 0 => by
    skip
    intro args ob rs os h hob
    unfold Fm_r21_Split at h
    split at h
    · simp only [Option.bind_eq_some_iff, Option.some.injEq, Prod.mk.injEq] at h
      obtain ⟨_, _, rfl, _, _⟩ := h
      exact absurd (hob _ (List.mem_of_getElem? (i := 0) rfl)) (Nat.not_lt_zero _)
    · simp at h
  | m + 1 => by
    have ih := okAll_r21SplitG m
    exact okm_r21_Split m ih
def F_r21_Split : FnC Un := fun args => match args with
  | [x0] => (dS .term x0).bind fun t => some ([t.sz ≤ 2000000], A_r21_Split (r21_Split t), O_r21_Split (r21_Split t))
  | _ => none
theorem ok_r21_Split : FnOK 63 F_r21_Split := by
  intro args ob rs os h hob
  unfold F_r21_Split at h
  split at h
  · simp only [Option.bind_eq_some_iff, Option.some.injEq, Prod.mk.injEq] at h
    obtain ⟨t, e0, rfl, rfl, rfl⟩ := h
    refine ((okAll_r21SplitG (t.ht + 1))) _ [t.ht < t.ht + 1, t.sz ≤ 2000000] _ _ (?_ : Fm_r21_Split (t.ht + 1) _ = some _) ?_
    · unfold Fm_r21_Split
      simp only [e0, Option.bind_some]
    · intro p hp
      simp only [List.mem_cons, List.not_mem_nil, or_false] at hp
      rcases hp with rfl | rfl
      · exact Nat.lt_succ_self _
      · exact hob _ (List.mem_of_getElem? (i := 0) rfl)
  · simp at h
def M_r21_List : Mc Un := mach (tbl [(52, F_r15_SameTerm)]) (tbl []) (tbl []) (tbl []) (tbl [])
def A_r21_List (r : Bool) : List (A Un) := [.c (.s (.bool r))]
def O_r21_List (_r : Bool) : List (Ob Un) := []
def R_r21_List (r : Bool) : RF Un := (A_r21_List r, O_r21_List r)
def N_r21_List : Nat → NS := fun l => (look l [(2, { ts := bl 33 51, bs := bl 33 0, nm := [] })]).getD ⟨[], [], [], [], []⟩
def r21_List_s2 (a : List Term) (b : List Term) (v0 : Int) : S Un := (st 33 33 132 0 [(0, al .term a), (1, al .term b), (4, ab false), (5, ai v0)] [] [])
def r21_List_B2 : Code := sub (bodyOf Tryz.f12) [1, 0, 1, 2, 2]
def r21_List_L2 : S Un → Option (EX Un) := loopF (N_r21_List 2) (fun s Q => awf M_r21_List N_r21_List r21_List_B2 s Q)
def r21_List_C2 : Exit → S Un → Option (RF Un) := ctxF M_r21_List N_r21_List (bodyOf Tryz.f12) [1, 0, 1, 2] (retF M_r21_List Tryz.f12.results.toList [.d])
def r21_List_fn (a : List Term) (b : List Term) : Option (RF Un) := awf M_r21_List N_r21_List (bodyOf Tryz.f12) (entry Tryz.f12.ntmps 0 [.d (.v (.dat (U := Un) Ty.term a)), .d (.v (.dat (U := Un) Ty.term b))]) (retF M_r21_List Tryz.f12.results.toList [.d])
theorem r21_List_in (a : List Term) (b : List Term) : r21_List_fn a b =
 (r21_List_L2 (r21_List_s2 a b (0 : Int))).bind (thenX r21_List_C2) := by kernel_rfl
theorem r21_List_l2 (a : List Term) (b : List Term) (v0 : Int) : r21_List_L2 (r21_List_s2 a b v0) =
 cndO (decide (v0 < (↑a.length : Int)))
  (cndO (decide (v0 < (↑b.length : Int)))
   (obO (0 ≤ v0 ∧ v0 < (↑a.length : Int))
    (obO (0 ≤ v0 ∧ v0 < (↑b.length : Int))
     (cndO (!r15_SameTerm (Term.ids (a.getD v0.toNat zeroTerm)) (Term.ids (b.getD v0.toNat zeroTerm)))
      (some (.ret, (r21_List_s2 a b v0)))
      (r21_List_L2 (r21_List_s2 a b (IntKind.i64.wrap (v0 + 1)))))))
   (some (.exit 0, (r21_List_s2 a b v0))))
  (some (.exit 0, (r21_List_s2 a b v0))) := (loopF_eq (N_r21_List 2) r21_List_B2 _).trans (by kernel_rfl)
theorem r21_List_a2_ret (a : List Term) (b : List Term) (v0 : Int) : r21_List_C2 .ret (r21_List_s2 a b v0) =
 some (R_r21_List (false)) := by kernel_rfl
theorem r21_List_a2_x0 (a : List Term) (b : List Term) (v0 : Int) : r21_List_C2 (.exit 0) (r21_List_s2 a b v0) =
 some (R_r21_List ((↑a.length : Int) == (↑b.length : Int))) := by kernel_rfl
noncomputable def r21_List (a b : List Term) : Bool := deq a b
theorem r21_List_spec (a b : List Term) (ha : WL .term a) (_hb : WL .term b) : r21_List_fn a b = some (R_r21_List (r21_List a b)) := by
  rw [r21_List_in]
  exact loop_pre (L := r21_List_L2) (st := fun i => r21_List_s2 a b i) (fun r => some (R_r21_List r)) (d := zeroTerm) ha.len
    (fun i hi hj => by
      rw [r21_List_l2]
      simp only [cndO_eq, Int.toNat_natCast, Term.ids_eq, r15_SameTerm]
      rw [if_pos (by simp; omega), if_pos (by simp; omega), obO_pos (by omega), obO_pos (by omega)]
      cases deq (a.getD i zeroTerm) (b.getD i zeroTerm) <;> simp)
    (fun i h => by
      rw [r21_List_l2]
      simp only [cndO_eq, decide_eq_true_eq]
      by_cases h1 : (i : Int) < (a.length : Int)
      · rw [if_pos h1, if_neg (by omega)]
      · rw [if_neg h1])
    (fun i => r21_List_a2_ret _ _ _) (fun i => r21_List_a2_x0 _ _ _)
def F_r21_List : FnC Un := fun args => match args with
  | [x0, x1] => (dL .term x0).bind fun a => (dL .term x1).bind fun b => some ([], A_r21_List (r21_List a b), O_r21_List (r21_List a b))
  | _ => none
theorem ok_r21_List : FnOK 12 F_r21_List := by
  intro args ob rs os h hob
  unfold F_r21_List at h
  split at h
  · simp only [Option.bind_eq_some_iff, Option.some.injEq, Prod.mk.injEq] at h
    obtain ⟨a, e0, b, e1, rfl, rfl, rfl⟩ := h
    obtain rfl := dL_eq e0
    obtain rfl := dL_eq e1
    exact ⟨fn_contractF (M := M_r21_List) rfl (tbl_ok (l1 := [(52, F_r15_SameTerm)]) (l2 := []) (l3 := []) (l4 := []) (l5 := []) ⟨ok_r15_SameTerm, trivial⟩ trivial trivial trivial trivial) Tryz.func12 (by kernel_rfl) N_r21_List 0 [.d] (fun hwf => (r21_List_spec a b (wfArg hwf (a := .d (.v (.dat (U := Un) Ty.term a))) (List.mem_of_getElem? (i := 0) rfl)) (wfArg hwf (a := .d (.v (.dat (U := Un) Ty.term b))) (List.mem_of_getElem? (i := 1) rfl)))), hasBody_of Tryz.func12 (by kernel_rfl) (by kernel_rfl)⟩
  · simp at h
def inOK (depth : Int) (n : Nat) : Prop := -2000000 ≤ depth ∧ depth + n ≤ 10000000 ∧ n ≤ 2000000
theorem foldl_snoc {α β : Type} (f : α → β) : ∀ (l : List α) (o : List β), l.foldl (fun o x => o ++ [f x]) o = o ++ l.map f
  | [], o => by simp
  | x :: l, o => by rw [List.foldl_cons, foldl_snoc f l]; simp
end
end Go.Proofs.YtmpnompddfhkeaaGreat.B
namespace Go.Proofs.YtmpnompddfhkeaaGreat.B
open Go Go.RowKit
set_option maxRecDepth 100000
noncomputable section
attribute [local irreducible] awp ctxK itersK iterK retQ retGQ awf ctxF loopF
def mvP (at_ : List Int) (c : Term) (d : Int) : Term := setAt c (if c.depth = d then move1 c.at_ at_ else c.at_)
def r21_moveRel (r : Rel) (depth : Int) (at_ : List Int) : Rel := mapR (mvP at_) depth r
def r21_moves (l : List Term) (depth : Int) (at_ : List Int) : List Term := mapTs (mvP at_) depth l
def r21_Move (t : Term) (depth : Int) (at_ : List Int) : Term := mapT (mvP at_) depth t
def A_r21_moveRel (r : Rel) : List (A Un) := [.agg (encC Ty.rel r)]
def O_r21_moveRel (_r : Rel) : List (Ob Un) := []
def Fm_r21_moveRel (m : Nat) : FnC Un := fun args => match args with
  | [x0, x1, x2] => (dS .rel x0).bind fun r => (dI .i64 x1).bind fun depth => (dL .int x2).bind fun at_ => some ([2 * r.ht < m, inOK depth r.sz], A_r21_moveRel (r21_moveRel r depth at_), O_r21_moveRel (r21_moveRel r depth at_))
  | _ => none
def A_r21_moves (r : List Term) : List (A Un) := [.c (.sl (U := Un) Ty.term r false)]
def O_r21_moves (_r : List Term) : List (Ob Un) := []
def Fm_r21_moves (m : Nat) : FnC Un := fun args => match args with
  | [x0, x1, x2] => (dL .term x0).bind fun l => (dI .i64 x1).bind fun depth => (dL .int x2).bind fun at_ => some ([2 * htTs l + 1 < m, inOK depth (szTs l)], A_r21_moves (r21_moves l depth at_), O_r21_moves (r21_moves l depth at_))
  | _ => none
def A_r21_Move (r : Term) : List (A Un) := [.agg (encC Ty.term r)]
def O_r21_Move (_r : Term) : List (Ob Un) := []
def Fm_r21_Move (m : Nat) : FnC Un := fun args => match args with
  | [x0, x1, x2] => (dS .term x0).bind fun t => (dI .i64 x1).bind fun depth => (dL .int x2).bind fun at_ => some ([2 * t.ht < m, inOK depth t.sz], A_r21_Move (r21_Move t depth at_), O_r21_Move (r21_Move t depth at_))
  | _ => none
def M_r21_moveRel (m : Nat) : Mc Un := mach (tbl [(119, Fm_r21_moves m), (120, Fm_r21_moveRel m)]) (tbl []) (tbl []) (tbl []) (tbl [])
def R_r21_moveRel (r : Rel) : RF Un := (A_r21_moveRel r, O_r21_moveRel r)
def N_r21_moveRel : Nat → NS := fun l => (look l [(4, { ts := bl 63 462, bs := bl 63 72, nm := [(.sl 7, 252)] }), (10, { ts := bl 63 1614, bs := bl 63 72, nm := [(.sl 9, 253), (.cell 3 5, 254)] })]).getD ⟨[], [], [], [], []⟩
def r21_moveRel_c1 (r : Rel) (depth : Int) (at_ : List Int) (v2 : Int) := r21_moveRel (Rel.mk (Rel.op (r.kids.getD v2.toNat zeroRel)) (Rel.table (r.kids.getD v2.toNat zeroRel)) (Rel.cols (r.kids.getD v2.toNat zeroRel)) (Rel.kids (r.kids.getD v2.toNat zeroRel)) (Rel.terms (r.kids.getD v2.toNat zeroRel)) (Rel.aggs (r.kids.getD v2.toNat zeroRel)) (Rel.keys (r.kids.getD v2.toNat zeroRel)) (Rel.limit (r.kids.getD v2.toNat zeroRel)) (Rel.skip (r.kids.getD v2.toNat zeroRel)) (Rel.all (r.kids.getD v2.toNat zeroRel)) (Rel.rows (r.kids.getD v2.toNat zeroRel))) depth at_
def r21_moveRel_s4 (r : Rel) (depth : Int) (at_ : List Int) (v0 : Int) (v1 : List Agg) : S Un := (st 63 63 255 0 [(1, ai depth), (2, al .int at_), (3, ax 3), (6, ax 6), (7, ao 252), (8, ai v0)] [(3, some (false, encC Ty.rel (Rel.mk r.op r.table r.cols r.kids (r21_moves r.terms depth at_) r.aggs r.keys r.limit r.skip r.all r.rows))), (6, some (false, [C.s (Value.int IntKind.i64 (0 : Int)), C.s (Value.string (ByteArray.mk #[])), C.sl Ty.col [] true, C.sl Ty.rel [] true, C.sl Ty.term [] true, C.sl Ty.agg [] true, C.sl Ty.by_ [] true, C.s (Value.int IntKind.i64 (0 : Int)), C.s (Value.int IntKind.i64 (0 : Int)), C.s (Value.bool false), C.sl Ty.row [] true]))] [(252, some ⟨(0 : Nat), Ty.agg, v1, some (0 : Nat), true⟩)])
def r21_moveRel_s10 (r : Rel) (depth : Int) (at_ : List Int) (v1 : List Agg) (v2 : Int) (v3 : List Rel) : S Un := (st 63 63 255 0 [(1, ai depth), (2, al .int at_), (3, ax 3), (6, ax 6), (9, ao 253), (10, ai v2)] [(3, some (false, [C.s (Value.int IntKind.i64 r.op), C.s (Value.string r.table), C.sl Ty.col r.cols false, C.sl Ty.rel r.kids false, C.sl Ty.term (r21_moves r.terms depth at_) false, C.ob (254 : Nat) (0 : Nat), C.sl Ty.by_ r.keys false, C.s (Value.int IntKind.i64 r.limit), C.s (Value.int IntKind.i64 r.skip), C.s (Value.bool r.all), C.sl Ty.row r.rows false])), (6, some (false, [C.s (Value.int IntKind.i64 (0 : Int)), C.s (Value.string (ByteArray.mk #[])), C.sl Ty.col [] true, C.sl Ty.rel [] true, C.sl Ty.term [] true, C.sl Ty.agg [] true, C.sl Ty.by_ [] true, C.s (Value.int IntKind.i64 (0 : Int)), C.s (Value.int IntKind.i64 (0 : Int)), C.s (Value.bool false), C.sl Ty.row [] true]))] [(253, some ⟨(0 : Nat), Ty.rel, v3, some (0 : Nat), true⟩), (254, some ⟨(0 : Nat), Ty.agg, v1, some (0 : Nat), true⟩)])
def r21_moveRel_B4 : Code := sub (bodyOf Tryz.f120) [1, 1, 1, 0, 1, 2, 2]
def r21_moveRel_L4 (m : Nat) : S Un → Option (EX Un) := loopF (N_r21_moveRel 4) (fun s Q => awf (M_r21_moveRel m) N_r21_moveRel r21_moveRel_B4 s Q)
def r21_moveRel_B10 : Code := sub (bodyOf Tryz.f120) [1, 1, 1, 1, 1, 1, 0, 1, 2, 2]
def r21_moveRel_L10 (m : Nat) : S Un → Option (EX Un) := loopF (N_r21_moveRel 10) (fun s Q => awf (M_r21_moveRel m) N_r21_moveRel r21_moveRel_B10 s Q)
def r21_moveRel_C4 (m : Nat) : Exit → S Un → Option (RF Un) := ctxF (M_r21_moveRel m) N_r21_moveRel (bodyOf Tryz.f120) [1, 1, 1, 0, 1, 2] (retF (M_r21_moveRel m) Tryz.f120.results.toList [.d])
def r21_moveRel_C10 (m : Nat) : Exit → S Un → Option (RF Un) := ctxF (M_r21_moveRel m) N_r21_moveRel (bodyOf Tryz.f120) [1, 1, 1, 1, 1, 1, 0, 1, 2] (retF (M_r21_moveRel m) Tryz.f120.results.toList [.d])
def r21_moveRel_fn (m : Nat) (r : Rel) (depth : Int) (at_ : List Int) : Option (RF Un) := awf (M_r21_moveRel m) N_r21_moveRel (bodyOf Tryz.f120) (entry Tryz.f120.ntmps 3 [.d (.agg (enc Ty.rel r)), .d (.v (.s (.int .i64 depth))), .d (.v (.dat (U := Un) Ty.int at_))]) (retF (M_r21_moveRel m) Tryz.f120.results.toList [.d])
theorem r21_moveRel_in (m : Nat) (r : Rel) (depth : Int) (at_ : List Int) : r21_moveRel_fn m r depth at_ =
 obO ((2 : Nat) * htTs r.terms + (1 : Nat) < m)
  (obO (inOK depth (szTs r.terms))
   (obO ((0 + r.aggs.length) * (48 : Nat) ≤ roomB)
    ((r21_moveRel_L4 m (r21_moveRel_s4 r depth at_ (0 : Int) r.aggs)).bind (thenX (r21_moveRel_C4 m))))) := by kernel_rfl
theorem r21_moveRel_l4 (m : Nat) (r : Rel) (depth : Int) (at_ : List Int) (v0 : Int) (v1 : List Agg) : r21_moveRel_L4 m (r21_moveRel_s4 r depth at_ v0 v1) =
 cndO (decide (v0 < (↑v1.length : Int)))
  (obO (0 ≤ v0 ∧ v0 < (↑v1.length : Int))
   (obO ((2 : Nat) * htTs (Agg.t (v1.getD v0.toNat zeroAgg)) + (1 : Nat) < m)
    (obO (inOK depth (szTs (Agg.t (v1.getD v0.toNat zeroAgg))))
     (obO (0 ≤ v0 ∧ v0 < (↑v1.length : Int))
      (obO ((0 : Nat) ≤ v0.toNat)
       (r21_moveRel_L4 m (r21_moveRel_s4 r depth at_ (IntKind.i64.wrap (v0 + 1)) (v1.set v0.toNat (Agg.mk (Agg.name (v1.getD v0.toNat zeroAgg)) (Agg.distinct (v1.getD v0.toNat zeroAgg)) (r21_moves (Agg.t (v1.getD v0.toNat zeroAgg)) depth at_))))))))))
  (some (.exit 0, (r21_moveRel_s4 r depth at_ v0 v1))) := (loopF_eq (N_r21_moveRel 4) r21_moveRel_B4 _).trans (by kernel_rfl)
theorem r21_moveRel_a4_x0 (m : Nat) (r : Rel) (depth : Int) (at_ : List Int) (v0 : Int) (v1 : List Agg) : r21_moveRel_C4 m (.exit 0) (r21_moveRel_s4 r depth at_ v0 v1) =
 (r21_moveRel_L10 m (r21_moveRel_s10 r depth at_ v1 (0 : Int) ([]))).bind (thenX (r21_moveRel_C10 m)) := by kernel_rfl
theorem r21_moveRel_l10 (m : Nat) (r : Rel) (depth : Int) (at_ : List Int) (v1 : List Agg) (v2 : Int) (v3 : List Rel) : r21_moveRel_L10 m (r21_moveRel_s10 r depth at_ v1 v2 v3) =
 cndO (decide (v2 < (↑r.kids.length : Int)))
  (obO (0 ≤ v2 ∧ v2 < (↑r.kids.length : Int))
   (obO ((2 : Nat) * (Rel.ids (r.kids.getD v2.toNat zeroRel)).ht < m)
    (obO (inOK depth (Rel.ids (r.kids.getD v2.toNat zeroRel)).sz)
     (obO ((v3.length + [(Rel.mk (r21_moveRel_c1 r depth at_ v2).op (r21_moveRel_c1 r depth at_ v2).table (r21_moveRel_c1 r depth at_ v2).cols (r21_moveRel_c1 r depth at_ v2).kids (r21_moveRel_c1 r depth at_ v2).terms (r21_moveRel_c1 r depth at_ v2).aggs (r21_moveRel_c1 r depth at_ v2).keys (r21_moveRel_c1 r depth at_ v2).limit (r21_moveRel_c1 r depth at_ v2).skip (r21_moveRel_c1 r depth at_ v2).all (r21_moveRel_c1 r depth at_ v2).rows)].length) * (192 : Nat) ≤ roomB)
      (r21_moveRel_L10 m (r21_moveRel_s10 r depth at_ v1 (IntKind.i64.wrap (v2 + 1)) (v3 ++ [(Rel.mk (r21_moveRel_c1 r depth at_ v2).op (r21_moveRel_c1 r depth at_ v2).table (r21_moveRel_c1 r depth at_ v2).cols (r21_moveRel_c1 r depth at_ v2).kids (r21_moveRel_c1 r depth at_ v2).terms (r21_moveRel_c1 r depth at_ v2).aggs (r21_moveRel_c1 r depth at_ v2).keys (r21_moveRel_c1 r depth at_ v2).limit (r21_moveRel_c1 r depth at_ v2).skip (r21_moveRel_c1 r depth at_ v2).all (r21_moveRel_c1 r depth at_ v2).rows)])))))))
  (some (.exit 2, (r21_moveRel_s10 r depth at_ v1 v2 v3))) := (loopF_eq (N_r21_moveRel 10) r21_moveRel_B10 _).trans (by kernel_rfl)
theorem r21_moveRel_a10_x2 (m : Nat) (r : Rel) (depth : Int) (at_ : List Int) (v1 : List Agg) (v2 : Int) (v3 : List Rel) : r21_moveRel_C10 m (.exit 2) (r21_moveRel_s10 r depth at_ v1 v2 v3) =
 some (R_r21_moveRel (Rel.mk r.op r.table r.cols v3 (r21_moves r.terms depth at_) v1 r.keys r.limit r.skip r.all r.rows)) := by kernel_rfl
theorem r21_moveRel_spec (m : Nat) (r : Rel) (depth : Int) (at_ : List Int) (hr : WS .rel r) (_hd : WI depth) (_ha : WL .int at_) (hm : 2 * r.ht < m + 1) (h : inOK depth r.sz) : r21_moveRel_fn m r depth at_ = some (R_r21_moveRel (r21_moveRel r depth at_)) := by
  obtain ⟨h1, h2, h3⟩ := h
  have hsz := r.sz_eq
  have hk : htTs r.terms < r.ht ∧ htAs r.aggs < r.ht ∧ htRs r.kids < r.ht := by cases r; simp only [Rel.ht, Rel.kids_mk, Rel.terms_mk, Rel.aggs_mk]; omega
  have hal := szAs_len r.aggs
  have hkl := szRs_len r.kids
  have l4 := loop_map (e := .exit 0) (L := r21_moveRel_L4 m) (st := fun xs i => r21_moveRel_s4 r depth at_ i xs) (l := r.aggs) (d := zeroAgg) (mapA (mvP at_) depth) (hr.rel_aggs).len
    (fun xs i x hi hxl hx hmem => by
      have hsz := szAs_mem hmem
      have hxs := x.sz_eq
      have hht := htAs_mem hmem
      have hxh : htTs x.t < x.ht := by cases x; simp only [Agg.ht, Agg.t_mk]; omega
      rw [r21_moveRel_l4]
      simp only [cndO_eq, hxl, hi, decide_true, if_true, and_true, Int.toNat_natCast, hx, r21_moves]
      rw [obO_pos (by omega), obO_pos (by omega), obO_pos (show inOK _ _ from ⟨h1, by omega, by omega⟩), obO_pos (by omega), obO_pos (by omega), mapA_eq])
    (fun xs hxl => by rw [r21_moveRel_l4]; simp [cndO_eq, hxl])
  have l10 := (loop_fold (e := .exit 2) (L := r21_moveRel_L10 m) (st := fun o i => r21_moveRel_s10 r depth at_ (r.aggs.map (mapA (mvP at_) depth)) i o) (l := r.kids) (d := zeroRel) (g := fun o x => o ++ [mapR (mvP at_) depth x]) (fun i o => o.length = i) (hr.rel_kids).len
    (fun o i x hi hx hI => by
      have hil : i < r.kids.length := by omega
      have hI' : o.length = i := hI
      have hmem : x ∈ r.kids := by rw [← hx]; exact getD_mem hil
      have hsz := szRs_mem hmem
      have hht := htRs_mem hmem
      refine ⟨by show (o ++ [mapR (mvP at_) depth x]).length = i + 1; rw [List.length_append, List.length_singleton]; omega, ?_⟩
      rw [r21_moveRel_l10]
      simp only [r21_moveRel_c1, rel_eta, Rel.ids_eq, cndO_eq, hi, decide_true, if_true, and_true, Int.toNat_natCast, hx, r21_moveRel]
      rw [obO_pos (by omega), obO_pos (by omega), obO_pos (show inOK _ _ from ⟨h1, by omega, by omega⟩), obO_pos (by unfold roomB; rw [List.length_singleton]; omega)])
    (fun o _ => by rw [r21_moveRel_l10]; simp [cndO_eq]) [] rfl).1
  rw [foldl_snoc, List.nil_append] at l10
  rw [r21_moveRel_in, obO_pos (by omega), obO_pos (show inOK _ _ from ⟨h1, by omega, by omega⟩), obO_pos (by unfold roomB; omega), loop_end l4, r21_moveRel_a4_x0, loop_end l10, r21_moveRel_a10_x2]
  unfold r21_moveRel r21_moves
  rw [mapR_eq, mapAs_map, mapRs_map]
theorem okm_r21_moveRel (m : Nat) (h_r21_moveRel : FnOK 120 (Fm_r21_moveRel m)) (h_r21_moves : FnOK 119 (Fm_r21_moves m)) (h_r21_Move : FnOK 51 (Fm_r21_Move m)) : FnOK 120 (Fm_r21_moveRel (m + 1)) := by
  intro args ob rs os h hob
  unfold Fm_r21_moveRel at h
  split at h
  · simp only [Option.bind_eq_some_iff, Option.some.injEq, Prod.mk.injEq] at h
    obtain ⟨r, e0, depth, e1, at_, e2, rfl, rfl, rfl⟩ := h
    obtain rfl := dS_eq e0
    obtain rfl := dI_eq e1
    obtain rfl := dL_eq e2
    exact ⟨fn_contractF (M := (M_r21_moveRel m)) rfl (tbl_ok (l1 := [(119, Fm_r21_moves m), (120, Fm_r21_moveRel m)]) (l2 := []) (l3 := []) (l4 := []) (l5 := []) ⟨h_r21_moves, h_r21_moveRel, trivial⟩ trivial trivial trivial trivial) Tryz.func120 (by kernel_rfl) N_r21_moveRel 3 [.d] (fun hwf => (r21_moveRel_spec m r depth at_ (wfArg hwf (a := .d (.agg (enc Ty.rel r))) (List.mem_of_getElem? (i := 0) rfl)) (wfArg hwf (a := .d (.v (.s (.int .i64 depth)))) (List.mem_of_getElem? (i := 1) rfl)) (wfArg hwf (a := .d (.v (.dat (U := Un) Ty.int at_))) (List.mem_of_getElem? (i := 2) rfl)) (hob _ (List.mem_of_getElem? (i := 0) rfl)) (hob _ (List.mem_of_getElem? (i := 1) rfl)))), hasBody_of Tryz.func120 (by kernel_rfl) (by kernel_rfl)⟩
  · simp at h
def M_r21_moves (m : Nat) : Mc Un := mach (tbl [(51, Fm_r21_Move m)]) (tbl []) (tbl []) (tbl []) (tbl [])
def R_r21_moves (r : List Term) : RF Un := (A_r21_moves r, O_r21_moves r)
def N_r21_moves : Nat → NS := fun l => (look l [(3, { ts := bl 27 391, bs := bl 27 0, nm := [(.sl 7, 108)] })]).getD ⟨[], [], [], [], []⟩
def r21_moves_s3 (l : List Term) (depth : Int) (at_ : List Int) (v0 : Int) (v1 : List Term) : S Un := (st 27 27 109 0 [(0, al .term l), (1, ai depth), (2, al .int at_), (7, ao 108), (8, ai v0)] [] [(108, some ⟨(0 : Nat), Ty.term, v1, some (0 : Nat), true⟩)])
def r21_moves_B3 : Code := sub (bodyOf Tryz.f119) [1, 1, 0, 1, 2, 2]
def r21_moves_L3 (m : Nat) : S Un → Option (EX Un) := loopF (N_r21_moves 3) (fun s Q => awf (M_r21_moves m) N_r21_moves r21_moves_B3 s Q)
def r21_moves_C3 (m : Nat) : Exit → S Un → Option (RF Un) := ctxF (M_r21_moves m) N_r21_moves (bodyOf Tryz.f119) [1, 1, 0, 1, 2] (retF (M_r21_moves m) Tryz.f119.results.toList [.d])
def r21_moves_fn (m : Nat) (l : List Term) (depth : Int) (at_ : List Int) : Option (RF Un) := awf (M_r21_moves m) N_r21_moves (bodyOf Tryz.f119) (entry Tryz.f119.ntmps 1 [.d (.v (.dat (U := Un) Ty.term l)), .d (.v (.s (.int .i64 depth))), .d (.v (.dat (U := Un) Ty.int at_))]) (retF (M_r21_moves m) Tryz.f119.results.toList [.d])
theorem r21_moves_in (m : Nat) (l : List Term) (depth : Int) (at_ : List Int) : r21_moves_fn m l depth at_ =
 (r21_moves_L3 m (r21_moves_s3 l depth at_ (0 : Int) ([]))).bind (thenX (r21_moves_C3 m)) := by kernel_rfl
theorem r21_moves_l3 (m : Nat) (l : List Term) (depth : Int) (at_ : List Int) (v0 : Int) (v1 : List Term) : r21_moves_L3 m (r21_moves_s3 l depth at_ v0 v1) =
 cndO (decide (v0 < (↑l.length : Int)))
  (obO (0 ≤ v0 ∧ v0 < (↑l.length : Int))
   (obO ((2 : Nat) * (Term.ids (l.getD v0.toNat zeroTerm)).ht < m)
    (obO (inOK depth (Term.ids (l.getD v0.toNat zeroTerm)).sz)
     (obO ((v1.length + [(Term.mk (r21_Move (Term.ids (l.getD v0.toNat zeroTerm)) depth at_).op (r21_Move (Term.ids (l.getD v0.toNat zeroTerm)) depth at_).v (r21_Move (Term.ids (l.getD v0.toNat zeroTerm)) depth at_).depth (r21_Move (Term.ids (l.getD v0.toNat zeroTerm)) depth at_).at_ (r21_Move (Term.ids (l.getD v0.toNat zeroTerm)) depth at_).name (r21_Move (Term.ids (l.getD v0.toNat zeroTerm)) depth at_).kids (r21_Move (Term.ids (l.getD v0.toNat zeroTerm)) depth at_).sub (r21_Move (Term.ids (l.getD v0.toNat zeroTerm)) depth at_).type)].length) * (128 : Nat) ≤ roomB)
      (r21_moves_L3 m (r21_moves_s3 l depth at_ (IntKind.i64.wrap (v0 + 1)) (v1 ++ [(Term.mk (r21_Move (Term.ids (l.getD v0.toNat zeroTerm)) depth at_).op (r21_Move (Term.ids (l.getD v0.toNat zeroTerm)) depth at_).v (r21_Move (Term.ids (l.getD v0.toNat zeroTerm)) depth at_).depth (r21_Move (Term.ids (l.getD v0.toNat zeroTerm)) depth at_).at_ (r21_Move (Term.ids (l.getD v0.toNat zeroTerm)) depth at_).name (r21_Move (Term.ids (l.getD v0.toNat zeroTerm)) depth at_).kids (r21_Move (Term.ids (l.getD v0.toNat zeroTerm)) depth at_).sub (r21_Move (Term.ids (l.getD v0.toNat zeroTerm)) depth at_).type)])))))))
  (some (.exit 0, (r21_moves_s3 l depth at_ v0 v1))) := (loopF_eq (N_r21_moves 3) r21_moves_B3 _).trans (by kernel_rfl)
theorem r21_moves_a3_x0 (m : Nat) (l : List Term) (depth : Int) (at_ : List Int) (v0 : Int) (v1 : List Term) : r21_moves_C3 m (.exit 0) (r21_moves_s3 l depth at_ v0 v1) =
 some (R_r21_moves (v1)) := by kernel_rfl
theorem r21_moves_spec (m : Nat) (l : List Term) (depth : Int) (at_ : List Int) (hl : WL .term l) (_hd : WI depth) (_ha : WL .int at_) (hm : 2 * htTs l + 1 < m + 1) (h : inOK depth (szTs l)) : r21_moves_fn m l depth at_ = some (R_r21_moves (r21_moves l depth at_)) := by
  obtain ⟨h1, h2, h3⟩ := h
  have hsl := szTs_len l
  have l3 := (loop_fold (e := .exit 0) (L := r21_moves_L3 m) (st := fun o i => r21_moves_s3 l depth at_ i o) (l := l) (d := zeroTerm) (g := fun o x => o ++ [mapT (mvP at_) depth x]) (fun i o => o.length = i) hl.len
    (fun o i x hi hx hI => by
      have hil : i < l.length := by omega
      have hI' : o.length = i := hI
      have hmem : x ∈ l := by rw [← hx]; exact getD_mem hil
      have hsz := szTs_mem hmem
      have hht := htTs_mem hmem
      refine ⟨by show (o ++ [mapT (mvP at_) depth x]).length = i + 1; rw [List.length_append, List.length_singleton]; omega, ?_⟩
      rw [r21_moves_l3]
      simp only [Term.ids_eq, term_eta, cndO_eq, hi, decide_true, if_true, and_true, Int.toNat_natCast, hx, r21_Move]
      rw [obO_pos (by omega), obO_pos (by omega), obO_pos (show inOK _ _ from ⟨h1, by omega, by omega⟩), obO_pos (by unfold roomB; rw [List.length_singleton]; omega)])
    (fun o _ => by rw [r21_moves_l3]; simp [cndO_eq]) [] rfl).1
  rw [foldl_snoc, List.nil_append] at l3
  rw [r21_moves_in, loop_end l3, r21_moves_a3_x0]
  unfold r21_moves
  rw [mapTs_map]
theorem okm_r21_moves (m : Nat) (h_r21_moveRel : FnOK 120 (Fm_r21_moveRel m)) (h_r21_moves : FnOK 119 (Fm_r21_moves m)) (h_r21_Move : FnOK 51 (Fm_r21_Move m)) : FnOK 119 (Fm_r21_moves (m + 1)) := by
  intro args ob rs os h hob
  unfold Fm_r21_moves at h
  split at h
  · simp only [Option.bind_eq_some_iff, Option.some.injEq, Prod.mk.injEq] at h
    obtain ⟨l, e0, depth, e1, at_, e2, rfl, rfl, rfl⟩ := h
    obtain rfl := dL_eq e0
    obtain rfl := dI_eq e1
    obtain rfl := dL_eq e2
    exact ⟨fn_contractF (M := (M_r21_moves m)) rfl (tbl_ok (l1 := [(51, Fm_r21_Move m)]) (l2 := []) (l3 := []) (l4 := []) (l5 := []) ⟨h_r21_Move, trivial⟩ trivial trivial trivial trivial) Tryz.func119 (by kernel_rfl) N_r21_moves 1 [.d] (fun hwf => (r21_moves_spec m l depth at_ (wfArg hwf (a := .d (.v (.dat (U := Un) Ty.term l))) (List.mem_of_getElem? (i := 0) rfl)) (wfArg hwf (a := .d (.v (.s (.int .i64 depth)))) (List.mem_of_getElem? (i := 1) rfl)) (wfArg hwf (a := .d (.v (.dat (U := Un) Ty.int at_))) (List.mem_of_getElem? (i := 2) rfl)) (hob _ (List.mem_of_getElem? (i := 0) rfl)) (hob _ (List.mem_of_getElem? (i := 1) rfl)))), hasBody_of Tryz.func119 (by kernel_rfl) (by kernel_rfl)⟩
  · simp at h
def M_r21_Move (m : Nat) : Mc Un := mach (tbl [(119, Fm_r21_moves m), (120, Fm_r21_moveRel m)]) (tbl []) (tbl []) (tbl []) (tbl [])
def R_r21_Move (r : Term) : RF Un := (A_r21_Move r, O_r21_Move r)
def N_r21_Move : Nat → NS := fun l => (look l [(6, { ts := bl 65 462, bs := bl 65 72, nm := [(.sl 7, 260)], gb := [3] })]).getD ⟨[], [], [], [], []⟩
def r21_Move_c1 (depth : Int) (at_ : List Int) (b3 : Term) (v0 : Int) := r21_moveRel (Rel.mk (Rel.op (b3.sub.getD v0.toNat zeroRel)) (Rel.table (b3.sub.getD v0.toNat zeroRel)) (Rel.cols (b3.sub.getD v0.toNat zeroRel)) (Rel.kids (b3.sub.getD v0.toNat zeroRel)) (Rel.terms (b3.sub.getD v0.toNat zeroRel)) (Rel.aggs (b3.sub.getD v0.toNat zeroRel)) (Rel.keys (b3.sub.getD v0.toNat zeroRel)) (Rel.limit (b3.sub.getD v0.toNat zeroRel)) (Rel.skip (b3.sub.getD v0.toNat zeroRel)) (Rel.all (b3.sub.getD v0.toNat zeroRel)) (Rel.rows (b3.sub.getD v0.toNat zeroRel))) (IntKind.i64.wrap (depth + 1)) at_
def r21_Move_s6 (depth : Int) (at_ : List Int) (b3 : Term) (v0 : Int) (v1 : List Rel) : S Un := (st 65 65 261 0 [(1, ai depth), (2, al .int at_), (3, ax 3), (6, ax 6), (7, ao 260), (8, ai v0)] [(3, bg .term b3), (6, some (false, [C.s (Value.int IntKind.i64 (0 : Int)), C.s (Value.int IntKind.i64 (0 : Int)), C.s (Value.int IntKind.i64 (0 : Int)), C.s (Value.string (ByteArray.mk #[])), C.s (Value.int IntKind.i64 (0 : Int)), C.s (Value.int IntKind.i64 (0 : Int)), C.s (Value.string (ByteArray.mk #[])), C.sl Ty.term [] true, C.sl Ty.rel [] true, C.s (Value.int IntKind.i64 (0 : Int))]))] [(260, some ⟨(0 : Nat), Ty.rel, v1, some (0 : Nat), true⟩)])
def r21_Move_B6 : Code := sub (bodyOf Tryz.f51) [1, 1, 1, 1, 0, 1, 2, 2]
def r21_Move_L6 (m : Nat) : S Un → Option (EX Un) := loopF (N_r21_Move 6) (fun s Q => awf (M_r21_Move m) N_r21_Move r21_Move_B6 s Q)
def r21_Move_C6 (m : Nat) : Exit → S Un → Option (RF Un) := ctxF (M_r21_Move m) N_r21_Move (bodyOf Tryz.f51) [1, 1, 1, 1, 0, 1, 2] (retF (M_r21_Move m) Tryz.f51.results.toList [.d])
def r21_Move_fn (m : Nat) (t : Term) (depth : Int) (at_ : List Int) : Option (RF Un) := awf (M_r21_Move m) N_r21_Move (bodyOf Tryz.f51) (entry Tryz.f51.ntmps 1 [.d (.agg (enc Ty.term t)), .d (.v (.s (.int .i64 depth))), .d (.v (.dat (U := Un) Ty.int at_))]) (retF (M_r21_Move m) Tryz.f51.results.toList [.d])
def r21_Move_t1 (m : Nat) (t : Term) (depth : Int) (at_ : List Int) : Option (RF Un) :=
 obO ((2 : Nat) * htTs t.kids + (1 : Nat) < m)
  (obO (inOK depth (szTs t.kids))
   ((r21_Move_L6 m (r21_Move_s6 depth at_ (Term.mk t.op t.v t.depth t.at_ t.name (r21_moves t.kids depth at_) t.sub t.type) (0 : Int) ([]))).bind (thenX (r21_Move_C6 m))))
theorem r21_Move_in (m : Nat) (t : Term) (depth : Int) (at_ : List Int) : r21_Move_fn m t depth at_ =
 cndO (t.op == 2)
  (cndO (t.depth == depth)
   (cndO (decide (t.at_ ≥ 0))
    (cndO (decide (t.at_ < (↑at_.length : Int)))
     (obO (0 ≤ t.at_ ∧ t.at_ < (↑at_.length : Int))
      (obO ((2 : Nat) * htTs t.kids + (1 : Nat) < m)
       (obO (inOK depth (szTs t.kids))
        ((r21_Move_L6 m (r21_Move_s6 depth at_ (Term.mk t.op t.v t.depth (at_.getD t.at_.toNat (0 : Int)) t.name (r21_moves t.kids depth at_) t.sub t.type) (0 : Int) ([]))).bind (thenX (r21_Move_C6 m))))))
     (r21_Move_t1 m t depth at_))
    (r21_Move_t1 m t depth at_))
   (r21_Move_t1 m t depth at_))
  (r21_Move_t1 m t depth at_) := by kernel_rfl
theorem r21_Move_l6 (m : Nat) (depth : Int) (at_ : List Int) (b3 : Term) (v0 : Int) (v1 : List Rel) : r21_Move_L6 m (r21_Move_s6 depth at_ b3 v0 v1) =
 cndO (decide (v0 < (↑b3.sub.length : Int)))
  (obO (0 ≤ v0 ∧ v0 < (↑b3.sub.length : Int))
   (obO ((2 : Nat) * (Rel.ids (b3.sub.getD v0.toNat zeroRel)).ht < m)
    (obO (inOK (IntKind.i64.wrap (depth + 1)) (Rel.ids (b3.sub.getD v0.toNat zeroRel)).sz)
     (obO ((v1.length + [(Rel.mk (r21_Move_c1 depth at_ b3 v0).op (r21_Move_c1 depth at_ b3 v0).table (r21_Move_c1 depth at_ b3 v0).cols (r21_Move_c1 depth at_ b3 v0).kids (r21_Move_c1 depth at_ b3 v0).terms (r21_Move_c1 depth at_ b3 v0).aggs (r21_Move_c1 depth at_ b3 v0).keys (r21_Move_c1 depth at_ b3 v0).limit (r21_Move_c1 depth at_ b3 v0).skip (r21_Move_c1 depth at_ b3 v0).all (r21_Move_c1 depth at_ b3 v0).rows)].length) * (192 : Nat) ≤ roomB)
      (r21_Move_L6 m (r21_Move_s6 depth at_ b3 (IntKind.i64.wrap (v0 + 1)) (v1 ++ [(Rel.mk (r21_Move_c1 depth at_ b3 v0).op (r21_Move_c1 depth at_ b3 v0).table (r21_Move_c1 depth at_ b3 v0).cols (r21_Move_c1 depth at_ b3 v0).kids (r21_Move_c1 depth at_ b3 v0).terms (r21_Move_c1 depth at_ b3 v0).aggs (r21_Move_c1 depth at_ b3 v0).keys (r21_Move_c1 depth at_ b3 v0).limit (r21_Move_c1 depth at_ b3 v0).skip (r21_Move_c1 depth at_ b3 v0).all (r21_Move_c1 depth at_ b3 v0).rows)])))))))
  (some (.exit 0, (r21_Move_s6 depth at_ b3 v0 v1))) := (loopF_eq (N_r21_Move 6) r21_Move_B6 _).trans (by kernel_rfl)
theorem r21_Move_a6_x0 (m : Nat) (depth : Int) (at_ : List Int) (b3 : Term) (v0 : Int) (v1 : List Rel) : r21_Move_C6 m (.exit 0) (r21_Move_s6 depth at_ b3 v0 v1) =
 some (R_r21_Move (Term.mk b3.op b3.v b3.depth b3.at_ b3.name b3.kids v1 b3.type)) := by kernel_rfl
theorem r21_Move_end (m : Nat) (b3 : Term) (depth : Int) (at_ : List Int) (hl : b3.sub.length ≤ 2000000) (hd : -2000000 ≤ depth ∧ depth ≤ 10000000) (hs : depth + 1 + szRs b3.sub ≤ 10000000 ∧ szRs b3.sub ≤ 2000000) (hh : 2 * htRs b3.sub < m) :
    (r21_Move_L6 m (r21_Move_s6 depth at_ b3 (0 : Int) ([]))).bind (thenX (r21_Move_C6 m)) = some (R_r21_Move (Term.mk b3.op b3.v b3.depth b3.at_ b3.name b3.kids (mapRs (mvP at_) (depth + 1) b3.sub) b3.type)) := by
  have hw : IntKind.i64.wrap (depth + 1) = depth + 1 := wrap_id (by omega)
  have l6 := (loop_fold (e := .exit 0) (L := r21_Move_L6 m) (st := fun o i => r21_Move_s6 depth at_ b3 i o) (l := b3.sub) (d := zeroRel) (g := fun o x => o ++ [mapR (mvP at_) (depth + 1) x]) (fun i o => o.length = i) (by omega)
    (fun o i x hi hx hI => by
      have hil : i < b3.sub.length := by omega
      have hI' : o.length = i := hI
      have hmem : x ∈ b3.sub := by rw [← hx]; exact getD_mem hil
      have hsz := szRs_mem hmem
      have hht := htRs_mem hmem
      refine ⟨by show (o ++ [mapR (mvP at_) (depth + 1) x]).length = i + 1; rw [List.length_append, List.length_singleton]; omega, ?_⟩
      rw [r21_Move_l6]
      simp only [r21_Move_c1, rel_eta, Rel.ids_eq, cndO_eq, hi, decide_true, if_true, and_true, Int.toNat_natCast, hx, hw, r21_moveRel]
      rw [obO_pos (by omega), obO_pos (by omega), obO_pos (show inOK _ _ from ⟨by omega, by omega, by omega⟩), obO_pos (by unfold roomB; rw [List.length_singleton]; omega)])
    (fun o _ => by rw [r21_Move_l6]; simp [cndO_eq]) [] rfl).1
  rw [foldl_snoc, List.nil_append] at l6
  rw [loop_end l6, r21_Move_a6_x0, mapRs_map]
theorem r21_Move_spec (m : Nat) (t : Term) (depth : Int) (at_ : List Int) (_ht : WS .term t) (_hd : WI depth) (_ha : WL .int at_) (hm : 2 * t.ht < m + 1) (h : inOK depth t.sz) : r21_Move_fn m t depth at_ = some (R_r21_Move (r21_Move t depth at_)) := by
  obtain ⟨h1, h2, h3⟩ := h
  have hsz := t.sz_eq
  have hk : htTs t.kids < t.ht ∧ htRs t.sub < t.ht := by cases t; simp only [Term.ht, Term.kids_mk, Term.sub_mk]; omega
  have hsl := szRs_len t.sub
  have key : ∀ n : Int, (r21_Move_L6 m (r21_Move_s6 depth at_ (Term.mk t.op t.v t.depth n t.name (r21_moves t.kids depth at_) t.sub t.type) (0 : Int) ([]))).bind (thenX (r21_Move_C6 m)) = some (R_r21_Move (.mk t.op t.v t.depth n t.name (mapTs (mvP at_) depth t.kids) (mapRs (mvP at_) (depth + 1) t.sub) t.type)) := by
    intro n
    rw [r21_Move_end m _ depth at_ (by rw [Term.sub_mk]; omega) (by omega) (by rw [Term.sub_mk]; omega) (by rw [Term.sub_mk]; omega)]
    simp only [Term.op_mk, Term.v_mk, Term.depth_mk, Term.at__mk, Term.name_mk, Term.kids_mk, Term.sub_mk, Term.type_mk, r21_moves]
  have kt : r21_Move_t1 m t depth at_ = some (R_r21_Move (.mk t.op t.v t.depth t.at_ t.name (mapTs (mvP at_) depth t.kids) (mapRs (mvP at_) (depth + 1) t.sub) t.type)) := by
    unfold r21_Move_t1
    rw [obO_pos (by omega), obO_pos (show inOK _ _ from ⟨h1, by omega, by omega⟩), key]
  rw [r21_Move_in, kt]
  simp only [cndO_eq, beq_iff_eq, decide_eq_true_eq]
  unfold r21_Move
  rw [mapT_eq]
  by_cases e1 : t.op = 2
  · rw [if_pos e1, if_pos e1]
    unfold mvP
    simp only [setAt, Term.at__mk]
    by_cases e2 : t.depth = depth
    · rw [if_pos e2, if_pos e2]
      unfold move1
      by_cases e3 : t.at_ ≥ 0
      · by_cases e4 : t.at_ < (at_.length : Int)
        · rw [if_pos e3, if_pos e4, if_pos (show 0 ≤ t.at_ ∧ t.at_ < (at_.length : Int) from ⟨e3, e4⟩), obO_pos ⟨e3, e4⟩, obO_pos (by omega), obO_pos (show inOK _ _ from ⟨h1, by omega, by omega⟩), key]
          rfl
        · rw [if_pos e3, if_neg e4, if_neg (fun e => e4 e.2)]
      · rw [if_neg e3, if_neg (fun e => e3 e.1)]
    · rw [if_neg e2, if_neg e2]
  · rw [if_neg e1, if_neg e1]
theorem okm_r21_Move (m : Nat) (h_r21_moveRel : FnOK 120 (Fm_r21_moveRel m)) (h_r21_moves : FnOK 119 (Fm_r21_moves m)) (h_r21_Move : FnOK 51 (Fm_r21_Move m)) : FnOK 51 (Fm_r21_Move (m + 1)) := by
  intro args ob rs os h hob
  unfold Fm_r21_Move at h
  split at h
  · simp only [Option.bind_eq_some_iff, Option.some.injEq, Prod.mk.injEq] at h
    obtain ⟨t, e0, depth, e1, at_, e2, rfl, rfl, rfl⟩ := h
    obtain rfl := dS_eq e0
    obtain rfl := dI_eq e1
    obtain rfl := dL_eq e2
    exact ⟨fn_contractF (M := (M_r21_Move m)) rfl (tbl_ok (l1 := [(119, Fm_r21_moves m), (120, Fm_r21_moveRel m)]) (l2 := []) (l3 := []) (l4 := []) (l5 := []) ⟨h_r21_moves, h_r21_moveRel, trivial⟩ trivial trivial trivial trivial) Tryz.func51 (by kernel_rfl) N_r21_Move 1 [.d] (fun hwf => (r21_Move_spec m t depth at_ (wfArg hwf (a := .d (.agg (enc Ty.term t))) (List.mem_of_getElem? (i := 0) rfl)) (wfArg hwf (a := .d (.v (.s (.int .i64 depth)))) (List.mem_of_getElem? (i := 1) rfl)) (wfArg hwf (a := .d (.v (.dat (U := Un) Ty.int at_))) (List.mem_of_getElem? (i := 2) rfl)) (hob _ (List.mem_of_getElem? (i := 0) rfl)) (hob _ (List.mem_of_getElem? (i := 1) rfl)))), hasBody_of Tryz.func51 (by kernel_rfl) (by kernel_rfl)⟩
  · simp at h
theorem okAll_r21moveG : ∀ m, FnOK 120 (Fm_r21_moveRel m) ∧ FnOK 119 (Fm_r21_moves m) ∧ FnOK 51 (Fm_r21_Move m)
  | 0 => by
    refine ⟨?_, ?_, ?_⟩
    · intro args ob rs os h hob
      unfold Fm_r21_moveRel at h
      split at h
      · simp only [Option.bind_eq_some_iff, Option.some.injEq, Prod.mk.injEq] at h
        obtain ⟨_, _, _, _, _, _, rfl, _, _⟩ := h
        exact absurd (hob _ (List.mem_of_getElem? (i := 0) rfl)) (Nat.not_lt_zero _)
      · simp at h
    · intro args ob rs os h hob
      unfold Fm_r21_moves at h
      split at h
      · simp only [Option.bind_eq_some_iff, Option.some.injEq, Prod.mk.injEq] at h
        obtain ⟨_, _, _, _, _, _, rfl, _, _⟩ := h
        exact absurd (hob _ (List.mem_of_getElem? (i := 0) rfl)) (Nat.not_lt_zero _)
      · simp at h
    · intro args ob rs os h hob
      unfold Fm_r21_Move at h
      split at h
      · simp only [Option.bind_eq_some_iff, Option.some.injEq, Prod.mk.injEq] at h
        obtain ⟨_, _, _, _, _, _, rfl, _, _⟩ := h
        exact absurd (hob _ (List.mem_of_getElem? (i := 0) rfl)) (Nat.not_lt_zero _)
      · simp at h
  | m + 1 => by
    have ih := okAll_r21moveG m
    exact ⟨okm_r21_moveRel m ih.1 ih.2.1 ih.2.2, okm_r21_moves m ih.1 ih.2.1 ih.2.2, okm_r21_Move m ih.1 ih.2.1 ih.2.2⟩
def F_r21_Move : FnC Un := fun args => match args with
  | [x0, x1, x2] => (dS .term x0).bind fun t => (dI .i64 x1).bind fun depth => (dL .int x2).bind fun at_ => some ([inOK depth t.sz], A_r21_Move (r21_Move t depth at_), O_r21_Move (r21_Move t depth at_))
  | _ => none
theorem ok_r21_Move : FnOK 51 F_r21_Move := by
  intro args ob rs os h hob
  unfold F_r21_Move at h
  split at h
  · simp only [Option.bind_eq_some_iff, Option.some.injEq, Prod.mk.injEq] at h
    obtain ⟨t, e0, depth, e1, at_, e2, rfl, rfl, rfl⟩ := h
    refine ((okAll_r21moveG (2 * t.ht + 1)).2.2) _ [2 * t.ht < 2 * t.ht + 1, inOK depth t.sz] _ _ (?_ : Fm_r21_Move (2 * t.ht + 1) _ = some _) ?_
    · unfold Fm_r21_Move
      simp only [e0, e1, e2, Option.bind_some]
    · intro p hp
      simp only [List.mem_cons, List.not_mem_nil, or_false] at hp
      rcases hp with rfl | rfl
      · exact Nat.lt_succ_self _
      · exact hob _ (List.mem_of_getElem? (i := 0) rfl)
  · simp at h
end
end Go.Proofs.YtmpnompddfhkeaaGreat.B
namespace Go.Proofs.YtmpnompddfhkeaaGreat.B
open Go Go.RowKit
set_option maxRecDepth 100000
noncomputable section
attribute [local irreducible] awp ctxK itersK iterK retQ retGQ awf ctxF loopF
def M_idxf_term : Mc Un := mach (tbl []) (tbl []) (tbl []) (tbl []) (tbl [])
def A_idxf_term (r : Int) : List (A Un) := [.c (.s (.int .i64 r))]
def O_idxf_term (_r : Int) : List (Ob Un) := []
def R_idxf_term (r : Int) : RF Un := (A_idxf_term r, O_idxf_term r)
def N_idxf_term : Nat → NS := fun l => (look l [(2, { ts := bl 19 403, bs := bl 19 0, nm := [] })]).getD ⟨[], [], [], [], []⟩
def idxf_term_s2 (s : List Term) (f_o : Term → Prop) (f : Term → Bool) (v0 : Int) : S Un := (st 19 19 76 0 [(0, al .term s), (1, AV.one (A.c (C.fv (fvo_S_term_to_b f_o f)))), (4, ai (0 : Int)), (7, ai (↑s.length : Int)), (8, ai v0)] [] [])
def idxf_term_e2_ret (s : List Term) (f_o : Term → Prop) (f : Term → Bool) (v0 : Int) (v1 : Int) : S Un := (st 19 19 76 0 [(0, al .term s), (1, AV.one (A.c (C.fv (fvo_S_term_to_b f_o f)))), (4, ai v1), (7, ai (↑s.length : Int)), (8, ai v0)] [] [])
def idxf_term_B2 : Code := sub (bodyOf Tryz.f146) [1, 0, 1, 2, 2]
def idxf_term_L2 : S Un → Option (EX Un) := loopF (N_idxf_term 2) (fun s Q => awf M_idxf_term N_idxf_term idxf_term_B2 s Q)
def idxf_term_C2 : Exit → S Un → Option (RF Un) := ctxF M_idxf_term N_idxf_term (bodyOf Tryz.f146) [1, 0, 1, 2] (retF M_idxf_term Tryz.f146.results.toList [.d])
def idxf_term_fn (s : List Term) (f_o : Term → Prop) (f : Term → Bool) : Option (RF Un) := awf M_idxf_term N_idxf_term (bodyOf Tryz.f146) (entry Tryz.f146.ntmps 0 [.d (.v (.dat (U := Un) Ty.term s)), .fn (fvo_S_term_to_b f_o f)]) (retF M_idxf_term Tryz.f146.results.toList [.d])
theorem idxf_term_in (s : List Term) (f_o : Term → Prop) (f : Term → Bool) : idxf_term_fn s f_o f =
 (idxf_term_L2 (idxf_term_s2 s f_o f (0 : Int))).bind (thenX idxf_term_C2) := by kernel_rfl
theorem idxf_term_l2 (s : List Term) (f_o : Term → Prop) (f : Term → Bool) (v0 : Int) : idxf_term_L2 (idxf_term_s2 s f_o f v0) =
 cndO (decide (v0 < (↑s.length : Int)))
  (obO (0 ≤ v0 ∧ v0 < (↑s.length : Int))
   (obO (f_o (Term.ids (s.getD v0.toNat zeroTerm)))
    (cndO (f (Term.ids (s.getD v0.toNat zeroTerm)))
     (some (.ret, (idxf_term_e2_ret s f_o f v0 v0)))
     (idxf_term_L2 (idxf_term_s2 s f_o f (IntKind.i64.wrap (v0 + 1)))))))
  (some (.exit 0, (idxf_term_s2 s f_o f v0))) := (loopF_eq (N_idxf_term 2) idxf_term_B2 _).trans (by kernel_rfl)
theorem idxf_term_a2_ret (s : List Term) (f_o : Term → Prop) (f : Term → Bool) (v0 : Int) (v1 : Int) : idxf_term_C2 .ret (idxf_term_e2_ret s f_o f v0 v1) =
 some (R_idxf_term (v1)) := by kernel_rfl
theorem idxf_term_a2_x0 (s : List Term) (f_o : Term → Prop) (f : Term → Bool) (v0 : Int) : idxf_term_C2 (.exit 0) (idxf_term_s2 s f_o f v0) =
 some (R_idxf_term ((-1 : Int))) := by kernel_rfl
def allO_term (o : Term → Prop) (s : List Term) : Prop := ∀ x ∈ s, o x
def idxf_term (s : List Term) (_o : Term → Prop) (f : Term → Bool) : Int := match s.findIdx? f with | some i => (i : Int) | none => -1
theorem idxf_term_nonneg (s : List Term) (o : Term → Prop) (f : Term → Bool) : 0 ≤ idxf_term s o f ↔ s.any f = true := by
  unfold idxf_term
  cases h : s.findIdx? f with
  | none =>
    have := List.findIdx?_eq_none_iff.1 h
    simp only [List.any_eq_true]
    constructor
    · intro h1; exact absurd h1 (by decide)
    · rintro ⟨x, hx, hf⟩; rw [this x hx] at hf; simp at hf
  | some i =>
    obtain ⟨h1, h2, _⟩ := List.findIdx?_eq_some_iff_getElem.1 h
    simp only [List.any_eq_true]
    exact ⟨fun _ => ⟨s[i], List.getElem_mem h1, h2⟩, fun _ => by omega⟩
theorem idxf_term_spec (s : List Term) (o : Term → Prop) (f : Term → Bool) (hs : WL .term s) (ho : allO_term o s) : idxf_term_fn s o f = some (R_idxf_term (idxf_term s o f)) := by
  have key : ∀ (r : List Term) (i : Nat), s.drop i = r → i ≤ s.length → (idxf_term_L2 (idxf_term_s2 s o f i)).bind (thenX idxf_term_C2) = some (R_idxf_term (match r.findIdx? f with | some k => ((i + k : Nat) : Int) | none => -1)) := by
    intro r
    induction r with
    | nil =>
      intro i hr hi
      have : s.length ≤ i := by rw [← List.drop_eq_nil_iff]; exact hr
      have e : idxf_term_L2 (idxf_term_s2 s o f i) = some (.exit 0, idxf_term_s2 s o f i) := by rw [idxf_term_l2, cndO_eq, if_neg (by simp; omega)]
      rw [loop_end e, idxf_term_a2_x0]; rfl
    | cons x r ih =>
      intro i hr hi
      obtain ⟨a1, a2, a3, hm⟩ := drop_cons hr
      have hx : s.getD i zeroTerm = x := a2 zeroTerm
      by_cases hf : f x = true
      · have e : idxf_term_L2 (idxf_term_s2 s o f i) = some (.ret, idxf_term_e2_ret s o f i i) := by
          rw [idxf_term_l2, cndO_eq, if_pos (by simp; omega), obO_pos (by omega), Int.toNat_natCast, hx, Term.ids_eq, obO_pos (ho x hm), cndO_eq, if_pos hf]
        rw [loop_end e, idxf_term_a2_ret]
        simp [List.findIdx?_cons, hf]
      · have e : idxf_term_L2 (idxf_term_s2 s o f i) = idxf_term_L2 (idxf_term_s2 s o f ((i + 1 : Nat) : Int)) := by
          rw [idxf_term_l2, cndO_eq, if_pos (by simp; omega), obO_pos (by omega), Int.toNat_natCast, hx, Term.ids_eq, obO_pos (ho x hm), cndO_eq, if_neg hf, wrap_next a1 hs.len]
        rw [e, ih (i + 1) a3 (by omega)]
        congr 2
        simp only [List.findIdx?_cons, hf]
        cases r.findIdx? f with
        | none => rfl
        | some k => simp; omega
  rw [idxf_term_in]
  have := key s 0 rfl (Nat.zero_le _)
  refine Eq.trans this ?_
  unfold idxf_term
  cases s.findIdx? f <;> simp
def F_idxf_term : FnC Un := fun args => match args with
  | [x0, x1] => (dL .term x0).bind fun s => (dF x1).bind fun f => some ([f = (fvo_S_term_to_b (po_S_term_to_b f) (pf_S_term_to_b f)), allO_term (po_S_term_to_b f) s], A_idxf_term (idxf_term s (po_S_term_to_b f) (pf_S_term_to_b f)), O_idxf_term (idxf_term s (po_S_term_to_b f) (pf_S_term_to_b f)))
  | _ => none
theorem ok_idxf_term : FnOK 146 F_idxf_term := by
  intro args ob rs os h hob
  unfold F_idxf_term at h
  split at h
  · simp only [Option.bind_eq_some_iff, Option.some.injEq, Prod.mk.injEq] at h
    obtain ⟨s, e0, f, e1, rfl, rfl, rfl⟩ := h
    obtain rfl := dL_eq e0
    obtain rfl := dF_eq e1
    have hfv0 := hob _ (List.mem_of_getElem? (i := 0) rfl)
    generalize pf_S_term_to_b f = pp0 at *
    generalize po_S_term_to_b f = qq0 at *
    subst hfv0
    exact ⟨fn_contractF (M := M_idxf_term) rfl (tbl_ok (l1 := []) (l2 := []) (l3 := []) (l4 := []) (l5 := []) trivial trivial trivial trivial trivial) Tryz.func146 (by kernel_rfl) N_idxf_term 0 [.d] (fun hwf => (idxf_term_spec s qq0 pp0 (wfArg hwf (a := .d (.v (.dat (U := Un) Ty.term s))) (List.mem_of_getElem? (i := 0) rfl)) (hob _ (List.mem_of_getElem? (i := 1) rfl)))), hasBody_of Tryz.func146 (by kernel_rfl) (by kernel_rfl)⟩
  · simp at h
def M_conf_term : Mc Un := mach (tbl [(146, F_idxf_term)]) (tbl []) (tbl []) (tbl []) (tbl [])
def A_conf_term (r : Bool) : List (A Un) := [.c (.s (.bool r))]
def O_conf_term (_r : Bool) : List (Ob Un) := []
def R_conf_term (r : Bool) : RF Un := (A_conf_term r, O_conf_term r)
def N_conf_term : Nat → NS := fun l => (look l []).getD ⟨[], [], [], [], []⟩
def conf_term_fn (s : List Term) (f_o : Term → Prop) (f : Term → Bool) : Option (RF Un) := awf M_conf_term N_conf_term (bodyOf Tryz.f97) (entry Tryz.f97.ntmps 0 [.d (.v (.dat (U := Un) Ty.term s)), .fn (fvo_S_term_to_b f_o f)]) (retF M_conf_term Tryz.f97.results.toList [.d])
theorem conf_term_in (s : List Term) (f_o : Term → Prop) (f : Term → Bool) : conf_term_fn s f_o f =
 obO (fvo_S_term_to_b f_o f = fvo_S_term_to_b (po_S_term_to_b (fvo_S_term_to_b f_o f)) (pf_S_term_to_b (fvo_S_term_to_b f_o f)))
  (obO (allO_term (po_S_term_to_b (fvo_S_term_to_b f_o f)) s)
   (some (R_conf_term (decide (idxf_term s (po_S_term_to_b (fvo_S_term_to_b f_o f)) (pf_S_term_to_b (fvo_S_term_to_b f_o f)) ≥ 0))))) := by kernel_rfl
def conf_term (s : List Term) (_o : Term → Prop) (f : Term → Bool) : Bool := s.any f
theorem conf_term_spec (s : List Term) (o : Term → Prop) (f : Term → Bool) (_hs : WL .term s) (ho : allO_term o s) : conf_term_fn s o f = some (R_conf_term (conf_term s o f)) := by
  rw [conf_term_in]
  simp only [pofvo_S_term_to_b, pffvo_S_term_to_b]
  rw [obO_pos trivial, obO_pos ho]
  unfold conf_term
  congr 2
  have := idxf_term_nonneg s o f
  cases h : s.any f with
  | true => simp; exact this.2 h
  | false =>
    have : ¬ 0 ≤ idxf_term s o f := fun e => by rw [this.1 e] at h; simp at h
    simpa using this
def F_conf_term : FnC Un := fun args => match args with
  | [x0, x1] => (dL .term x0).bind fun s => (dF x1).bind fun f => some ([f = (fvo_S_term_to_b (po_S_term_to_b f) (pf_S_term_to_b f)), allO_term (po_S_term_to_b f) s], A_conf_term (conf_term s (po_S_term_to_b f) (pf_S_term_to_b f)), O_conf_term (conf_term s (po_S_term_to_b f) (pf_S_term_to_b f)))
  | _ => none
theorem ok_conf_term : FnOK 97 F_conf_term := by
  intro args ob rs os h hob
  unfold F_conf_term at h
  split at h
  · simp only [Option.bind_eq_some_iff, Option.some.injEq, Prod.mk.injEq] at h
    obtain ⟨s, e0, f, e1, rfl, rfl, rfl⟩ := h
    obtain rfl := dL_eq e0
    obtain rfl := dF_eq e1
    have hfv0 := hob _ (List.mem_of_getElem? (i := 0) rfl)
    generalize pf_S_term_to_b f = pp0 at *
    generalize po_S_term_to_b f = qq0 at *
    subst hfv0
    exact ⟨fn_contractF (M := M_conf_term) rfl (tbl_ok (l1 := [(146, F_idxf_term)]) (l2 := []) (l3 := []) (l4 := []) (l5 := []) ⟨ok_idxf_term, trivial⟩ trivial trivial trivial trivial) Tryz.func97 (by kernel_rfl) N_conf_term 0 [.d] (fun hwf => (conf_term_spec s qq0 pp0 (wfArg hwf (a := .d (.v (.dat (U := Un) Ty.term s))) (List.mem_of_getElem? (i := 0) rfl)) (hob _ (List.mem_of_getElem? (i := 1) rfl)))), hasBody_of Tryz.func97 (by kernel_rfl) (by kernel_rfl)⟩
  · simp at h
end
end Go.Proofs.YtmpnompddfhkeaaGreat.B
namespace Go.Proofs.YtmpnompddfhkeaaGreat.B
open Go Go.RowKit
set_option maxRecDepth 100000
noncomputable section
attribute [local irreducible] awp ctxK itersK iterK retQ retGQ awf ctxF loopF
def M_idxf_rel : Mc Un := mach (tbl []) (tbl []) (tbl []) (tbl []) (tbl [])
def A_idxf_rel (r : Int) : List (A Un) := [.c (.s (.int .i64 r))]
def O_idxf_rel (_r : Int) : List (Ob Un) := []
def R_idxf_rel (r : Int) : RF Un := (A_idxf_rel r, O_idxf_rel r)
def N_idxf_rel : Nat → NS := fun l => (look l [(2, { ts := bl 19 403, bs := bl 19 0, nm := [] })]).getD ⟨[], [], [], [], []⟩
def idxf_rel_s2 (s : List Rel) (f_o : Rel → Prop) (f : Rel → Bool) (v0 : Int) : S Un := (st 19 19 76 0 [(0, al .rel s), (1, AV.one (A.c (C.fv (fvo_S_rel_to_b f_o f)))), (4, ai (0 : Int)), (7, ai (↑s.length : Int)), (8, ai v0)] [] [])
def idxf_rel_e2_ret (s : List Rel) (f_o : Rel → Prop) (f : Rel → Bool) (v0 : Int) (v1 : Int) : S Un := (st 19 19 76 0 [(0, al .rel s), (1, AV.one (A.c (C.fv (fvo_S_rel_to_b f_o f)))), (4, ai v1), (7, ai (↑s.length : Int)), (8, ai v0)] [] [])
def idxf_rel_B2 : Code := sub (bodyOf Tryz.f145) [1, 0, 1, 2, 2]
def idxf_rel_L2 : S Un → Option (EX Un) := loopF (N_idxf_rel 2) (fun s Q => awf M_idxf_rel N_idxf_rel idxf_rel_B2 s Q)
def idxf_rel_C2 : Exit → S Un → Option (RF Un) := ctxF M_idxf_rel N_idxf_rel (bodyOf Tryz.f145) [1, 0, 1, 2] (retF M_idxf_rel Tryz.f145.results.toList [.d])
def idxf_rel_fn (s : List Rel) (f_o : Rel → Prop) (f : Rel → Bool) : Option (RF Un) := awf M_idxf_rel N_idxf_rel (bodyOf Tryz.f145) (entry Tryz.f145.ntmps 0 [.d (.v (.dat (U := Un) Ty.rel s)), .fn (fvo_S_rel_to_b f_o f)]) (retF M_idxf_rel Tryz.f145.results.toList [.d])
theorem idxf_rel_in (s : List Rel) (f_o : Rel → Prop) (f : Rel → Bool) : idxf_rel_fn s f_o f =
 (idxf_rel_L2 (idxf_rel_s2 s f_o f (0 : Int))).bind (thenX idxf_rel_C2) := by kernel_rfl
theorem idxf_rel_l2 (s : List Rel) (f_o : Rel → Prop) (f : Rel → Bool) (v0 : Int) : idxf_rel_L2 (idxf_rel_s2 s f_o f v0) =
 cndO (decide (v0 < (↑s.length : Int)))
  (obO (0 ≤ v0 ∧ v0 < (↑s.length : Int))
   (obO (f_o (Rel.ids (s.getD v0.toNat zeroRel)))
    (cndO (f (Rel.ids (s.getD v0.toNat zeroRel)))
     (some (.ret, (idxf_rel_e2_ret s f_o f v0 v0)))
     (idxf_rel_L2 (idxf_rel_s2 s f_o f (IntKind.i64.wrap (v0 + 1)))))))
  (some (.exit 0, (idxf_rel_s2 s f_o f v0))) := (loopF_eq (N_idxf_rel 2) idxf_rel_B2 _).trans (by kernel_rfl)
theorem idxf_rel_a2_ret (s : List Rel) (f_o : Rel → Prop) (f : Rel → Bool) (v0 : Int) (v1 : Int) : idxf_rel_C2 .ret (idxf_rel_e2_ret s f_o f v0 v1) =
 some (R_idxf_rel (v1)) := by kernel_rfl
theorem idxf_rel_a2_x0 (s : List Rel) (f_o : Rel → Prop) (f : Rel → Bool) (v0 : Int) : idxf_rel_C2 (.exit 0) (idxf_rel_s2 s f_o f v0) =
 some (R_idxf_rel ((-1 : Int))) := by kernel_rfl
def allO_rel (o : Rel → Prop) (s : List Rel) : Prop := ∀ x ∈ s, o x
def idxf_rel (s : List Rel) (_o : Rel → Prop) (f : Rel → Bool) : Int := match s.findIdx? f with | some i => (i : Int) | none => -1
theorem idxf_rel_nonneg (s : List Rel) (o : Rel → Prop) (f : Rel → Bool) : 0 ≤ idxf_rel s o f ↔ s.any f = true := by
  unfold idxf_rel
  cases h : s.findIdx? f with
  | none =>
    have := List.findIdx?_eq_none_iff.1 h
    simp only [List.any_eq_true]
    constructor
    · intro h1; exact absurd h1 (by decide)
    · rintro ⟨x, hx, hf⟩; rw [this x hx] at hf; simp at hf
  | some i =>
    obtain ⟨h1, h2, _⟩ := List.findIdx?_eq_some_iff_getElem.1 h
    simp only [List.any_eq_true]
    exact ⟨fun _ => ⟨s[i], List.getElem_mem h1, h2⟩, fun _ => by omega⟩
theorem idxf_rel_spec (s : List Rel) (o : Rel → Prop) (f : Rel → Bool) (hs : WL .rel s) (ho : allO_rel o s) : idxf_rel_fn s o f = some (R_idxf_rel (idxf_rel s o f)) := by
  have key : ∀ (r : List Rel) (i : Nat), s.drop i = r → i ≤ s.length → (idxf_rel_L2 (idxf_rel_s2 s o f i)).bind (thenX idxf_rel_C2) = some (R_idxf_rel (match r.findIdx? f with | some k => ((i + k : Nat) : Int) | none => -1)) := by
    intro r
    induction r with
    | nil =>
      intro i hr hi
      have : s.length ≤ i := by rw [← List.drop_eq_nil_iff]; exact hr
      have e : idxf_rel_L2 (idxf_rel_s2 s o f i) = some (.exit 0, idxf_rel_s2 s o f i) := by rw [idxf_rel_l2, cndO_eq, if_neg (by simp; omega)]
      rw [loop_end e, idxf_rel_a2_x0]; rfl
    | cons x r ih =>
      intro i hr hi
      obtain ⟨a1, a2, a3, hm⟩ := drop_cons hr
      have hx : s.getD i zeroRel = x := a2 zeroRel
      by_cases hf : f x = true
      · have e : idxf_rel_L2 (idxf_rel_s2 s o f i) = some (.ret, idxf_rel_e2_ret s o f i i) := by
          rw [idxf_rel_l2, cndO_eq, if_pos (by simp; omega), obO_pos (by omega), Int.toNat_natCast, hx, Rel.ids_eq, obO_pos (ho x hm), cndO_eq, if_pos hf]
        rw [loop_end e, idxf_rel_a2_ret]
        simp [List.findIdx?_cons, hf]
      · have e : idxf_rel_L2 (idxf_rel_s2 s o f i) = idxf_rel_L2 (idxf_rel_s2 s o f ((i + 1 : Nat) : Int)) := by
          rw [idxf_rel_l2, cndO_eq, if_pos (by simp; omega), obO_pos (by omega), Int.toNat_natCast, hx, Rel.ids_eq, obO_pos (ho x hm), cndO_eq, if_neg hf, wrap_next a1 hs.len]
        rw [e, ih (i + 1) a3 (by omega)]
        congr 2
        simp only [List.findIdx?_cons, hf]
        cases r.findIdx? f with
        | none => rfl
        | some k => simp; omega
  rw [idxf_rel_in]
  have := key s 0 rfl (Nat.zero_le _)
  refine Eq.trans this ?_
  unfold idxf_rel
  cases s.findIdx? f <;> simp
def F_idxf_rel : FnC Un := fun args => match args with
  | [x0, x1] => (dL .rel x0).bind fun s => (dF x1).bind fun f => some ([f = (fvo_S_rel_to_b (po_S_rel_to_b f) (pf_S_rel_to_b f)), allO_rel (po_S_rel_to_b f) s], A_idxf_rel (idxf_rel s (po_S_rel_to_b f) (pf_S_rel_to_b f)), O_idxf_rel (idxf_rel s (po_S_rel_to_b f) (pf_S_rel_to_b f)))
  | _ => none
theorem ok_idxf_rel : FnOK 145 F_idxf_rel := by
  intro args ob rs os h hob
  unfold F_idxf_rel at h
  split at h
  · simp only [Option.bind_eq_some_iff, Option.some.injEq, Prod.mk.injEq] at h
    obtain ⟨s, e0, f, e1, rfl, rfl, rfl⟩ := h
    obtain rfl := dL_eq e0
    obtain rfl := dF_eq e1
    have hfv0 := hob _ (List.mem_of_getElem? (i := 0) rfl)
    generalize pf_S_rel_to_b f = pp0 at *
    generalize po_S_rel_to_b f = qq0 at *
    subst hfv0
    exact ⟨fn_contractF (M := M_idxf_rel) rfl (tbl_ok (l1 := []) (l2 := []) (l3 := []) (l4 := []) (l5 := []) trivial trivial trivial trivial trivial) Tryz.func145 (by kernel_rfl) N_idxf_rel 0 [.d] (fun hwf => (idxf_rel_spec s qq0 pp0 (wfArg hwf (a := .d (.v (.dat (U := Un) Ty.rel s))) (List.mem_of_getElem? (i := 0) rfl)) (hob _ (List.mem_of_getElem? (i := 1) rfl)))), hasBody_of Tryz.func145 (by kernel_rfl) (by kernel_rfl)⟩
  · simp at h
def M_conf_rel : Mc Un := mach (tbl [(145, F_idxf_rel)]) (tbl []) (tbl []) (tbl []) (tbl [])
def A_conf_rel (r : Bool) : List (A Un) := [.c (.s (.bool r))]
def O_conf_rel (_r : Bool) : List (Ob Un) := []
def R_conf_rel (r : Bool) : RF Un := (A_conf_rel r, O_conf_rel r)
def N_conf_rel : Nat → NS := fun l => (look l []).getD ⟨[], [], [], [], []⟩
def conf_rel_fn (s : List Rel) (f_o : Rel → Prop) (f : Rel → Bool) : Option (RF Un) := awf M_conf_rel N_conf_rel (bodyOf Tryz.f95) (entry Tryz.f95.ntmps 0 [.d (.v (.dat (U := Un) Ty.rel s)), .fn (fvo_S_rel_to_b f_o f)]) (retF M_conf_rel Tryz.f95.results.toList [.d])
theorem conf_rel_in (s : List Rel) (f_o : Rel → Prop) (f : Rel → Bool) : conf_rel_fn s f_o f =
 obO (fvo_S_rel_to_b f_o f = fvo_S_rel_to_b (po_S_rel_to_b (fvo_S_rel_to_b f_o f)) (pf_S_rel_to_b (fvo_S_rel_to_b f_o f)))
  (obO (allO_rel (po_S_rel_to_b (fvo_S_rel_to_b f_o f)) s)
   (some (R_conf_rel (decide (idxf_rel s (po_S_rel_to_b (fvo_S_rel_to_b f_o f)) (pf_S_rel_to_b (fvo_S_rel_to_b f_o f)) ≥ 0))))) := by kernel_rfl
def conf_rel (s : List Rel) (_o : Rel → Prop) (f : Rel → Bool) : Bool := s.any f
theorem conf_rel_spec (s : List Rel) (o : Rel → Prop) (f : Rel → Bool) (_hs : WL .rel s) (ho : allO_rel o s) : conf_rel_fn s o f = some (R_conf_rel (conf_rel s o f)) := by
  rw [conf_rel_in]
  simp only [pofvo_S_rel_to_b, pffvo_S_rel_to_b]
  rw [obO_pos trivial, obO_pos ho]
  unfold conf_rel
  congr 2
  have := idxf_rel_nonneg s o f
  cases h : s.any f with
  | true => simp; exact this.2 h
  | false =>
    have : ¬ 0 ≤ idxf_rel s o f := fun e => by rw [this.1 e] at h; simp at h
    simpa using this
def F_conf_rel : FnC Un := fun args => match args with
  | [x0, x1] => (dL .rel x0).bind fun s => (dF x1).bind fun f => some ([f = (fvo_S_rel_to_b (po_S_rel_to_b f) (pf_S_rel_to_b f)), allO_rel (po_S_rel_to_b f) s], A_conf_rel (conf_rel s (po_S_rel_to_b f) (pf_S_rel_to_b f)), O_conf_rel (conf_rel s (po_S_rel_to_b f) (pf_S_rel_to_b f)))
  | _ => none
theorem ok_conf_rel : FnOK 95 F_conf_rel := by
  intro args ob rs os h hob
  unfold F_conf_rel at h
  split at h
  · simp only [Option.bind_eq_some_iff, Option.some.injEq, Prod.mk.injEq] at h
    obtain ⟨s, e0, f, e1, rfl, rfl, rfl⟩ := h
    obtain rfl := dL_eq e0
    obtain rfl := dF_eq e1
    have hfv0 := hob _ (List.mem_of_getElem? (i := 0) rfl)
    generalize pf_S_rel_to_b f = pp0 at *
    generalize po_S_rel_to_b f = qq0 at *
    subst hfv0
    exact ⟨fn_contractF (M := M_conf_rel) rfl (tbl_ok (l1 := [(145, F_idxf_rel)]) (l2 := []) (l3 := []) (l4 := []) (l5 := []) ⟨ok_idxf_rel, trivial⟩ trivial trivial trivial trivial) Tryz.func95 (by kernel_rfl) N_conf_rel 0 [.d] (fun hwf => (conf_rel_spec s qq0 pp0 (wfArg hwf (a := .d (.v (.dat (U := Un) Ty.rel s))) (List.mem_of_getElem? (i := 0) rfl)) (hob _ (List.mem_of_getElem? (i := 1) rfl)))), hasBody_of Tryz.func95 (by kernel_rfl) (by kernel_rfl)⟩
  · simp at h
def M_idxf_row : Mc Un := mach (tbl []) (tbl []) (tbl []) (tbl []) (tbl [])
def A_idxf_row (r : Int) : List (A Un) := [.c (.s (.int .i64 r))]
def O_idxf_row (_r : Int) : List (Ob Un) := []
def R_idxf_row (r : Int) : RF Un := (A_idxf_row r, O_idxf_row r)
def N_idxf_row : Nat → NS := fun l => (look l [(2, { ts := bl 19 403, bs := bl 19 0, nm := [] })]).getD ⟨[], [], [], [], []⟩
def idxf_row_s2 (s : List (List Val)) (f_o : (List Val) → Prop) (f : (List Val) → Bool) (v0 : Int) : S Un := (st 19 19 76 0 [(0, al .row s), (1, AV.one (A.c (C.fv (fvo_L_val_to_b f_o f)))), (4, ai (0 : Int)), (7, ai (↑s.length : Int)), (8, ai v0)] [] [])
def idxf_row_e2_ret (s : List (List Val)) (f_o : (List Val) → Prop) (f : (List Val) → Bool) (v0 : Int) (v1 : Int) : S Un := (st 19 19 76 0 [(0, al .row s), (1, AV.one (A.c (C.fv (fvo_L_val_to_b f_o f)))), (4, ai v1), (7, ai (↑s.length : Int)), (8, ai v0)] [] [])
def idxf_row_B2 : Code := sub (bodyOf Tryz.f151) [1, 0, 1, 2, 2]
def idxf_row_L2 : S Un → Option (EX Un) := loopF (N_idxf_row 2) (fun s Q => awf M_idxf_row N_idxf_row idxf_row_B2 s Q)
def idxf_row_C2 : Exit → S Un → Option (RF Un) := ctxF M_idxf_row N_idxf_row (bodyOf Tryz.f151) [1, 0, 1, 2] (retF M_idxf_row Tryz.f151.results.toList [.d])
def idxf_row_fn (s : List (List Val)) (f_o : (List Val) → Prop) (f : (List Val) → Bool) : Option (RF Un) := awf M_idxf_row N_idxf_row (bodyOf Tryz.f151) (entry Tryz.f151.ntmps 0 [.d (.v (.dat (U := Un) Ty.row s)), .fn (fvo_L_val_to_b f_o f)]) (retF M_idxf_row Tryz.f151.results.toList [.d])
theorem idxf_row_in (s : List (List Val)) (f_o : (List Val) → Prop) (f : (List Val) → Bool) : idxf_row_fn s f_o f =
 (idxf_row_L2 (idxf_row_s2 s f_o f (0 : Int))).bind (thenX idxf_row_C2) := by kernel_rfl
theorem idxf_row_l2 (s : List (List Val)) (f_o : (List Val) → Prop) (f : (List Val) → Bool) (v0 : Int) : idxf_row_L2 (idxf_row_s2 s f_o f v0) =
 cndO (decide (v0 < (↑s.length : Int)))
  (obO (0 ≤ v0 ∧ v0 < (↑s.length : Int))
   (obO (f_o (s.getD v0.toNat []))
    (cndO (f (s.getD v0.toNat []))
     (some (.ret, (idxf_row_e2_ret s f_o f v0 v0)))
     (idxf_row_L2 (idxf_row_s2 s f_o f (IntKind.i64.wrap (v0 + 1)))))))
  (some (.exit 0, (idxf_row_s2 s f_o f v0))) := (loopF_eq (N_idxf_row 2) idxf_row_B2 _).trans (by kernel_rfl)
theorem idxf_row_a2_ret (s : List (List Val)) (f_o : (List Val) → Prop) (f : (List Val) → Bool) (v0 : Int) (v1 : Int) : idxf_row_C2 .ret (idxf_row_e2_ret s f_o f v0 v1) =
 some (R_idxf_row (v1)) := by kernel_rfl
theorem idxf_row_a2_x0 (s : List (List Val)) (f_o : (List Val) → Prop) (f : (List Val) → Bool) (v0 : Int) : idxf_row_C2 (.exit 0) (idxf_row_s2 s f_o f v0) =
 some (R_idxf_row ((-1 : Int))) := by kernel_rfl
def allO_row (o : (List Val) → Prop) (s : List (List Val)) : Prop := ∀ x ∈ s, o x
def idxf_row (s : List (List Val)) (_o : (List Val) → Prop) (f : (List Val) → Bool) : Int := match s.findIdx? f with | some i => (i : Int) | none => -1
theorem idxf_row_nonneg (s : List (List Val)) (o : (List Val) → Prop) (f : (List Val) → Bool) : 0 ≤ idxf_row s o f ↔ s.any f = true := by
  unfold idxf_row
  cases h : s.findIdx? f with
  | none =>
    have := List.findIdx?_eq_none_iff.1 h
    simp only [List.any_eq_true]
    constructor
    · intro h1; exact absurd h1 (by decide)
    · rintro ⟨x, hx, hf⟩; rw [this x hx] at hf; simp at hf
  | some i =>
    obtain ⟨h1, h2, _⟩ := List.findIdx?_eq_some_iff_getElem.1 h
    simp only [List.any_eq_true]
    exact ⟨fun _ => ⟨s[i], List.getElem_mem h1, h2⟩, fun _ => by omega⟩
theorem idxf_row_spec (s : List (List Val)) (o : (List Val) → Prop) (f : (List Val) → Bool) (hs : WL .row s) (ho : allO_row o s) : idxf_row_fn s o f = some (R_idxf_row (idxf_row s o f)) := by
  have key : ∀ (r : List (List Val)) (i : Nat), s.drop i = r → i ≤ s.length → (idxf_row_L2 (idxf_row_s2 s o f i)).bind (thenX idxf_row_C2) = some (R_idxf_row (match r.findIdx? f with | some k => ((i + k : Nat) : Int) | none => -1)) := by
    intro r
    induction r with
    | nil =>
      intro i hr hi
      have : s.length ≤ i := by rw [← List.drop_eq_nil_iff]; exact hr
      have e : idxf_row_L2 (idxf_row_s2 s o f i) = some (.exit 0, idxf_row_s2 s o f i) := by rw [idxf_row_l2, cndO_eq, if_neg (by simp; omega)]
      rw [loop_end e, idxf_row_a2_x0]; rfl
    | cons x r ih =>
      intro i hr hi
      obtain ⟨a1, a2, a3, hm⟩ := drop_cons hr
      have hx : s.getD i [] = x := a2 []
      by_cases hf : f x = true
      · have e : idxf_row_L2 (idxf_row_s2 s o f i) = some (.ret, idxf_row_e2_ret s o f i i) := by
          rw [idxf_row_l2, cndO_eq, if_pos (by simp; omega), obO_pos (by omega), Int.toNat_natCast, hx, obO_pos (ho x hm), cndO_eq, if_pos hf]
        rw [loop_end e, idxf_row_a2_ret]
        simp [List.findIdx?_cons, hf]
      · have e : idxf_row_L2 (idxf_row_s2 s o f i) = idxf_row_L2 (idxf_row_s2 s o f ((i + 1 : Nat) : Int)) := by
          rw [idxf_row_l2, cndO_eq, if_pos (by simp; omega), obO_pos (by omega), Int.toNat_natCast, hx, obO_pos (ho x hm), cndO_eq, if_neg hf, wrap_next a1 hs.len]
        rw [e, ih (i + 1) a3 (by omega)]
        congr 2
        simp only [List.findIdx?_cons, hf]
        cases r.findIdx? f with
        | none => rfl
        | some k => simp; omega
  rw [idxf_row_in]
  have := key s 0 rfl (Nat.zero_le _)
  refine Eq.trans this ?_
  unfold idxf_row
  cases s.findIdx? f <;> simp
def F_idxf_row : FnC Un := fun args => match args with
  | [x0, x1] => (dL .row x0).bind fun s => (dF x1).bind fun f => some ([f = (fvo_L_val_to_b (po_L_val_to_b f) (pf_L_val_to_b f)), allO_row (po_L_val_to_b f) s], A_idxf_row (idxf_row s (po_L_val_to_b f) (pf_L_val_to_b f)), O_idxf_row (idxf_row s (po_L_val_to_b f) (pf_L_val_to_b f)))
  | _ => none
theorem ok_idxf_row : FnOK 151 F_idxf_row := by
  intro args ob rs os h hob
  unfold F_idxf_row at h
  split at h
  · simp only [Option.bind_eq_some_iff, Option.some.injEq, Prod.mk.injEq] at h
    obtain ⟨s, e0, f, e1, rfl, rfl, rfl⟩ := h
    obtain rfl := dL_eq e0
    obtain rfl := dF_eq e1
    have hfv0 := hob _ (List.mem_of_getElem? (i := 0) rfl)
    generalize pf_L_val_to_b f = pp0 at *
    generalize po_L_val_to_b f = qq0 at *
    subst hfv0
    exact ⟨fn_contractF (M := M_idxf_row) rfl (tbl_ok (l1 := []) (l2 := []) (l3 := []) (l4 := []) (l5 := []) trivial trivial trivial trivial trivial) Tryz.func151 (by kernel_rfl) N_idxf_row 0 [.d] (fun hwf => (idxf_row_spec s qq0 pp0 (wfArg hwf (a := .d (.v (.dat (U := Un) Ty.row s))) (List.mem_of_getElem? (i := 0) rfl)) (hob _ (List.mem_of_getElem? (i := 1) rfl)))), hasBody_of Tryz.func151 (by kernel_rfl) (by kernel_rfl)⟩
  · simp at h
def M_conf_row : Mc Un := mach (tbl [(151, F_idxf_row)]) (tbl []) (tbl []) (tbl []) (tbl [])
def A_conf_row (r : Bool) : List (A Un) := [.c (.s (.bool r))]
def O_conf_row (_r : Bool) : List (Ob Un) := []
def R_conf_row (r : Bool) : RF Un := (A_conf_row r, O_conf_row r)
def N_conf_row : Nat → NS := fun l => (look l []).getD ⟨[], [], [], [], []⟩
def conf_row_fn (s : List (List Val)) (f_o : (List Val) → Prop) (f : (List Val) → Bool) : Option (RF Un) := awf M_conf_row N_conf_row (bodyOf Tryz.f103) (entry Tryz.f103.ntmps 0 [.d (.v (.dat (U := Un) Ty.row s)), .fn (fvo_L_val_to_b f_o f)]) (retF M_conf_row Tryz.f103.results.toList [.d])
theorem conf_row_in (s : List (List Val)) (f_o : (List Val) → Prop) (f : (List Val) → Bool) : conf_row_fn s f_o f =
 obO (fvo_L_val_to_b f_o f = fvo_L_val_to_b (po_L_val_to_b (fvo_L_val_to_b f_o f)) (pf_L_val_to_b (fvo_L_val_to_b f_o f)))
  (obO (allO_row (po_L_val_to_b (fvo_L_val_to_b f_o f)) s)
   (some (R_conf_row (decide (idxf_row s (po_L_val_to_b (fvo_L_val_to_b f_o f)) (pf_L_val_to_b (fvo_L_val_to_b f_o f)) ≥ 0))))) := by kernel_rfl
def conf_row (s : List (List Val)) (_o : (List Val) → Prop) (f : (List Val) → Bool) : Bool := s.any f
theorem conf_row_spec (s : List (List Val)) (o : (List Val) → Prop) (f : (List Val) → Bool) (_hs : WL .row s) (ho : allO_row o s) : conf_row_fn s o f = some (R_conf_row (conf_row s o f)) := by
  rw [conf_row_in]
  simp only [pofvo_L_val_to_b, pffvo_L_val_to_b]
  rw [obO_pos trivial, obO_pos ho]
  unfold conf_row
  congr 2
  have := idxf_row_nonneg s o f
  cases h : s.any f with
  | true => simp; exact this.2 h
  | false =>
    have : ¬ 0 ≤ idxf_row s o f := fun e => by rw [this.1 e] at h; simp at h
    simpa using this
def F_conf_row : FnC Un := fun args => match args with
  | [x0, x1] => (dL .row x0).bind fun s => (dF x1).bind fun f => some ([f = (fvo_L_val_to_b (po_L_val_to_b f) (pf_L_val_to_b f)), allO_row (po_L_val_to_b f) s], A_conf_row (conf_row s (po_L_val_to_b f) (pf_L_val_to_b f)), O_conf_row (conf_row s (po_L_val_to_b f) (pf_L_val_to_b f)))
  | _ => none
theorem ok_conf_row : FnOK 103 F_conf_row := by
  intro args ob rs os h hob
  unfold F_conf_row at h
  split at h
  · simp only [Option.bind_eq_some_iff, Option.some.injEq, Prod.mk.injEq] at h
    obtain ⟨s, e0, f, e1, rfl, rfl, rfl⟩ := h
    obtain rfl := dL_eq e0
    obtain rfl := dF_eq e1
    have hfv0 := hob _ (List.mem_of_getElem? (i := 0) rfl)
    generalize pf_L_val_to_b f = pp0 at *
    generalize po_L_val_to_b f = qq0 at *
    subst hfv0
    exact ⟨fn_contractF (M := M_conf_row) rfl (tbl_ok (l1 := [(151, F_idxf_row)]) (l2 := []) (l3 := []) (l4 := []) (l5 := []) ⟨ok_idxf_row, trivial⟩ trivial trivial trivial trivial) Tryz.func103 (by kernel_rfl) N_conf_row 0 [.d] (fun hwf => (conf_row_spec s qq0 pp0 (wfArg hwf (a := .d (.v (.dat (U := Un) Ty.row s))) (List.mem_of_getElem? (i := 0) rfl)) (hob _ (List.mem_of_getElem? (i := 1) rfl)))), hasBody_of Tryz.func103 (by kernel_rfl) (by kernel_rfl)⟩
  · simp at h
def M_idxf_by_ : Mc Un := mach (tbl []) (tbl []) (tbl []) (tbl []) (tbl [])
def A_idxf_by_ (r : Int) : List (A Un) := [.c (.s (.int .i64 r))]
def O_idxf_by_ (_r : Int) : List (Ob Un) := []
def R_idxf_by_ (r : Int) : RF Un := (A_idxf_by_ r, O_idxf_by_ r)
def N_idxf_by_ : Nat → NS := fun l => (look l [(2, { ts := bl 19 403, bs := bl 19 0, nm := [] })]).getD ⟨[], [], [], [], []⟩
def idxf_by__s2 (s : List By) (f_o : By → Prop) (f : By → Bool) (v0 : Int) : S Un := (st 19 19 76 0 [(0, al .by_ s), (1, AV.one (A.c (C.fv (fvo_S_by__to_b f_o f)))), (4, ai (0 : Int)), (7, ai (↑s.length : Int)), (8, ai v0)] [] [])
def idxf_by__e2_ret (s : List By) (f_o : By → Prop) (f : By → Bool) (v0 : Int) (v1 : Int) : S Un := (st 19 19 76 0 [(0, al .by_ s), (1, AV.one (A.c (C.fv (fvo_S_by__to_b f_o f)))), (4, ai v1), (7, ai (↑s.length : Int)), (8, ai v0)] [] [])
def idxf_by__B2 : Code := sub (bodyOf Tryz.f155) [1, 0, 1, 2, 2]
def idxf_by__L2 : S Un → Option (EX Un) := loopF (N_idxf_by_ 2) (fun s Q => awf M_idxf_by_ N_idxf_by_ idxf_by__B2 s Q)
def idxf_by__C2 : Exit → S Un → Option (RF Un) := ctxF M_idxf_by_ N_idxf_by_ (bodyOf Tryz.f155) [1, 0, 1, 2] (retF M_idxf_by_ Tryz.f155.results.toList [.d])
def idxf_by__fn (s : List By) (f_o : By → Prop) (f : By → Bool) : Option (RF Un) := awf M_idxf_by_ N_idxf_by_ (bodyOf Tryz.f155) (entry Tryz.f155.ntmps 0 [.d (.v (.dat (U := Un) Ty.by_ s)), .fn (fvo_S_by__to_b f_o f)]) (retF M_idxf_by_ Tryz.f155.results.toList [.d])
theorem idxf_by__in (s : List By) (f_o : By → Prop) (f : By → Bool) : idxf_by__fn s f_o f =
 (idxf_by__L2 (idxf_by__s2 s f_o f (0 : Int))).bind (thenX idxf_by__C2) := by kernel_rfl
theorem idxf_by__l2 (s : List By) (f_o : By → Prop) (f : By → Bool) (v0 : Int) : idxf_by__L2 (idxf_by__s2 s f_o f v0) =
 cndO (decide (v0 < (↑s.length : Int)))
  (obO (0 ≤ v0 ∧ v0 < (↑s.length : Int))
   (obO (f_o (s.getD v0.toNat zeroBy))
    (cndO (f (s.getD v0.toNat zeroBy))
     (some (.ret, (idxf_by__e2_ret s f_o f v0 v0)))
     (idxf_by__L2 (idxf_by__s2 s f_o f (IntKind.i64.wrap (v0 + 1)))))))
  (some (.exit 0, (idxf_by__s2 s f_o f v0))) := (loopF_eq (N_idxf_by_ 2) idxf_by__B2 _).trans (by kernel_rfl)
theorem idxf_by__a2_ret (s : List By) (f_o : By → Prop) (f : By → Bool) (v0 : Int) (v1 : Int) : idxf_by__C2 .ret (idxf_by__e2_ret s f_o f v0 v1) =
 some (R_idxf_by_ (v1)) := by kernel_rfl
theorem idxf_by__a2_x0 (s : List By) (f_o : By → Prop) (f : By → Bool) (v0 : Int) : idxf_by__C2 (.exit 0) (idxf_by__s2 s f_o f v0) =
 some (R_idxf_by_ ((-1 : Int))) := by kernel_rfl
def allO_by_ (o : By → Prop) (s : List By) : Prop := ∀ x ∈ s, o x
def idxf_by_ (s : List By) (_o : By → Prop) (f : By → Bool) : Int := match s.findIdx? f with | some i => (i : Int) | none => -1
theorem idxf_by__nonneg (s : List By) (o : By → Prop) (f : By → Bool) : 0 ≤ idxf_by_ s o f ↔ s.any f = true := by
  unfold idxf_by_
  cases h : s.findIdx? f with
  | none =>
    have := List.findIdx?_eq_none_iff.1 h
    simp only [List.any_eq_true]
    constructor
    · intro h1; exact absurd h1 (by decide)
    · rintro ⟨x, hx, hf⟩; rw [this x hx] at hf; simp at hf
  | some i =>
    obtain ⟨h1, h2, _⟩ := List.findIdx?_eq_some_iff_getElem.1 h
    simp only [List.any_eq_true]
    exact ⟨fun _ => ⟨s[i], List.getElem_mem h1, h2⟩, fun _ => by omega⟩
theorem idxf_by__spec (s : List By) (o : By → Prop) (f : By → Bool) (hs : WL .by_ s) (ho : allO_by_ o s) : idxf_by__fn s o f = some (R_idxf_by_ (idxf_by_ s o f)) := by
  have key : ∀ (r : List By) (i : Nat), s.drop i = r → i ≤ s.length → (idxf_by__L2 (idxf_by__s2 s o f i)).bind (thenX idxf_by__C2) = some (R_idxf_by_ (match r.findIdx? f with | some k => ((i + k : Nat) : Int) | none => -1)) := by
    intro r
    induction r with
    | nil =>
      intro i hr hi
      have : s.length ≤ i := by rw [← List.drop_eq_nil_iff]; exact hr
      have e : idxf_by__L2 (idxf_by__s2 s o f i) = some (.exit 0, idxf_by__s2 s o f i) := by rw [idxf_by__l2, cndO_eq, if_neg (by simp; omega)]
      rw [loop_end e, idxf_by__a2_x0]; rfl
    | cons x r ih =>
      intro i hr hi
      obtain ⟨a1, a2, a3, hm⟩ := drop_cons hr
      have hx : s.getD i zeroBy = x := a2 zeroBy
      by_cases hf : f x = true
      · have e : idxf_by__L2 (idxf_by__s2 s o f i) = some (.ret, idxf_by__e2_ret s o f i i) := by
          rw [idxf_by__l2, cndO_eq, if_pos (by simp; omega), obO_pos (by omega), Int.toNat_natCast, hx, obO_pos (ho x hm), cndO_eq, if_pos hf]
        rw [loop_end e, idxf_by__a2_ret]
        simp [List.findIdx?_cons, hf]
      · have e : idxf_by__L2 (idxf_by__s2 s o f i) = idxf_by__L2 (idxf_by__s2 s o f ((i + 1 : Nat) : Int)) := by
          rw [idxf_by__l2, cndO_eq, if_pos (by simp; omega), obO_pos (by omega), Int.toNat_natCast, hx, obO_pos (ho x hm), cndO_eq, if_neg hf, wrap_next a1 hs.len]
        rw [e, ih (i + 1) a3 (by omega)]
        congr 2
        simp only [List.findIdx?_cons, hf]
        cases r.findIdx? f with
        | none => rfl
        | some k => simp; omega
  rw [idxf_by__in]
  have := key s 0 rfl (Nat.zero_le _)
  refine Eq.trans this ?_
  unfold idxf_by_
  cases s.findIdx? f <;> simp
def F_idxf_by_ : FnC Un := fun args => match args with
  | [x0, x1] => (dL .by_ x0).bind fun s => (dF x1).bind fun f => some ([f = (fvo_S_by__to_b (po_S_by__to_b f) (pf_S_by__to_b f)), allO_by_ (po_S_by__to_b f) s], A_idxf_by_ (idxf_by_ s (po_S_by__to_b f) (pf_S_by__to_b f)), O_idxf_by_ (idxf_by_ s (po_S_by__to_b f) (pf_S_by__to_b f)))
  | _ => none
theorem ok_idxf_by_ : FnOK 155 F_idxf_by_ := by
  intro args ob rs os h hob
  unfold F_idxf_by_ at h
  split at h
  · simp only [Option.bind_eq_some_iff, Option.some.injEq, Prod.mk.injEq] at h
    obtain ⟨s, e0, f, e1, rfl, rfl, rfl⟩ := h
    obtain rfl := dL_eq e0
    obtain rfl := dF_eq e1
    have hfv0 := hob _ (List.mem_of_getElem? (i := 0) rfl)
    generalize pf_S_by__to_b f = pp0 at *
    generalize po_S_by__to_b f = qq0 at *
    subst hfv0
    exact ⟨fn_contractF (M := M_idxf_by_) rfl (tbl_ok (l1 := []) (l2 := []) (l3 := []) (l4 := []) (l5 := []) trivial trivial trivial trivial trivial) Tryz.func155 (by kernel_rfl) N_idxf_by_ 0 [.d] (fun hwf => (idxf_by__spec s qq0 pp0 (wfArg hwf (a := .d (.v (.dat (U := Un) Ty.by_ s))) (List.mem_of_getElem? (i := 0) rfl)) (hob _ (List.mem_of_getElem? (i := 1) rfl)))), hasBody_of Tryz.func155 (by kernel_rfl) (by kernel_rfl)⟩
  · simp at h
def M_conf_by_ : Mc Un := mach (tbl [(155, F_idxf_by_)]) (tbl []) (tbl []) (tbl []) (tbl [])
def A_conf_by_ (r : Bool) : List (A Un) := [.c (.s (.bool r))]
def O_conf_by_ (_r : Bool) : List (Ob Un) := []
def R_conf_by_ (r : Bool) : RF Un := (A_conf_by_ r, O_conf_by_ r)
def N_conf_by_ : Nat → NS := fun l => (look l []).getD ⟨[], [], [], [], []⟩
def conf_by__fn (s : List By) (f_o : By → Prop) (f : By → Bool) : Option (RF Un) := awf M_conf_by_ N_conf_by_ (bodyOf Tryz.f110) (entry Tryz.f110.ntmps 0 [.d (.v (.dat (U := Un) Ty.by_ s)), .fn (fvo_S_by__to_b f_o f)]) (retF M_conf_by_ Tryz.f110.results.toList [.d])
theorem conf_by__in (s : List By) (f_o : By → Prop) (f : By → Bool) : conf_by__fn s f_o f =
 obO (fvo_S_by__to_b f_o f = fvo_S_by__to_b (po_S_by__to_b (fvo_S_by__to_b f_o f)) (pf_S_by__to_b (fvo_S_by__to_b f_o f)))
  (obO (allO_by_ (po_S_by__to_b (fvo_S_by__to_b f_o f)) s)
   (some (R_conf_by_ (decide (idxf_by_ s (po_S_by__to_b (fvo_S_by__to_b f_o f)) (pf_S_by__to_b (fvo_S_by__to_b f_o f)) ≥ 0))))) := by kernel_rfl
def conf_by_ (s : List By) (_o : By → Prop) (f : By → Bool) : Bool := s.any f
theorem conf_by__spec (s : List By) (o : By → Prop) (f : By → Bool) (_hs : WL .by_ s) (ho : allO_by_ o s) : conf_by__fn s o f = some (R_conf_by_ (conf_by_ s o f)) := by
  rw [conf_by__in]
  simp only [pofvo_S_by__to_b, pffvo_S_by__to_b]
  rw [obO_pos trivial, obO_pos ho]
  unfold conf_by_
  congr 2
  have := idxf_by__nonneg s o f
  cases h : s.any f with
  | true => simp; exact this.2 h
  | false =>
    have : ¬ 0 ≤ idxf_by_ s o f := fun e => by rw [this.1 e] at h; simp at h
    simpa using this
def F_conf_by_ : FnC Un := fun args => match args with
  | [x0, x1] => (dL .by_ x0).bind fun s => (dF x1).bind fun f => some ([f = (fvo_S_by__to_b (po_S_by__to_b f) (pf_S_by__to_b f)), allO_by_ (po_S_by__to_b f) s], A_conf_by_ (conf_by_ s (po_S_by__to_b f) (pf_S_by__to_b f)), O_conf_by_ (conf_by_ s (po_S_by__to_b f) (pf_S_by__to_b f)))
  | _ => none
theorem ok_conf_by_ : FnOK 110 F_conf_by_ := by
  intro args ob rs os h hob
  unfold F_conf_by_ at h
  split at h
  · simp only [Option.bind_eq_some_iff, Option.some.injEq, Prod.mk.injEq] at h
    obtain ⟨s, e0, f, e1, rfl, rfl, rfl⟩ := h
    obtain rfl := dL_eq e0
    obtain rfl := dF_eq e1
    have hfv0 := hob _ (List.mem_of_getElem? (i := 0) rfl)
    generalize pf_S_by__to_b f = pp0 at *
    generalize po_S_by__to_b f = qq0 at *
    subst hfv0
    exact ⟨fn_contractF (M := M_conf_by_) rfl (tbl_ok (l1 := [(155, F_idxf_by_)]) (l2 := []) (l3 := []) (l4 := []) (l5 := []) ⟨ok_idxf_by_, trivial⟩ trivial trivial trivial trivial) Tryz.func110 (by kernel_rfl) N_conf_by_ 0 [.d] (fun hwf => (conf_by__spec s qq0 pp0 (wfArg hwf (a := .d (.v (.dat (U := Un) Ty.by_ s))) (List.mem_of_getElem? (i := 0) rfl)) (hob _ (List.mem_of_getElem? (i := 1) rfl)))), hasBody_of Tryz.func110 (by kernel_rfl) (by kernel_rfl)⟩
  · simp at h
def M_idxf_agg : Mc Un := mach (tbl []) (tbl []) (tbl []) (tbl []) (tbl [])
def A_idxf_agg (r : Int) : List (A Un) := [.c (.s (.int .i64 r))]
def O_idxf_agg (_r : Int) : List (Ob Un) := []
def R_idxf_agg (r : Int) : RF Un := (A_idxf_agg r, O_idxf_agg r)
def N_idxf_agg : Nat → NS := fun l => (look l [(2, { ts := bl 19 403, bs := bl 19 0, nm := [] })]).getD ⟨[], [], [], [], []⟩
def idxf_agg_s2 (s : List Agg) (f_o : Agg → Prop) (f : Agg → Bool) (v0 : Int) : S Un := (st 19 19 76 0 [(0, al .agg s), (1, AV.one (A.c (C.fv (fvo_S_agg_to_b f_o f)))), (4, ai (0 : Int)), (7, ai (↑s.length : Int)), (8, ai v0)] [] [])
def idxf_agg_e2_ret (s : List Agg) (f_o : Agg → Prop) (f : Agg → Bool) (v0 : Int) (v1 : Int) : S Un := (st 19 19 76 0 [(0, al .agg s), (1, AV.one (A.c (C.fv (fvo_S_agg_to_b f_o f)))), (4, ai v1), (7, ai (↑s.length : Int)), (8, ai v0)] [] [])
def idxf_agg_B2 : Code := sub (bodyOf Tryz.f153) [1, 0, 1, 2, 2]
def idxf_agg_L2 : S Un → Option (EX Un) := loopF (N_idxf_agg 2) (fun s Q => awf M_idxf_agg N_idxf_agg idxf_agg_B2 s Q)
def idxf_agg_C2 : Exit → S Un → Option (RF Un) := ctxF M_idxf_agg N_idxf_agg (bodyOf Tryz.f153) [1, 0, 1, 2] (retF M_idxf_agg Tryz.f153.results.toList [.d])
def idxf_agg_fn (s : List Agg) (f_o : Agg → Prop) (f : Agg → Bool) : Option (RF Un) := awf M_idxf_agg N_idxf_agg (bodyOf Tryz.f153) (entry Tryz.f153.ntmps 0 [.d (.v (.dat (U := Un) Ty.agg s)), .fn (fvo_S_agg_to_b f_o f)]) (retF M_idxf_agg Tryz.f153.results.toList [.d])
theorem idxf_agg_in (s : List Agg) (f_o : Agg → Prop) (f : Agg → Bool) : idxf_agg_fn s f_o f =
 (idxf_agg_L2 (idxf_agg_s2 s f_o f (0 : Int))).bind (thenX idxf_agg_C2) := by kernel_rfl
theorem idxf_agg_l2 (s : List Agg) (f_o : Agg → Prop) (f : Agg → Bool) (v0 : Int) : idxf_agg_L2 (idxf_agg_s2 s f_o f v0) =
 cndO (decide (v0 < (↑s.length : Int)))
  (obO (0 ≤ v0 ∧ v0 < (↑s.length : Int))
   (obO (f_o (Agg.ids (s.getD v0.toNat zeroAgg)))
    (cndO (f (Agg.ids (s.getD v0.toNat zeroAgg)))
     (some (.ret, (idxf_agg_e2_ret s f_o f v0 v0)))
     (idxf_agg_L2 (idxf_agg_s2 s f_o f (IntKind.i64.wrap (v0 + 1)))))))
  (some (.exit 0, (idxf_agg_s2 s f_o f v0))) := (loopF_eq (N_idxf_agg 2) idxf_agg_B2 _).trans (by kernel_rfl)
theorem idxf_agg_a2_ret (s : List Agg) (f_o : Agg → Prop) (f : Agg → Bool) (v0 : Int) (v1 : Int) : idxf_agg_C2 .ret (idxf_agg_e2_ret s f_o f v0 v1) =
 some (R_idxf_agg (v1)) := by kernel_rfl
theorem idxf_agg_a2_x0 (s : List Agg) (f_o : Agg → Prop) (f : Agg → Bool) (v0 : Int) : idxf_agg_C2 (.exit 0) (idxf_agg_s2 s f_o f v0) =
 some (R_idxf_agg ((-1 : Int))) := by kernel_rfl
def allO_agg (o : Agg → Prop) (s : List Agg) : Prop := ∀ x ∈ s, o x
def idxf_agg (s : List Agg) (_o : Agg → Prop) (f : Agg → Bool) : Int := match s.findIdx? f with | some i => (i : Int) | none => -1
theorem idxf_agg_nonneg (s : List Agg) (o : Agg → Prop) (f : Agg → Bool) : 0 ≤ idxf_agg s o f ↔ s.any f = true := by
  unfold idxf_agg
  cases h : s.findIdx? f with
  | none =>
    have := List.findIdx?_eq_none_iff.1 h
    simp only [List.any_eq_true]
    constructor
    · intro h1; exact absurd h1 (by decide)
    · rintro ⟨x, hx, hf⟩; rw [this x hx] at hf; simp at hf
  | some i =>
    obtain ⟨h1, h2, _⟩ := List.findIdx?_eq_some_iff_getElem.1 h
    simp only [List.any_eq_true]
    exact ⟨fun _ => ⟨s[i], List.getElem_mem h1, h2⟩, fun _ => by omega⟩
theorem idxf_agg_spec (s : List Agg) (o : Agg → Prop) (f : Agg → Bool) (hs : WL .agg s) (ho : allO_agg o s) : idxf_agg_fn s o f = some (R_idxf_agg (idxf_agg s o f)) := by
  have key : ∀ (r : List Agg) (i : Nat), s.drop i = r → i ≤ s.length → (idxf_agg_L2 (idxf_agg_s2 s o f i)).bind (thenX idxf_agg_C2) = some (R_idxf_agg (match r.findIdx? f with | some k => ((i + k : Nat) : Int) | none => -1)) := by
    intro r
    induction r with
    | nil =>
      intro i hr hi
      have : s.length ≤ i := by rw [← List.drop_eq_nil_iff]; exact hr
      have e : idxf_agg_L2 (idxf_agg_s2 s o f i) = some (.exit 0, idxf_agg_s2 s o f i) := by rw [idxf_agg_l2, cndO_eq, if_neg (by simp; omega)]
      rw [loop_end e, idxf_agg_a2_x0]; rfl
    | cons x r ih =>
      intro i hr hi
      obtain ⟨a1, a2, a3, hm⟩ := drop_cons hr
      have hx : s.getD i zeroAgg = x := a2 zeroAgg
      by_cases hf : f x = true
      · have e : idxf_agg_L2 (idxf_agg_s2 s o f i) = some (.ret, idxf_agg_e2_ret s o f i i) := by
          rw [idxf_agg_l2, cndO_eq, if_pos (by simp; omega), obO_pos (by omega), Int.toNat_natCast, hx, Agg.ids_eq, obO_pos (ho x hm), cndO_eq, if_pos hf]
        rw [loop_end e, idxf_agg_a2_ret]
        simp [List.findIdx?_cons, hf]
      · have e : idxf_agg_L2 (idxf_agg_s2 s o f i) = idxf_agg_L2 (idxf_agg_s2 s o f ((i + 1 : Nat) : Int)) := by
          rw [idxf_agg_l2, cndO_eq, if_pos (by simp; omega), obO_pos (by omega), Int.toNat_natCast, hx, Agg.ids_eq, obO_pos (ho x hm), cndO_eq, if_neg hf, wrap_next a1 hs.len]
        rw [e, ih (i + 1) a3 (by omega)]
        congr 2
        simp only [List.findIdx?_cons, hf]
        cases r.findIdx? f with
        | none => rfl
        | some k => simp; omega
  rw [idxf_agg_in]
  have := key s 0 rfl (Nat.zero_le _)
  refine Eq.trans this ?_
  unfold idxf_agg
  cases s.findIdx? f <;> simp
def F_idxf_agg : FnC Un := fun args => match args with
  | [x0, x1] => (dL .agg x0).bind fun s => (dF x1).bind fun f => some ([f = (fvo_S_agg_to_b (po_S_agg_to_b f) (pf_S_agg_to_b f)), allO_agg (po_S_agg_to_b f) s], A_idxf_agg (idxf_agg s (po_S_agg_to_b f) (pf_S_agg_to_b f)), O_idxf_agg (idxf_agg s (po_S_agg_to_b f) (pf_S_agg_to_b f)))
  | _ => none
theorem ok_idxf_agg : FnOK 153 F_idxf_agg := by
  intro args ob rs os h hob
  unfold F_idxf_agg at h
  split at h
  · simp only [Option.bind_eq_some_iff, Option.some.injEq, Prod.mk.injEq] at h
    obtain ⟨s, e0, f, e1, rfl, rfl, rfl⟩ := h
    obtain rfl := dL_eq e0
    obtain rfl := dF_eq e1
    have hfv0 := hob _ (List.mem_of_getElem? (i := 0) rfl)
    generalize pf_S_agg_to_b f = pp0 at *
    generalize po_S_agg_to_b f = qq0 at *
    subst hfv0
    exact ⟨fn_contractF (M := M_idxf_agg) rfl (tbl_ok (l1 := []) (l2 := []) (l3 := []) (l4 := []) (l5 := []) trivial trivial trivial trivial trivial) Tryz.func153 (by kernel_rfl) N_idxf_agg 0 [.d] (fun hwf => (idxf_agg_spec s qq0 pp0 (wfArg hwf (a := .d (.v (.dat (U := Un) Ty.agg s))) (List.mem_of_getElem? (i := 0) rfl)) (hob _ (List.mem_of_getElem? (i := 1) rfl)))), hasBody_of Tryz.func153 (by kernel_rfl) (by kernel_rfl)⟩
  · simp at h
def M_conf_agg : Mc Un := mach (tbl [(153, F_idxf_agg)]) (tbl []) (tbl []) (tbl []) (tbl [])
def A_conf_agg (r : Bool) : List (A Un) := [.c (.s (.bool r))]
def O_conf_agg (_r : Bool) : List (Ob Un) := []
def R_conf_agg (r : Bool) : RF Un := (A_conf_agg r, O_conf_agg r)
def N_conf_agg : Nat → NS := fun l => (look l []).getD ⟨[], [], [], [], []⟩
def conf_agg_fn (s : List Agg) (f_o : Agg → Prop) (f : Agg → Bool) : Option (RF Un) := awf M_conf_agg N_conf_agg (bodyOf Tryz.f107) (entry Tryz.f107.ntmps 0 [.d (.v (.dat (U := Un) Ty.agg s)), .fn (fvo_S_agg_to_b f_o f)]) (retF M_conf_agg Tryz.f107.results.toList [.d])
theorem conf_agg_in (s : List Agg) (f_o : Agg → Prop) (f : Agg → Bool) : conf_agg_fn s f_o f =
 obO (fvo_S_agg_to_b f_o f = fvo_S_agg_to_b (po_S_agg_to_b (fvo_S_agg_to_b f_o f)) (pf_S_agg_to_b (fvo_S_agg_to_b f_o f)))
  (obO (allO_agg (po_S_agg_to_b (fvo_S_agg_to_b f_o f)) s)
   (some (R_conf_agg (decide (idxf_agg s (po_S_agg_to_b (fvo_S_agg_to_b f_o f)) (pf_S_agg_to_b (fvo_S_agg_to_b f_o f)) ≥ 0))))) := by kernel_rfl
def conf_agg (s : List Agg) (_o : Agg → Prop) (f : Agg → Bool) : Bool := s.any f
theorem conf_agg_spec (s : List Agg) (o : Agg → Prop) (f : Agg → Bool) (_hs : WL .agg s) (ho : allO_agg o s) : conf_agg_fn s o f = some (R_conf_agg (conf_agg s o f)) := by
  rw [conf_agg_in]
  simp only [pofvo_S_agg_to_b, pffvo_S_agg_to_b]
  rw [obO_pos trivial, obO_pos ho]
  unfold conf_agg
  congr 2
  have := idxf_agg_nonneg s o f
  cases h : s.any f with
  | true => simp; exact this.2 h
  | false =>
    have : ¬ 0 ≤ idxf_agg s o f := fun e => by rw [this.1 e] at h; simp at h
    simpa using this
def F_conf_agg : FnC Un := fun args => match args with
  | [x0, x1] => (dL .agg x0).bind fun s => (dF x1).bind fun f => some ([f = (fvo_S_agg_to_b (po_S_agg_to_b f) (pf_S_agg_to_b f)), allO_agg (po_S_agg_to_b f) s], A_conf_agg (conf_agg s (po_S_agg_to_b f) (pf_S_agg_to_b f)), O_conf_agg (conf_agg s (po_S_agg_to_b f) (pf_S_agg_to_b f)))
  | _ => none
theorem ok_conf_agg : FnOK 107 F_conf_agg := by
  intro args ob rs os h hob
  unfold F_conf_agg at h
  split at h
  · simp only [Option.bind_eq_some_iff, Option.some.injEq, Prod.mk.injEq] at h
    obtain ⟨s, e0, f, e1, rfl, rfl, rfl⟩ := h
    obtain rfl := dL_eq e0
    obtain rfl := dF_eq e1
    have hfv0 := hob _ (List.mem_of_getElem? (i := 0) rfl)
    generalize pf_S_agg_to_b f = pp0 at *
    generalize po_S_agg_to_b f = qq0 at *
    subst hfv0
    exact ⟨fn_contractF (M := M_conf_agg) rfl (tbl_ok (l1 := [(153, F_idxf_agg)]) (l2 := []) (l3 := []) (l4 := []) (l5 := []) ⟨ok_idxf_agg, trivial⟩ trivial trivial trivial trivial) Tryz.func107 (by kernel_rfl) N_conf_agg 0 [.d] (fun hwf => (conf_agg_spec s qq0 pp0 (wfArg hwf (a := .d (.v (.dat (U := Un) Ty.agg s))) (List.mem_of_getElem? (i := 0) rfl)) (hob _ (List.mem_of_getElem? (i := 1) rfl)))), hasBody_of Tryz.func107 (by kernel_rfl) (by kernel_rfl)⟩
  · simp at h
def M_idxf_val : Mc Un := mach (tbl []) (tbl []) (tbl []) (tbl []) (tbl [])
def A_idxf_val (r : Int) : List (A Un) := [.c (.s (.int .i64 r))]
def O_idxf_val (_r : Int) : List (Ob Un) := []
def R_idxf_val (r : Int) : RF Un := (A_idxf_val r, O_idxf_val r)
def N_idxf_val : Nat → NS := fun l => (look l [(2, { ts := bl 19 403, bs := bl 19 0, nm := [] })]).getD ⟨[], [], [], [], []⟩
def idxf_val_s2 (s : List Val) (f_o : Val → Prop) (f : Val → Bool) (v0 : Int) : S Un := (st 19 19 76 0 [(0, al .val s), (1, AV.one (A.c (C.fv (fvo_S_val_to_b f_o f)))), (4, ai (0 : Int)), (7, ai (↑s.length : Int)), (8, ai v0)] [] [])
def idxf_val_e2_ret (s : List Val) (f_o : Val → Prop) (f : Val → Bool) (v0 : Int) (v1 : Int) : S Un := (st 19 19 76 0 [(0, al .val s), (1, AV.one (A.c (C.fv (fvo_S_val_to_b f_o f)))), (4, ai v1), (7, ai (↑s.length : Int)), (8, ai v0)] [] [])
def idxf_val_B2 : Code := sub (bodyOf Tryz.f152) [1, 0, 1, 2, 2]
def idxf_val_L2 : S Un → Option (EX Un) := loopF (N_idxf_val 2) (fun s Q => awf M_idxf_val N_idxf_val idxf_val_B2 s Q)
def idxf_val_C2 : Exit → S Un → Option (RF Un) := ctxF M_idxf_val N_idxf_val (bodyOf Tryz.f152) [1, 0, 1, 2] (retF M_idxf_val Tryz.f152.results.toList [.d])
def idxf_val_fn (s : List Val) (f_o : Val → Prop) (f : Val → Bool) : Option (RF Un) := awf M_idxf_val N_idxf_val (bodyOf Tryz.f152) (entry Tryz.f152.ntmps 0 [.d (.v (.dat (U := Un) Ty.val s)), .fn (fvo_S_val_to_b f_o f)]) (retF M_idxf_val Tryz.f152.results.toList [.d])
theorem idxf_val_in (s : List Val) (f_o : Val → Prop) (f : Val → Bool) : idxf_val_fn s f_o f =
 (idxf_val_L2 (idxf_val_s2 s f_o f (0 : Int))).bind (thenX idxf_val_C2) := by kernel_rfl
theorem idxf_val_l2 (s : List Val) (f_o : Val → Prop) (f : Val → Bool) (v0 : Int) : idxf_val_L2 (idxf_val_s2 s f_o f v0) =
 cndO (decide (v0 < (↑s.length : Int)))
  (obO (0 ≤ v0 ∧ v0 < (↑s.length : Int))
   (obO (f_o (s.getD v0.toNat zeroVal))
    (cndO (f (s.getD v0.toNat zeroVal))
     (some (.ret, (idxf_val_e2_ret s f_o f v0 v0)))
     (idxf_val_L2 (idxf_val_s2 s f_o f (IntKind.i64.wrap (v0 + 1)))))))
  (some (.exit 0, (idxf_val_s2 s f_o f v0))) := (loopF_eq (N_idxf_val 2) idxf_val_B2 _).trans (by kernel_rfl)
theorem idxf_val_a2_ret (s : List Val) (f_o : Val → Prop) (f : Val → Bool) (v0 : Int) (v1 : Int) : idxf_val_C2 .ret (idxf_val_e2_ret s f_o f v0 v1) =
 some (R_idxf_val (v1)) := by kernel_rfl
theorem idxf_val_a2_x0 (s : List Val) (f_o : Val → Prop) (f : Val → Bool) (v0 : Int) : idxf_val_C2 (.exit 0) (idxf_val_s2 s f_o f v0) =
 some (R_idxf_val ((-1 : Int))) := by kernel_rfl
def allO_val (o : Val → Prop) (s : List Val) : Prop := ∀ x ∈ s, o x
def idxf_val (s : List Val) (_o : Val → Prop) (f : Val → Bool) : Int := match s.findIdx? f with | some i => (i : Int) | none => -1
theorem idxf_val_nonneg (s : List Val) (o : Val → Prop) (f : Val → Bool) : 0 ≤ idxf_val s o f ↔ s.any f = true := by
  unfold idxf_val
  cases h : s.findIdx? f with
  | none =>
    have := List.findIdx?_eq_none_iff.1 h
    simp only [List.any_eq_true]
    constructor
    · intro h1; exact absurd h1 (by decide)
    · rintro ⟨x, hx, hf⟩; rw [this x hx] at hf; simp at hf
  | some i =>
    obtain ⟨h1, h2, _⟩ := List.findIdx?_eq_some_iff_getElem.1 h
    simp only [List.any_eq_true]
    exact ⟨fun _ => ⟨s[i], List.getElem_mem h1, h2⟩, fun _ => by omega⟩
theorem idxf_val_spec (s : List Val) (o : Val → Prop) (f : Val → Bool) (hs : WL .val s) (ho : allO_val o s) : idxf_val_fn s o f = some (R_idxf_val (idxf_val s o f)) := by
  have key : ∀ (r : List Val) (i : Nat), s.drop i = r → i ≤ s.length → (idxf_val_L2 (idxf_val_s2 s o f i)).bind (thenX idxf_val_C2) = some (R_idxf_val (match r.findIdx? f with | some k => ((i + k : Nat) : Int) | none => -1)) := by
    intro r
    induction r with
    | nil =>
      intro i hr hi
      have : s.length ≤ i := by rw [← List.drop_eq_nil_iff]; exact hr
      have e : idxf_val_L2 (idxf_val_s2 s o f i) = some (.exit 0, idxf_val_s2 s o f i) := by rw [idxf_val_l2, cndO_eq, if_neg (by simp; omega)]
      rw [loop_end e, idxf_val_a2_x0]; rfl
    | cons x r ih =>
      intro i hr hi
      obtain ⟨a1, a2, a3, hm⟩ := drop_cons hr
      have hx : s.getD i zeroVal = x := a2 zeroVal
      by_cases hf : f x = true
      · have e : idxf_val_L2 (idxf_val_s2 s o f i) = some (.ret, idxf_val_e2_ret s o f i i) := by
          rw [idxf_val_l2, cndO_eq, if_pos (by simp; omega), obO_pos (by omega), Int.toNat_natCast, hx, obO_pos (ho x hm), cndO_eq, if_pos hf]
        rw [loop_end e, idxf_val_a2_ret]
        simp [List.findIdx?_cons, hf]
      · have e : idxf_val_L2 (idxf_val_s2 s o f i) = idxf_val_L2 (idxf_val_s2 s o f ((i + 1 : Nat) : Int)) := by
          rw [idxf_val_l2, cndO_eq, if_pos (by simp; omega), obO_pos (by omega), Int.toNat_natCast, hx, obO_pos (ho x hm), cndO_eq, if_neg hf, wrap_next a1 hs.len]
        rw [e, ih (i + 1) a3 (by omega)]
        congr 2
        simp only [List.findIdx?_cons, hf]
        cases r.findIdx? f with
        | none => rfl
        | some k => simp; omega
  rw [idxf_val_in]
  have := key s 0 rfl (Nat.zero_le _)
  refine Eq.trans this ?_
  unfold idxf_val
  cases s.findIdx? f <;> simp
def F_idxf_val : FnC Un := fun args => match args with
  | [x0, x1] => (dL .val x0).bind fun s => (dF x1).bind fun f => some ([f = (fvo_S_val_to_b (po_S_val_to_b f) (pf_S_val_to_b f)), allO_val (po_S_val_to_b f) s], A_idxf_val (idxf_val s (po_S_val_to_b f) (pf_S_val_to_b f)), O_idxf_val (idxf_val s (po_S_val_to_b f) (pf_S_val_to_b f)))
  | _ => none
theorem ok_idxf_val : FnOK 152 F_idxf_val := by
  intro args ob rs os h hob
  unfold F_idxf_val at h
  split at h
  · simp only [Option.bind_eq_some_iff, Option.some.injEq, Prod.mk.injEq] at h
    obtain ⟨s, e0, f, e1, rfl, rfl, rfl⟩ := h
    obtain rfl := dL_eq e0
    obtain rfl := dF_eq e1
    have hfv0 := hob _ (List.mem_of_getElem? (i := 0) rfl)
    generalize pf_S_val_to_b f = pp0 at *
    generalize po_S_val_to_b f = qq0 at *
    subst hfv0
    exact ⟨fn_contractF (M := M_idxf_val) rfl (tbl_ok (l1 := []) (l2 := []) (l3 := []) (l4 := []) (l5 := []) trivial trivial trivial trivial trivial) Tryz.func152 (by kernel_rfl) N_idxf_val 0 [.d] (fun hwf => (idxf_val_spec s qq0 pp0 (wfArg hwf (a := .d (.v (.dat (U := Un) Ty.val s))) (List.mem_of_getElem? (i := 0) rfl)) (hob _ (List.mem_of_getElem? (i := 1) rfl)))), hasBody_of Tryz.func152 (by kernel_rfl) (by kernel_rfl)⟩
  · simp at h
def M_conf_val : Mc Un := mach (tbl [(152, F_idxf_val)]) (tbl []) (tbl []) (tbl []) (tbl [])
def A_conf_val (r : Bool) : List (A Un) := [.c (.s (.bool r))]
def O_conf_val (_r : Bool) : List (Ob Un) := []
def R_conf_val (r : Bool) : RF Un := (A_conf_val r, O_conf_val r)
def N_conf_val : Nat → NS := fun l => (look l []).getD ⟨[], [], [], [], []⟩
def conf_val_fn (s : List Val) (f_o : Val → Prop) (f : Val → Bool) : Option (RF Un) := awf M_conf_val N_conf_val (bodyOf Tryz.f105) (entry Tryz.f105.ntmps 0 [.d (.v (.dat (U := Un) Ty.val s)), .fn (fvo_S_val_to_b f_o f)]) (retF M_conf_val Tryz.f105.results.toList [.d])
theorem conf_val_in (s : List Val) (f_o : Val → Prop) (f : Val → Bool) : conf_val_fn s f_o f =
 obO (fvo_S_val_to_b f_o f = fvo_S_val_to_b (po_S_val_to_b (fvo_S_val_to_b f_o f)) (pf_S_val_to_b (fvo_S_val_to_b f_o f)))
  (obO (allO_val (po_S_val_to_b (fvo_S_val_to_b f_o f)) s)
   (some (R_conf_val (decide (idxf_val s (po_S_val_to_b (fvo_S_val_to_b f_o f)) (pf_S_val_to_b (fvo_S_val_to_b f_o f)) ≥ 0))))) := by kernel_rfl
def conf_val (s : List Val) (_o : Val → Prop) (f : Val → Bool) : Bool := s.any f
theorem conf_val_spec (s : List Val) (o : Val → Prop) (f : Val → Bool) (_hs : WL .val s) (ho : allO_val o s) : conf_val_fn s o f = some (R_conf_val (conf_val s o f)) := by
  rw [conf_val_in]
  simp only [pofvo_S_val_to_b, pffvo_S_val_to_b]
  rw [obO_pos trivial, obO_pos ho]
  unfold conf_val
  congr 2
  have := idxf_val_nonneg s o f
  cases h : s.any f with
  | true => simp; exact this.2 h
  | false =>
    have : ¬ 0 ≤ idxf_val s o f := fun e => by rw [this.1 e] at h; simp at h
    simpa using this
def F_conf_val : FnC Un := fun args => match args with
  | [x0, x1] => (dL .val x0).bind fun s => (dF x1).bind fun f => some ([f = (fvo_S_val_to_b (po_S_val_to_b f) (pf_S_val_to_b f)), allO_val (po_S_val_to_b f) s], A_conf_val (conf_val s (po_S_val_to_b f) (pf_S_val_to_b f)), O_conf_val (conf_val s (po_S_val_to_b f) (pf_S_val_to_b f)))
  | _ => none
theorem ok_conf_val : FnOK 105 F_conf_val := by
  intro args ob rs os h hob
  unfold F_conf_val at h
  split at h
  · simp only [Option.bind_eq_some_iff, Option.some.injEq, Prod.mk.injEq] at h
    obtain ⟨s, e0, f, e1, rfl, rfl, rfl⟩ := h
    obtain rfl := dL_eq e0
    obtain rfl := dF_eq e1
    have hfv0 := hob _ (List.mem_of_getElem? (i := 0) rfl)
    generalize pf_S_val_to_b f = pp0 at *
    generalize po_S_val_to_b f = qq0 at *
    subst hfv0
    exact ⟨fn_contractF (M := M_conf_val) rfl (tbl_ok (l1 := [(152, F_idxf_val)]) (l2 := []) (l3 := []) (l4 := []) (l5 := []) ⟨ok_idxf_val, trivial⟩ trivial trivial trivial trivial) Tryz.func105 (by kernel_rfl) N_conf_val 0 [.d] (fun hwf => (conf_val_spec s qq0 pp0 (wfArg hwf (a := .d (.v (.dat (U := Un) Ty.val s))) (List.mem_of_getElem? (i := 0) rfl)) (hob _ (List.mem_of_getElem? (i := 1) rfl)))), hasBody_of Tryz.func105 (by kernel_rfl) (by kernel_rfl)⟩
  · simp at h
end
end Go.Proofs.YtmpnompddfhkeaaGreat.B
namespace Go.Proofs.YtmpnompddfhkeaaGreat.B
open Go Go.RowKit
set_option maxRecDepth 100000
noncomputable section
attribute [local irreducible] awp ctxK itersK iterK retQ retGQ awf ctxF loopF
def M_ev1_term : Mc Un := mach (tbl []) (tbl []) (tbl []) (tbl []) (tbl [])
def A_ev1_term (r : Bool) : List (A Un) := [.c (.s (.bool r))]
def O_ev1_term (_r : Bool) : List (Ob Un) := []
def R_ev1_term (r : Bool) : RF Un := (A_ev1_term r, O_ev1_term r)
def N_ev1_term : Nat → NS := fun l => (look l []).getD ⟨[], [], [], [], []⟩
def ev1_term_fn (x : Term) (so_o : Term → Prop) (so : Term → Bool) : Option (RF Un) := awf M_ev1_term N_ev1_term (bodyOf Tryz.f98) (entry Tryz.f98.ntmps 0 [.d (.agg (enc Ty.term x)), .box [.fn (fvo_S_term_to_b so_o so)]]) (retF M_ev1_term Tryz.f98.results.toList [.d])
theorem ev1_term_in (x : Term) (so_o : Term → Prop) (so : Term → Bool) : ev1_term_fn x so_o so =
 obO (so_o (Term.ids x))
  (some (R_ev1_term (!so (Term.ids x)))) := by kernel_rfl
def ev1_term (x : Term) (_so_o : Term → Prop) (so : Term → Bool) : Bool := !so x
theorem ev1_term_spec (x : Term) (so_o : Term → Prop) (so : Term → Bool) (_h : WS .term x) (h : so_o x) : ev1_term_fn x so_o so = some (R_ev1_term (ev1_term x so_o so)) := by
  rw [ev1_term_in, Term.ids_eq, obO_pos h]
  rfl
def L_ev1_term : List (List (DC Un)) → Option (FV Un) := fun dl => match dl with
  | [b0] => (bF b0).bind fun so => some (fvo_S_term_to_b (fun x => (so = fvo_S_term_to_b (po_S_term_to_b so) (pf_S_term_to_b so)) ∧ ((po_S_term_to_b so) x)) (fun x => ev1_term x (po_S_term_to_b so) (pf_S_term_to_b so)))
  | _ => none
theorem okL_ev1_term : ClOK 98 L_ev1_term := by
  refine ⟨hasBody_of Tryz.func98 (by kernel_rfl) (by kernel_rfl), fun dl φ args ob rs hF hφ hob => ?_⟩
  unfold L_ev1_term at hF
  split at hF
  · simp only [Option.bind_eq_some_iff, Option.some.injEq] at hF
    obtain ⟨so, g0, hE⟩ := hF
    subst hE
    obtain rfl := bF_eq g0
    unfold fvo_S_term_to_b at hφ
    split at hφ
    · simp only [Option.bind_eq_some_iff, Option.some.injEq, Prod.mk.injEq] at hφ
      obtain ⟨x, e0, rfl, rfl⟩ := hφ
      simp only [List.map_cons, List.map_nil, List.cons_append, List.nil_append]
      rw [dS_eq e0]
      have hfv0 := (hob _ (List.mem_of_getElem? (i := 0) rfl)).1
      generalize pf_S_term_to_b so = pp0 at *
      generalize po_S_term_to_b so = qq0 at *
      subst hfv0
      exact Contract.data (fn_contractF (M := M_ev1_term) rfl (tbl_ok (l1 := []) (l2 := []) (l3 := []) (l4 := []) (l5 := []) trivial trivial trivial trivial trivial) Tryz.func98 (by kernel_rfl) N_ev1_term 0 [.d] (fun hwf => (ev1_term_spec x qq0 pp0 (wfArg hwf (a := .d (.agg (enc Ty.term x))) (List.mem_of_getElem? (i := 0) rfl)) ((hob _ (List.mem_of_getElem? (i := 0) rfl)).2))))
    · simp at hφ
  · simp at hF
def M_ev_term : Mc Un := mach (tbl [(97, F_conf_term)]) (tbl []) (tbl [(98, L_ev1_term)]) (tbl []) (tbl [])
def A_ev_term (r : Bool) : List (A Un) := [.c (.s (.bool r))]
def O_ev_term (_r : Bool) : List (Ob Un) := []
def R_ev_term (r : Bool) : RF Un := (A_ev_term r, O_ev_term r)
def N_ev_term : Nat → NS := fun l => (look l []).getD ⟨[], [], [], [], []⟩
def ev_term_fn (l : List Term) (so_o : Term → Prop) (so : Term → Bool) : Option (RF Un) := awf M_ev_term N_ev_term (bodyOf Tryz.f29) (entry Tryz.f29.ntmps 0 [.d (.v (.dat (U := Un) Ty.term l)), .fn (fvo_S_term_to_b so_o so)]) (retF M_ev_term Tryz.f29.results.toList [.d])
theorem ev_term_in (l : List Term) (so_o : Term → Prop) (so : Term → Bool) : ev_term_fn l so_o so =
 obO ((fvo_S_term_to_b (fun x => fvo_S_term_to_b so_o so = fvo_S_term_to_b (po_S_term_to_b (fvo_S_term_to_b so_o so)) (pf_S_term_to_b (fvo_S_term_to_b so_o so)) ∧ po_S_term_to_b (fvo_S_term_to_b so_o so) x) fun x => ev1_term x (po_S_term_to_b (fvo_S_term_to_b so_o so)) (pf_S_term_to_b (fvo_S_term_to_b so_o so))) = fvo_S_term_to_b (po_S_term_to_b (fvo_S_term_to_b (fun x => fvo_S_term_to_b so_o so = fvo_S_term_to_b (po_S_term_to_b (fvo_S_term_to_b so_o so)) (pf_S_term_to_b (fvo_S_term_to_b so_o so)) ∧ po_S_term_to_b (fvo_S_term_to_b so_o so) x) fun x => ev1_term x (po_S_term_to_b (fvo_S_term_to_b so_o so)) (pf_S_term_to_b (fvo_S_term_to_b so_o so)))) (pf_S_term_to_b (fvo_S_term_to_b (fun x => fvo_S_term_to_b so_o so = fvo_S_term_to_b (po_S_term_to_b (fvo_S_term_to_b so_o so)) (pf_S_term_to_b (fvo_S_term_to_b so_o so)) ∧ po_S_term_to_b (fvo_S_term_to_b so_o so) x) fun x => ev1_term x (po_S_term_to_b (fvo_S_term_to_b so_o so)) (pf_S_term_to_b (fvo_S_term_to_b so_o so)))))
  (obO (allO_term (po_S_term_to_b (fvo_S_term_to_b (fun x => fvo_S_term_to_b so_o so = fvo_S_term_to_b (po_S_term_to_b (fvo_S_term_to_b so_o so)) (pf_S_term_to_b (fvo_S_term_to_b so_o so)) ∧ po_S_term_to_b (fvo_S_term_to_b so_o so) x) fun x => ev1_term x (po_S_term_to_b (fvo_S_term_to_b so_o so)) (pf_S_term_to_b (fvo_S_term_to_b so_o so)))) l)
   (some (R_ev_term (!conf_term l (po_S_term_to_b (fvo_S_term_to_b (fun x => fvo_S_term_to_b so_o so = fvo_S_term_to_b (po_S_term_to_b (fvo_S_term_to_b so_o so)) (pf_S_term_to_b (fvo_S_term_to_b so_o so)) ∧ po_S_term_to_b (fvo_S_term_to_b so_o so) x) fun x => ev1_term x (po_S_term_to_b (fvo_S_term_to_b so_o so)) (pf_S_term_to_b (fvo_S_term_to_b so_o so)))) (pf_S_term_to_b (fvo_S_term_to_b (fun x => fvo_S_term_to_b so_o so = fvo_S_term_to_b (po_S_term_to_b (fvo_S_term_to_b so_o so)) (pf_S_term_to_b (fvo_S_term_to_b so_o so)) ∧ po_S_term_to_b (fvo_S_term_to_b so_o so) x) fun x => ev1_term x (po_S_term_to_b (fvo_S_term_to_b so_o so)) (pf_S_term_to_b (fvo_S_term_to_b so_o so)))))))) := by kernel_rfl
def ev_term (l : List Term) (_so_o : Term → Prop) (so : Term → Bool) : Bool := l.all so
theorem ev_term_spec (l : List Term) (so_o : Term → Prop) (so : Term → Bool) (_hl : WL .term l) (h : allO_term so_o l) : ev_term_fn l so_o so = some (R_ev_term (ev_term l so_o so)) := by
  rw [ev_term_in]
  simp only [pofvo_S_term_to_b, pffvo_S_term_to_b]
  rw [obO_pos trivial, obO_pos (show allO_term _ l from fun x hx => ⟨trivial, h x hx⟩)]
  unfold ev_term conf_term ev1_term
  congr 2
  clear _hl h
  induction l with
  | nil => rfl
  | cons x l ih =>
    rw [List.any_cons, List.all_cons, Bool.not_or, Bool.not_not, ih]
def F_ev_term : FnC Un := fun args => match args with
  | [x0, x1] => (dL .term x0).bind fun l => (dF x1).bind fun so => some ([so = (fvo_S_term_to_b (po_S_term_to_b so) (pf_S_term_to_b so)), allO_term (po_S_term_to_b so) l], A_ev_term (ev_term l (po_S_term_to_b so) (pf_S_term_to_b so)), O_ev_term (ev_term l (po_S_term_to_b so) (pf_S_term_to_b so)))
  | _ => none
theorem ok_ev_term : FnOK 29 F_ev_term := by
  intro args ob rs os h hob
  unfold F_ev_term at h
  split at h
  · simp only [Option.bind_eq_some_iff, Option.some.injEq, Prod.mk.injEq] at h
    obtain ⟨l, e0, so, e1, rfl, rfl, rfl⟩ := h
    obtain rfl := dL_eq e0
    obtain rfl := dF_eq e1
    have hfv0 := hob _ (List.mem_of_getElem? (i := 0) rfl)
    generalize pf_S_term_to_b so = pp0 at *
    generalize po_S_term_to_b so = qq0 at *
    subst hfv0
    exact ⟨fn_contractF (M := M_ev_term) rfl (tbl_ok (l1 := [(97, F_conf_term)]) (l2 := []) (l3 := [(98, L_ev1_term)]) (l4 := []) (l5 := []) ⟨ok_conf_term, trivial⟩ trivial ⟨okL_ev1_term, trivial⟩ trivial trivial) Tryz.func29 (by kernel_rfl) N_ev_term 0 [.d] (fun hwf => (ev_term_spec l qq0 pp0 (wfArg hwf (a := .d (.v (.dat (U := Un) Ty.term l))) (List.mem_of_getElem? (i := 0) rfl)) (hob _ (List.mem_of_getElem? (i := 1) rfl)))), hasBody_of Tryz.func29 (by kernel_rfl) (by kernel_rfl)⟩
  · simp at h
def M_ev1_rel : Mc Un := mach (tbl []) (tbl []) (tbl []) (tbl []) (tbl [])
def A_ev1_rel (r : Bool) : List (A Un) := [.c (.s (.bool r))]
def O_ev1_rel (_r : Bool) : List (Ob Un) := []
def R_ev1_rel (r : Bool) : RF Un := (A_ev1_rel r, O_ev1_rel r)
def N_ev1_rel : Nat → NS := fun l => (look l []).getD ⟨[], [], [], [], []⟩
def ev1_rel_fn (x : Rel) (so_o : Rel → Prop) (so : Rel → Bool) : Option (RF Un) := awf M_ev1_rel N_ev1_rel (bodyOf Tryz.f96) (entry Tryz.f96.ntmps 0 [.d (.agg (enc Ty.rel x)), .box [.fn (fvo_S_rel_to_b so_o so)]]) (retF M_ev1_rel Tryz.f96.results.toList [.d])
theorem ev1_rel_in (x : Rel) (so_o : Rel → Prop) (so : Rel → Bool) : ev1_rel_fn x so_o so =
 obO (so_o (Rel.ids x))
  (some (R_ev1_rel (!so (Rel.ids x)))) := by kernel_rfl
def ev1_rel (x : Rel) (_so_o : Rel → Prop) (so : Rel → Bool) : Bool := !so x
theorem ev1_rel_spec (x : Rel) (so_o : Rel → Prop) (so : Rel → Bool) (_h : WS .rel x) (h : so_o x) : ev1_rel_fn x so_o so = some (R_ev1_rel (ev1_rel x so_o so)) := by
  rw [ev1_rel_in, Rel.ids_eq, obO_pos h]
  rfl
def L_ev1_rel : List (List (DC Un)) → Option (FV Un) := fun dl => match dl with
  | [b0] => (bF b0).bind fun so => some (fvo_S_rel_to_b (fun x => (so = fvo_S_rel_to_b (po_S_rel_to_b so) (pf_S_rel_to_b so)) ∧ ((po_S_rel_to_b so) x)) (fun x => ev1_rel x (po_S_rel_to_b so) (pf_S_rel_to_b so)))
  | _ => none
theorem okL_ev1_rel : ClOK 96 L_ev1_rel := by
  refine ⟨hasBody_of Tryz.func96 (by kernel_rfl) (by kernel_rfl), fun dl φ args ob rs hF hφ hob => ?_⟩
  unfold L_ev1_rel at hF
  split at hF
  · simp only [Option.bind_eq_some_iff, Option.some.injEq] at hF
    obtain ⟨so, g0, hE⟩ := hF
    subst hE
    obtain rfl := bF_eq g0
    unfold fvo_S_rel_to_b at hφ
    split at hφ
    · simp only [Option.bind_eq_some_iff, Option.some.injEq, Prod.mk.injEq] at hφ
      obtain ⟨x, e0, rfl, rfl⟩ := hφ
      simp only [List.map_cons, List.map_nil, List.cons_append, List.nil_append]
      rw [dS_eq e0]
      have hfv0 := (hob _ (List.mem_of_getElem? (i := 0) rfl)).1
      generalize pf_S_rel_to_b so = pp0 at *
      generalize po_S_rel_to_b so = qq0 at *
      subst hfv0
      exact Contract.data (fn_contractF (M := M_ev1_rel) rfl (tbl_ok (l1 := []) (l2 := []) (l3 := []) (l4 := []) (l5 := []) trivial trivial trivial trivial trivial) Tryz.func96 (by kernel_rfl) N_ev1_rel 0 [.d] (fun hwf => (ev1_rel_spec x qq0 pp0 (wfArg hwf (a := .d (.agg (enc Ty.rel x))) (List.mem_of_getElem? (i := 0) rfl)) ((hob _ (List.mem_of_getElem? (i := 0) rfl)).2))))
    · simp at hφ
  · simp at hF
def M_ev_rel : Mc Un := mach (tbl [(95, F_conf_rel)]) (tbl []) (tbl [(96, L_ev1_rel)]) (tbl []) (tbl [])
def A_ev_rel (r : Bool) : List (A Un) := [.c (.s (.bool r))]
def O_ev_rel (_r : Bool) : List (Ob Un) := []
def R_ev_rel (r : Bool) : RF Un := (A_ev_rel r, O_ev_rel r)
def N_ev_rel : Nat → NS := fun l => (look l []).getD ⟨[], [], [], [], []⟩
def ev_rel_fn (l : List Rel) (so_o : Rel → Prop) (so : Rel → Bool) : Option (RF Un) := awf M_ev_rel N_ev_rel (bodyOf Tryz.f26) (entry Tryz.f26.ntmps 0 [.d (.v (.dat (U := Un) Ty.rel l)), .fn (fvo_S_rel_to_b so_o so)]) (retF M_ev_rel Tryz.f26.results.toList [.d])
theorem ev_rel_in (l : List Rel) (so_o : Rel → Prop) (so : Rel → Bool) : ev_rel_fn l so_o so =
 obO ((fvo_S_rel_to_b (fun x => fvo_S_rel_to_b so_o so = fvo_S_rel_to_b (po_S_rel_to_b (fvo_S_rel_to_b so_o so)) (pf_S_rel_to_b (fvo_S_rel_to_b so_o so)) ∧ po_S_rel_to_b (fvo_S_rel_to_b so_o so) x) fun x => ev1_rel x (po_S_rel_to_b (fvo_S_rel_to_b so_o so)) (pf_S_rel_to_b (fvo_S_rel_to_b so_o so))) = fvo_S_rel_to_b (po_S_rel_to_b (fvo_S_rel_to_b (fun x => fvo_S_rel_to_b so_o so = fvo_S_rel_to_b (po_S_rel_to_b (fvo_S_rel_to_b so_o so)) (pf_S_rel_to_b (fvo_S_rel_to_b so_o so)) ∧ po_S_rel_to_b (fvo_S_rel_to_b so_o so) x) fun x => ev1_rel x (po_S_rel_to_b (fvo_S_rel_to_b so_o so)) (pf_S_rel_to_b (fvo_S_rel_to_b so_o so)))) (pf_S_rel_to_b (fvo_S_rel_to_b (fun x => fvo_S_rel_to_b so_o so = fvo_S_rel_to_b (po_S_rel_to_b (fvo_S_rel_to_b so_o so)) (pf_S_rel_to_b (fvo_S_rel_to_b so_o so)) ∧ po_S_rel_to_b (fvo_S_rel_to_b so_o so) x) fun x => ev1_rel x (po_S_rel_to_b (fvo_S_rel_to_b so_o so)) (pf_S_rel_to_b (fvo_S_rel_to_b so_o so)))))
  (obO (allO_rel (po_S_rel_to_b (fvo_S_rel_to_b (fun x => fvo_S_rel_to_b so_o so = fvo_S_rel_to_b (po_S_rel_to_b (fvo_S_rel_to_b so_o so)) (pf_S_rel_to_b (fvo_S_rel_to_b so_o so)) ∧ po_S_rel_to_b (fvo_S_rel_to_b so_o so) x) fun x => ev1_rel x (po_S_rel_to_b (fvo_S_rel_to_b so_o so)) (pf_S_rel_to_b (fvo_S_rel_to_b so_o so)))) l)
   (some (R_ev_rel (!conf_rel l (po_S_rel_to_b (fvo_S_rel_to_b (fun x => fvo_S_rel_to_b so_o so = fvo_S_rel_to_b (po_S_rel_to_b (fvo_S_rel_to_b so_o so)) (pf_S_rel_to_b (fvo_S_rel_to_b so_o so)) ∧ po_S_rel_to_b (fvo_S_rel_to_b so_o so) x) fun x => ev1_rel x (po_S_rel_to_b (fvo_S_rel_to_b so_o so)) (pf_S_rel_to_b (fvo_S_rel_to_b so_o so)))) (pf_S_rel_to_b (fvo_S_rel_to_b (fun x => fvo_S_rel_to_b so_o so = fvo_S_rel_to_b (po_S_rel_to_b (fvo_S_rel_to_b so_o so)) (pf_S_rel_to_b (fvo_S_rel_to_b so_o so)) ∧ po_S_rel_to_b (fvo_S_rel_to_b so_o so) x) fun x => ev1_rel x (po_S_rel_to_b (fvo_S_rel_to_b so_o so)) (pf_S_rel_to_b (fvo_S_rel_to_b so_o so)))))))) := by kernel_rfl
def ev_rel (l : List Rel) (_so_o : Rel → Prop) (so : Rel → Bool) : Bool := l.all so
theorem ev_rel_spec (l : List Rel) (so_o : Rel → Prop) (so : Rel → Bool) (_hl : WL .rel l) (h : allO_rel so_o l) : ev_rel_fn l so_o so = some (R_ev_rel (ev_rel l so_o so)) := by
  rw [ev_rel_in]
  simp only [pofvo_S_rel_to_b, pffvo_S_rel_to_b]
  rw [obO_pos trivial, obO_pos (show allO_rel _ l from fun x hx => ⟨trivial, h x hx⟩)]
  unfold ev_rel conf_rel ev1_rel
  congr 2
  clear _hl h
  induction l with
  | nil => rfl
  | cons x l ih =>
    rw [List.any_cons, List.all_cons, Bool.not_or, Bool.not_not, ih]
def F_ev_rel : FnC Un := fun args => match args with
  | [x0, x1] => (dL .rel x0).bind fun l => (dF x1).bind fun so => some ([so = (fvo_S_rel_to_b (po_S_rel_to_b so) (pf_S_rel_to_b so)), allO_rel (po_S_rel_to_b so) l], A_ev_rel (ev_rel l (po_S_rel_to_b so) (pf_S_rel_to_b so)), O_ev_rel (ev_rel l (po_S_rel_to_b so) (pf_S_rel_to_b so)))
  | _ => none
theorem ok_ev_rel : FnOK 26 F_ev_rel := by
  intro args ob rs os h hob
  unfold F_ev_rel at h
  split at h
  · simp only [Option.bind_eq_some_iff, Option.some.injEq, Prod.mk.injEq] at h
    obtain ⟨l, e0, so, e1, rfl, rfl, rfl⟩ := h
    obtain rfl := dL_eq e0
    obtain rfl := dF_eq e1
    have hfv0 := hob _ (List.mem_of_getElem? (i := 0) rfl)
    generalize pf_S_rel_to_b so = pp0 at *
    generalize po_S_rel_to_b so = qq0 at *
    subst hfv0
    exact ⟨fn_contractF (M := M_ev_rel) rfl (tbl_ok (l1 := [(95, F_conf_rel)]) (l2 := []) (l3 := [(96, L_ev1_rel)]) (l4 := []) (l5 := []) ⟨ok_conf_rel, trivial⟩ trivial ⟨okL_ev1_rel, trivial⟩ trivial trivial) Tryz.func26 (by kernel_rfl) N_ev_rel 0 [.d] (fun hwf => (ev_rel_spec l qq0 pp0 (wfArg hwf (a := .d (.v (.dat (U := Un) Ty.rel l))) (List.mem_of_getElem? (i := 0) rfl)) (hob _ (List.mem_of_getElem? (i := 1) rfl)))), hasBody_of Tryz.func26 (by kernel_rfl) (by kernel_rfl)⟩
  · simp at h
def M_ev1_row : Mc Un := mach (tbl []) (tbl []) (tbl []) (tbl []) (tbl [])
def A_ev1_row (r : Bool) : List (A Un) := [.c (.s (.bool r))]
def O_ev1_row (_r : Bool) : List (Ob Un) := []
def R_ev1_row (r : Bool) : RF Un := (A_ev1_row r, O_ev1_row r)
def N_ev1_row : Nat → NS := fun l => (look l []).getD ⟨[], [], [], [], []⟩
def ev1_row_fn (x : List Val) (so_o : (List Val) → Prop) (so : (List Val) → Bool) : Option (RF Un) := awf M_ev1_row N_ev1_row (bodyOf Tryz.f104) (entry Tryz.f104.ntmps 0 [.d (.v (.dat (U := Un) Ty.val x)), .box [.fn (fvo_L_val_to_b so_o so)]]) (retF M_ev1_row Tryz.f104.results.toList [.d])
theorem ev1_row_in (x : List Val) (so_o : (List Val) → Prop) (so : (List Val) → Bool) : ev1_row_fn x so_o so =
 obO (so_o x)
  (some (R_ev1_row (!so x))) := by kernel_rfl
def ev1_row (x : (List Val)) (_so_o : (List Val) → Prop) (so : (List Val) → Bool) : Bool := !so x
theorem ev1_row_spec (x : (List Val)) (so_o : (List Val) → Prop) (so : (List Val) → Bool) (_h : WL .val x) (h : so_o x) : ev1_row_fn x so_o so = some (R_ev1_row (ev1_row x so_o so)) := by
  rw [ev1_row_in, obO_pos h]
  rfl
def L_ev1_row : List (List (DC Un)) → Option (FV Un) := fun dl => match dl with
  | [b0] => (bF b0).bind fun so => some (fvo_L_val_to_b (fun x => (so = fvo_L_val_to_b (po_L_val_to_b so) (pf_L_val_to_b so)) ∧ ((po_L_val_to_b so) x)) (fun x => ev1_row x (po_L_val_to_b so) (pf_L_val_to_b so)))
  | _ => none
theorem okL_ev1_row : ClOK 104 L_ev1_row := by
  refine ⟨hasBody_of Tryz.func104 (by kernel_rfl) (by kernel_rfl), fun dl φ args ob rs hF hφ hob => ?_⟩
  unfold L_ev1_row at hF
  split at hF
  · simp only [Option.bind_eq_some_iff, Option.some.injEq] at hF
    obtain ⟨so, g0, hE⟩ := hF
    subst hE
    obtain rfl := bF_eq g0
    unfold fvo_L_val_to_b at hφ
    split at hφ
    · simp only [Option.bind_eq_some_iff, Option.some.injEq, Prod.mk.injEq] at hφ
      obtain ⟨x, e0, rfl, rfl⟩ := hφ
      simp only [List.map_cons, List.map_nil, List.cons_append, List.nil_append]
      rw [dL_eq e0]
      have hfv0 := (hob _ (List.mem_of_getElem? (i := 0) rfl)).1
      generalize pf_L_val_to_b so = pp0 at *
      generalize po_L_val_to_b so = qq0 at *
      subst hfv0
      exact Contract.data (fn_contractF (M := M_ev1_row) rfl (tbl_ok (l1 := []) (l2 := []) (l3 := []) (l4 := []) (l5 := []) trivial trivial trivial trivial trivial) Tryz.func104 (by kernel_rfl) N_ev1_row 0 [.d] (fun hwf => (ev1_row_spec x qq0 pp0 (wfArg hwf (a := .d (.v (.dat (U := Un) Ty.val x))) (List.mem_of_getElem? (i := 0) rfl)) ((hob _ (List.mem_of_getElem? (i := 0) rfl)).2))))
    · simp at hφ
  · simp at hF
def M_ev_row : Mc Un := mach (tbl [(103, F_conf_row)]) (tbl []) (tbl [(104, L_ev1_row)]) (tbl []) (tbl [])
def A_ev_row (r : Bool) : List (A Un) := [.c (.s (.bool r))]
def O_ev_row (_r : Bool) : List (Ob Un) := []
def R_ev_row (r : Bool) : RF Un := (A_ev_row r, O_ev_row r)
def N_ev_row : Nat → NS := fun l => (look l []).getD ⟨[], [], [], [], []⟩
def ev_row_fn (l : List (List Val)) (so_o : (List Val) → Prop) (so : (List Val) → Bool) : Option (RF Un) := awf M_ev_row N_ev_row (bodyOf Tryz.f32) (entry Tryz.f32.ntmps 0 [.d (.v (.dat (U := Un) Ty.row l)), .fn (fvo_L_val_to_b so_o so)]) (retF M_ev_row Tryz.f32.results.toList [.d])
theorem ev_row_in (l : List (List Val)) (so_o : (List Val) → Prop) (so : (List Val) → Bool) : ev_row_fn l so_o so =
 obO ((fvo_L_val_to_b (fun x => fvo_L_val_to_b so_o so = fvo_L_val_to_b (po_L_val_to_b (fvo_L_val_to_b so_o so)) (pf_L_val_to_b (fvo_L_val_to_b so_o so)) ∧ po_L_val_to_b (fvo_L_val_to_b so_o so) x) fun x => ev1_row x (po_L_val_to_b (fvo_L_val_to_b so_o so)) (pf_L_val_to_b (fvo_L_val_to_b so_o so))) = fvo_L_val_to_b (po_L_val_to_b (fvo_L_val_to_b (fun x => fvo_L_val_to_b so_o so = fvo_L_val_to_b (po_L_val_to_b (fvo_L_val_to_b so_o so)) (pf_L_val_to_b (fvo_L_val_to_b so_o so)) ∧ po_L_val_to_b (fvo_L_val_to_b so_o so) x) fun x => ev1_row x (po_L_val_to_b (fvo_L_val_to_b so_o so)) (pf_L_val_to_b (fvo_L_val_to_b so_o so)))) (pf_L_val_to_b (fvo_L_val_to_b (fun x => fvo_L_val_to_b so_o so = fvo_L_val_to_b (po_L_val_to_b (fvo_L_val_to_b so_o so)) (pf_L_val_to_b (fvo_L_val_to_b so_o so)) ∧ po_L_val_to_b (fvo_L_val_to_b so_o so) x) fun x => ev1_row x (po_L_val_to_b (fvo_L_val_to_b so_o so)) (pf_L_val_to_b (fvo_L_val_to_b so_o so)))))
  (obO (allO_row (po_L_val_to_b (fvo_L_val_to_b (fun x => fvo_L_val_to_b so_o so = fvo_L_val_to_b (po_L_val_to_b (fvo_L_val_to_b so_o so)) (pf_L_val_to_b (fvo_L_val_to_b so_o so)) ∧ po_L_val_to_b (fvo_L_val_to_b so_o so) x) fun x => ev1_row x (po_L_val_to_b (fvo_L_val_to_b so_o so)) (pf_L_val_to_b (fvo_L_val_to_b so_o so)))) l)
   (some (R_ev_row (!conf_row l (po_L_val_to_b (fvo_L_val_to_b (fun x => fvo_L_val_to_b so_o so = fvo_L_val_to_b (po_L_val_to_b (fvo_L_val_to_b so_o so)) (pf_L_val_to_b (fvo_L_val_to_b so_o so)) ∧ po_L_val_to_b (fvo_L_val_to_b so_o so) x) fun x => ev1_row x (po_L_val_to_b (fvo_L_val_to_b so_o so)) (pf_L_val_to_b (fvo_L_val_to_b so_o so)))) (pf_L_val_to_b (fvo_L_val_to_b (fun x => fvo_L_val_to_b so_o so = fvo_L_val_to_b (po_L_val_to_b (fvo_L_val_to_b so_o so)) (pf_L_val_to_b (fvo_L_val_to_b so_o so)) ∧ po_L_val_to_b (fvo_L_val_to_b so_o so) x) fun x => ev1_row x (po_L_val_to_b (fvo_L_val_to_b so_o so)) (pf_L_val_to_b (fvo_L_val_to_b so_o so)))))))) := by kernel_rfl
def ev_row (l : List (List Val)) (_so_o : (List Val) → Prop) (so : (List Val) → Bool) : Bool := l.all so
theorem ev_row_spec (l : List (List Val)) (so_o : (List Val) → Prop) (so : (List Val) → Bool) (_hl : WL .row l) (h : allO_row so_o l) : ev_row_fn l so_o so = some (R_ev_row (ev_row l so_o so)) := by
  rw [ev_row_in]
  simp only [pofvo_L_val_to_b, pffvo_L_val_to_b]
  rw [obO_pos trivial, obO_pos (show allO_row _ l from fun x hx => ⟨trivial, h x hx⟩)]
  unfold ev_row conf_row ev1_row
  congr 2
  clear _hl h
  induction l with
  | nil => rfl
  | cons x l ih =>
    rw [List.any_cons, List.all_cons, Bool.not_or, Bool.not_not, ih]
def F_ev_row : FnC Un := fun args => match args with
  | [x0, x1] => (dL .row x0).bind fun l => (dF x1).bind fun so => some ([so = (fvo_L_val_to_b (po_L_val_to_b so) (pf_L_val_to_b so)), allO_row (po_L_val_to_b so) l], A_ev_row (ev_row l (po_L_val_to_b so) (pf_L_val_to_b so)), O_ev_row (ev_row l (po_L_val_to_b so) (pf_L_val_to_b so)))
  | _ => none
theorem ok_ev_row : FnOK 32 F_ev_row := by
  intro args ob rs os h hob
  unfold F_ev_row at h
  split at h
  · simp only [Option.bind_eq_some_iff, Option.some.injEq, Prod.mk.injEq] at h
    obtain ⟨l, e0, so, e1, rfl, rfl, rfl⟩ := h
    obtain rfl := dL_eq e0
    obtain rfl := dF_eq e1
    have hfv0 := hob _ (List.mem_of_getElem? (i := 0) rfl)
    generalize pf_L_val_to_b so = pp0 at *
    generalize po_L_val_to_b so = qq0 at *
    subst hfv0
    exact ⟨fn_contractF (M := M_ev_row) rfl (tbl_ok (l1 := [(103, F_conf_row)]) (l2 := []) (l3 := [(104, L_ev1_row)]) (l4 := []) (l5 := []) ⟨ok_conf_row, trivial⟩ trivial ⟨okL_ev1_row, trivial⟩ trivial trivial) Tryz.func32 (by kernel_rfl) N_ev_row 0 [.d] (fun hwf => (ev_row_spec l qq0 pp0 (wfArg hwf (a := .d (.v (.dat (U := Un) Ty.row l))) (List.mem_of_getElem? (i := 0) rfl)) (hob _ (List.mem_of_getElem? (i := 1) rfl)))), hasBody_of Tryz.func32 (by kernel_rfl) (by kernel_rfl)⟩
  · simp at h
def M_ev1_by_ : Mc Un := mach (tbl []) (tbl []) (tbl []) (tbl []) (tbl [])
def A_ev1_by_ (r : Bool) : List (A Un) := [.c (.s (.bool r))]
def O_ev1_by_ (_r : Bool) : List (Ob Un) := []
def R_ev1_by_ (r : Bool) : RF Un := (A_ev1_by_ r, O_ev1_by_ r)
def N_ev1_by_ : Nat → NS := fun l => (look l []).getD ⟨[], [], [], [], []⟩
def ev1_by__fn (x : By) (so_o : By → Prop) (so : By → Bool) : Option (RF Un) := awf M_ev1_by_ N_ev1_by_ (bodyOf Tryz.f111) (entry Tryz.f111.ntmps 0 [.d (.agg (enc Ty.by_ x)), .box [.fn (fvo_S_by__to_b so_o so)]]) (retF M_ev1_by_ Tryz.f111.results.toList [.d])
theorem ev1_by__in (x : By) (so_o : By → Prop) (so : By → Bool) : ev1_by__fn x so_o so =
 obO (so_o x)
  (some (R_ev1_by_ (!so x))) := by kernel_rfl
def ev1_by_ (x : By) (_so_o : By → Prop) (so : By → Bool) : Bool := !so x
theorem ev1_by__spec (x : By) (so_o : By → Prop) (so : By → Bool) (_h : WS .by_ x) (h : so_o x) : ev1_by__fn x so_o so = some (R_ev1_by_ (ev1_by_ x so_o so)) := by
  rw [ev1_by__in, obO_pos h]
  rfl
def L_ev1_by_ : List (List (DC Un)) → Option (FV Un) := fun dl => match dl with
  | [b0] => (bF b0).bind fun so => some (fvo_S_by__to_b (fun x => (so = fvo_S_by__to_b (po_S_by__to_b so) (pf_S_by__to_b so)) ∧ ((po_S_by__to_b so) x)) (fun x => ev1_by_ x (po_S_by__to_b so) (pf_S_by__to_b so)))
  | _ => none
theorem okL_ev1_by_ : ClOK 111 L_ev1_by_ := by
  refine ⟨hasBody_of Tryz.func111 (by kernel_rfl) (by kernel_rfl), fun dl φ args ob rs hF hφ hob => ?_⟩
  unfold L_ev1_by_ at hF
  split at hF
  · simp only [Option.bind_eq_some_iff, Option.some.injEq] at hF
    obtain ⟨so, g0, hE⟩ := hF
    subst hE
    obtain rfl := bF_eq g0
    unfold fvo_S_by__to_b at hφ
    split at hφ
    · simp only [Option.bind_eq_some_iff, Option.some.injEq, Prod.mk.injEq] at hφ
      obtain ⟨x, e0, rfl, rfl⟩ := hφ
      simp only [List.map_cons, List.map_nil, List.cons_append, List.nil_append]
      rw [dS_eq e0]
      have hfv0 := (hob _ (List.mem_of_getElem? (i := 0) rfl)).1
      generalize pf_S_by__to_b so = pp0 at *
      generalize po_S_by__to_b so = qq0 at *
      subst hfv0
      exact Contract.data (fn_contractF (M := M_ev1_by_) rfl (tbl_ok (l1 := []) (l2 := []) (l3 := []) (l4 := []) (l5 := []) trivial trivial trivial trivial trivial) Tryz.func111 (by kernel_rfl) N_ev1_by_ 0 [.d] (fun hwf => (ev1_by__spec x qq0 pp0 (wfArg hwf (a := .d (.agg (enc Ty.by_ x))) (List.mem_of_getElem? (i := 0) rfl)) ((hob _ (List.mem_of_getElem? (i := 0) rfl)).2))))
    · simp at hφ
  · simp at hF
def M_ev_by_ : Mc Un := mach (tbl [(110, F_conf_by_)]) (tbl []) (tbl [(111, L_ev1_by_)]) (tbl []) (tbl [])
def A_ev_by_ (r : Bool) : List (A Un) := [.c (.s (.bool r))]
def O_ev_by_ (_r : Bool) : List (Ob Un) := []
def R_ev_by_ (r : Bool) : RF Un := (A_ev_by_ r, O_ev_by_ r)
def N_ev_by_ : Nat → NS := fun l => (look l []).getD ⟨[], [], [], [], []⟩
def ev_by__fn (l : List By) (so_o : By → Prop) (so : By → Bool) : Option (RF Un) := awf M_ev_by_ N_ev_by_ (bodyOf Tryz.f38) (entry Tryz.f38.ntmps 0 [.d (.v (.dat (U := Un) Ty.by_ l)), .fn (fvo_S_by__to_b so_o so)]) (retF M_ev_by_ Tryz.f38.results.toList [.d])
theorem ev_by__in (l : List By) (so_o : By → Prop) (so : By → Bool) : ev_by__fn l so_o so =
 obO ((fvo_S_by__to_b (fun x => fvo_S_by__to_b so_o so = fvo_S_by__to_b (po_S_by__to_b (fvo_S_by__to_b so_o so)) (pf_S_by__to_b (fvo_S_by__to_b so_o so)) ∧ po_S_by__to_b (fvo_S_by__to_b so_o so) x) fun x => ev1_by_ x (po_S_by__to_b (fvo_S_by__to_b so_o so)) (pf_S_by__to_b (fvo_S_by__to_b so_o so))) = fvo_S_by__to_b (po_S_by__to_b (fvo_S_by__to_b (fun x => fvo_S_by__to_b so_o so = fvo_S_by__to_b (po_S_by__to_b (fvo_S_by__to_b so_o so)) (pf_S_by__to_b (fvo_S_by__to_b so_o so)) ∧ po_S_by__to_b (fvo_S_by__to_b so_o so) x) fun x => ev1_by_ x (po_S_by__to_b (fvo_S_by__to_b so_o so)) (pf_S_by__to_b (fvo_S_by__to_b so_o so)))) (pf_S_by__to_b (fvo_S_by__to_b (fun x => fvo_S_by__to_b so_o so = fvo_S_by__to_b (po_S_by__to_b (fvo_S_by__to_b so_o so)) (pf_S_by__to_b (fvo_S_by__to_b so_o so)) ∧ po_S_by__to_b (fvo_S_by__to_b so_o so) x) fun x => ev1_by_ x (po_S_by__to_b (fvo_S_by__to_b so_o so)) (pf_S_by__to_b (fvo_S_by__to_b so_o so)))))
  (obO (allO_by_ (po_S_by__to_b (fvo_S_by__to_b (fun x => fvo_S_by__to_b so_o so = fvo_S_by__to_b (po_S_by__to_b (fvo_S_by__to_b so_o so)) (pf_S_by__to_b (fvo_S_by__to_b so_o so)) ∧ po_S_by__to_b (fvo_S_by__to_b so_o so) x) fun x => ev1_by_ x (po_S_by__to_b (fvo_S_by__to_b so_o so)) (pf_S_by__to_b (fvo_S_by__to_b so_o so)))) l)
   (some (R_ev_by_ (!conf_by_ l (po_S_by__to_b (fvo_S_by__to_b (fun x => fvo_S_by__to_b so_o so = fvo_S_by__to_b (po_S_by__to_b (fvo_S_by__to_b so_o so)) (pf_S_by__to_b (fvo_S_by__to_b so_o so)) ∧ po_S_by__to_b (fvo_S_by__to_b so_o so) x) fun x => ev1_by_ x (po_S_by__to_b (fvo_S_by__to_b so_o so)) (pf_S_by__to_b (fvo_S_by__to_b so_o so)))) (pf_S_by__to_b (fvo_S_by__to_b (fun x => fvo_S_by__to_b so_o so = fvo_S_by__to_b (po_S_by__to_b (fvo_S_by__to_b so_o so)) (pf_S_by__to_b (fvo_S_by__to_b so_o so)) ∧ po_S_by__to_b (fvo_S_by__to_b so_o so) x) fun x => ev1_by_ x (po_S_by__to_b (fvo_S_by__to_b so_o so)) (pf_S_by__to_b (fvo_S_by__to_b so_o so)))))))) := by kernel_rfl
def ev_by_ (l : List By) (_so_o : By → Prop) (so : By → Bool) : Bool := l.all so
theorem ev_by__spec (l : List By) (so_o : By → Prop) (so : By → Bool) (_hl : WL .by_ l) (h : allO_by_ so_o l) : ev_by__fn l so_o so = some (R_ev_by_ (ev_by_ l so_o so)) := by
  rw [ev_by__in]
  simp only [pofvo_S_by__to_b, pffvo_S_by__to_b]
  rw [obO_pos trivial, obO_pos (show allO_by_ _ l from fun x hx => ⟨trivial, h x hx⟩)]
  unfold ev_by_ conf_by_ ev1_by_
  congr 2
  clear _hl h
  induction l with
  | nil => rfl
  | cons x l ih =>
    rw [List.any_cons, List.all_cons, Bool.not_or, Bool.not_not, ih]
def F_ev_by_ : FnC Un := fun args => match args with
  | [x0, x1] => (dL .by_ x0).bind fun l => (dF x1).bind fun so => some ([so = (fvo_S_by__to_b (po_S_by__to_b so) (pf_S_by__to_b so)), allO_by_ (po_S_by__to_b so) l], A_ev_by_ (ev_by_ l (po_S_by__to_b so) (pf_S_by__to_b so)), O_ev_by_ (ev_by_ l (po_S_by__to_b so) (pf_S_by__to_b so)))
  | _ => none
theorem ok_ev_by_ : FnOK 38 F_ev_by_ := by
  intro args ob rs os h hob
  unfold F_ev_by_ at h
  split at h
  · simp only [Option.bind_eq_some_iff, Option.some.injEq, Prod.mk.injEq] at h
    obtain ⟨l, e0, so, e1, rfl, rfl, rfl⟩ := h
    obtain rfl := dL_eq e0
    obtain rfl := dF_eq e1
    have hfv0 := hob _ (List.mem_of_getElem? (i := 0) rfl)
    generalize pf_S_by__to_b so = pp0 at *
    generalize po_S_by__to_b so = qq0 at *
    subst hfv0
    exact ⟨fn_contractF (M := M_ev_by_) rfl (tbl_ok (l1 := [(110, F_conf_by_)]) (l2 := []) (l3 := [(111, L_ev1_by_)]) (l4 := []) (l5 := []) ⟨ok_conf_by_, trivial⟩ trivial ⟨okL_ev1_by_, trivial⟩ trivial trivial) Tryz.func38 (by kernel_rfl) N_ev_by_ 0 [.d] (fun hwf => (ev_by__spec l qq0 pp0 (wfArg hwf (a := .d (.v (.dat (U := Un) Ty.by_ l))) (List.mem_of_getElem? (i := 0) rfl)) (hob _ (List.mem_of_getElem? (i := 1) rfl)))), hasBody_of Tryz.func38 (by kernel_rfl) (by kernel_rfl)⟩
  · simp at h
def M_ev1_agg : Mc Un := mach (tbl []) (tbl []) (tbl []) (tbl []) (tbl [])
def A_ev1_agg (r : Bool) : List (A Un) := [.c (.s (.bool r))]
def O_ev1_agg (_r : Bool) : List (Ob Un) := []
def R_ev1_agg (r : Bool) : RF Un := (A_ev1_agg r, O_ev1_agg r)
def N_ev1_agg : Nat → NS := fun l => (look l []).getD ⟨[], [], [], [], []⟩
def ev1_agg_fn (x : Agg) (so_o : Agg → Prop) (so : Agg → Bool) : Option (RF Un) := awf M_ev1_agg N_ev1_agg (bodyOf Tryz.f108) (entry Tryz.f108.ntmps 0 [.d (.agg (enc Ty.agg x)), .box [.fn (fvo_S_agg_to_b so_o so)]]) (retF M_ev1_agg Tryz.f108.results.toList [.d])
theorem ev1_agg_in (x : Agg) (so_o : Agg → Prop) (so : Agg → Bool) : ev1_agg_fn x so_o so =
 obO (so_o (Agg.ids x))
  (some (R_ev1_agg (!so (Agg.ids x)))) := by kernel_rfl
def ev1_agg (x : Agg) (_so_o : Agg → Prop) (so : Agg → Bool) : Bool := !so x
theorem ev1_agg_spec (x : Agg) (so_o : Agg → Prop) (so : Agg → Bool) (_h : WS .agg x) (h : so_o x) : ev1_agg_fn x so_o so = some (R_ev1_agg (ev1_agg x so_o so)) := by
  rw [ev1_agg_in, Agg.ids_eq, obO_pos h]
  rfl
def L_ev1_agg : List (List (DC Un)) → Option (FV Un) := fun dl => match dl with
  | [b0] => (bF b0).bind fun so => some (fvo_S_agg_to_b (fun x => (so = fvo_S_agg_to_b (po_S_agg_to_b so) (pf_S_agg_to_b so)) ∧ ((po_S_agg_to_b so) x)) (fun x => ev1_agg x (po_S_agg_to_b so) (pf_S_agg_to_b so)))
  | _ => none
theorem okL_ev1_agg : ClOK 108 L_ev1_agg := by
  refine ⟨hasBody_of Tryz.func108 (by kernel_rfl) (by kernel_rfl), fun dl φ args ob rs hF hφ hob => ?_⟩
  unfold L_ev1_agg at hF
  split at hF
  · simp only [Option.bind_eq_some_iff, Option.some.injEq] at hF
    obtain ⟨so, g0, hE⟩ := hF
    subst hE
    obtain rfl := bF_eq g0
    unfold fvo_S_agg_to_b at hφ
    split at hφ
    · simp only [Option.bind_eq_some_iff, Option.some.injEq, Prod.mk.injEq] at hφ
      obtain ⟨x, e0, rfl, rfl⟩ := hφ
      simp only [List.map_cons, List.map_nil, List.cons_append, List.nil_append]
      rw [dS_eq e0]
      have hfv0 := (hob _ (List.mem_of_getElem? (i := 0) rfl)).1
      generalize pf_S_agg_to_b so = pp0 at *
      generalize po_S_agg_to_b so = qq0 at *
      subst hfv0
      exact Contract.data (fn_contractF (M := M_ev1_agg) rfl (tbl_ok (l1 := []) (l2 := []) (l3 := []) (l4 := []) (l5 := []) trivial trivial trivial trivial trivial) Tryz.func108 (by kernel_rfl) N_ev1_agg 0 [.d] (fun hwf => (ev1_agg_spec x qq0 pp0 (wfArg hwf (a := .d (.agg (enc Ty.agg x))) (List.mem_of_getElem? (i := 0) rfl)) ((hob _ (List.mem_of_getElem? (i := 0) rfl)).2))))
    · simp at hφ
  · simp at hF
def M_ev_agg : Mc Un := mach (tbl [(107, F_conf_agg)]) (tbl []) (tbl [(108, L_ev1_agg)]) (tbl []) (tbl [])
def A_ev_agg (r : Bool) : List (A Un) := [.c (.s (.bool r))]
def O_ev_agg (_r : Bool) : List (Ob Un) := []
def R_ev_agg (r : Bool) : RF Un := (A_ev_agg r, O_ev_agg r)
def N_ev_agg : Nat → NS := fun l => (look l []).getD ⟨[], [], [], [], []⟩
def ev_agg_fn (l : List Agg) (so_o : Agg → Prop) (so : Agg → Bool) : Option (RF Un) := awf M_ev_agg N_ev_agg (bodyOf Tryz.f35) (entry Tryz.f35.ntmps 0 [.d (.v (.dat (U := Un) Ty.agg l)), .fn (fvo_S_agg_to_b so_o so)]) (retF M_ev_agg Tryz.f35.results.toList [.d])
theorem ev_agg_in (l : List Agg) (so_o : Agg → Prop) (so : Agg → Bool) : ev_agg_fn l so_o so =
 obO ((fvo_S_agg_to_b (fun x => fvo_S_agg_to_b so_o so = fvo_S_agg_to_b (po_S_agg_to_b (fvo_S_agg_to_b so_o so)) (pf_S_agg_to_b (fvo_S_agg_to_b so_o so)) ∧ po_S_agg_to_b (fvo_S_agg_to_b so_o so) x) fun x => ev1_agg x (po_S_agg_to_b (fvo_S_agg_to_b so_o so)) (pf_S_agg_to_b (fvo_S_agg_to_b so_o so))) = fvo_S_agg_to_b (po_S_agg_to_b (fvo_S_agg_to_b (fun x => fvo_S_agg_to_b so_o so = fvo_S_agg_to_b (po_S_agg_to_b (fvo_S_agg_to_b so_o so)) (pf_S_agg_to_b (fvo_S_agg_to_b so_o so)) ∧ po_S_agg_to_b (fvo_S_agg_to_b so_o so) x) fun x => ev1_agg x (po_S_agg_to_b (fvo_S_agg_to_b so_o so)) (pf_S_agg_to_b (fvo_S_agg_to_b so_o so)))) (pf_S_agg_to_b (fvo_S_agg_to_b (fun x => fvo_S_agg_to_b so_o so = fvo_S_agg_to_b (po_S_agg_to_b (fvo_S_agg_to_b so_o so)) (pf_S_agg_to_b (fvo_S_agg_to_b so_o so)) ∧ po_S_agg_to_b (fvo_S_agg_to_b so_o so) x) fun x => ev1_agg x (po_S_agg_to_b (fvo_S_agg_to_b so_o so)) (pf_S_agg_to_b (fvo_S_agg_to_b so_o so)))))
  (obO (allO_agg (po_S_agg_to_b (fvo_S_agg_to_b (fun x => fvo_S_agg_to_b so_o so = fvo_S_agg_to_b (po_S_agg_to_b (fvo_S_agg_to_b so_o so)) (pf_S_agg_to_b (fvo_S_agg_to_b so_o so)) ∧ po_S_agg_to_b (fvo_S_agg_to_b so_o so) x) fun x => ev1_agg x (po_S_agg_to_b (fvo_S_agg_to_b so_o so)) (pf_S_agg_to_b (fvo_S_agg_to_b so_o so)))) l)
   (some (R_ev_agg (!conf_agg l (po_S_agg_to_b (fvo_S_agg_to_b (fun x => fvo_S_agg_to_b so_o so = fvo_S_agg_to_b (po_S_agg_to_b (fvo_S_agg_to_b so_o so)) (pf_S_agg_to_b (fvo_S_agg_to_b so_o so)) ∧ po_S_agg_to_b (fvo_S_agg_to_b so_o so) x) fun x => ev1_agg x (po_S_agg_to_b (fvo_S_agg_to_b so_o so)) (pf_S_agg_to_b (fvo_S_agg_to_b so_o so)))) (pf_S_agg_to_b (fvo_S_agg_to_b (fun x => fvo_S_agg_to_b so_o so = fvo_S_agg_to_b (po_S_agg_to_b (fvo_S_agg_to_b so_o so)) (pf_S_agg_to_b (fvo_S_agg_to_b so_o so)) ∧ po_S_agg_to_b (fvo_S_agg_to_b so_o so) x) fun x => ev1_agg x (po_S_agg_to_b (fvo_S_agg_to_b so_o so)) (pf_S_agg_to_b (fvo_S_agg_to_b so_o so)))))))) := by kernel_rfl
def ev_agg (l : List Agg) (_so_o : Agg → Prop) (so : Agg → Bool) : Bool := l.all so
theorem ev_agg_spec (l : List Agg) (so_o : Agg → Prop) (so : Agg → Bool) (_hl : WL .agg l) (h : allO_agg so_o l) : ev_agg_fn l so_o so = some (R_ev_agg (ev_agg l so_o so)) := by
  rw [ev_agg_in]
  simp only [pofvo_S_agg_to_b, pffvo_S_agg_to_b]
  rw [obO_pos trivial, obO_pos (show allO_agg _ l from fun x hx => ⟨trivial, h x hx⟩)]
  unfold ev_agg conf_agg ev1_agg
  congr 2
  clear _hl h
  induction l with
  | nil => rfl
  | cons x l ih =>
    rw [List.any_cons, List.all_cons, Bool.not_or, Bool.not_not, ih]
def F_ev_agg : FnC Un := fun args => match args with
  | [x0, x1] => (dL .agg x0).bind fun l => (dF x1).bind fun so => some ([so = (fvo_S_agg_to_b (po_S_agg_to_b so) (pf_S_agg_to_b so)), allO_agg (po_S_agg_to_b so) l], A_ev_agg (ev_agg l (po_S_agg_to_b so) (pf_S_agg_to_b so)), O_ev_agg (ev_agg l (po_S_agg_to_b so) (pf_S_agg_to_b so)))
  | _ => none
theorem ok_ev_agg : FnOK 35 F_ev_agg := by
  intro args ob rs os h hob
  unfold F_ev_agg at h
  split at h
  · simp only [Option.bind_eq_some_iff, Option.some.injEq, Prod.mk.injEq] at h
    obtain ⟨l, e0, so, e1, rfl, rfl, rfl⟩ := h
    obtain rfl := dL_eq e0
    obtain rfl := dF_eq e1
    have hfv0 := hob _ (List.mem_of_getElem? (i := 0) rfl)
    generalize pf_S_agg_to_b so = pp0 at *
    generalize po_S_agg_to_b so = qq0 at *
    subst hfv0
    exact ⟨fn_contractF (M := M_ev_agg) rfl (tbl_ok (l1 := [(107, F_conf_agg)]) (l2 := []) (l3 := [(108, L_ev1_agg)]) (l4 := []) (l5 := []) ⟨ok_conf_agg, trivial⟩ trivial ⟨okL_ev1_agg, trivial⟩ trivial trivial) Tryz.func35 (by kernel_rfl) N_ev_agg 0 [.d] (fun hwf => (ev_agg_spec l qq0 pp0 (wfArg hwf (a := .d (.v (.dat (U := Un) Ty.agg l))) (List.mem_of_getElem? (i := 0) rfl)) (hob _ (List.mem_of_getElem? (i := 1) rfl)))), hasBody_of Tryz.func35 (by kernel_rfl) (by kernel_rfl)⟩
  · simp at h
end
end Go.Proofs.YtmpnompddfhkeaaGreat.B
namespace Go.Proofs.YtmpnompddfhkeaaGreat.B
open Go Go.RowKit
set_option maxRecDepth 100000
noncomputable section
attribute [local irreducible] awp ctxK itersK iterK retQ retGQ awf ctxF loopF
def M_idx_int : Mc Un := mach (tbl []) (tbl []) (tbl []) (tbl []) (tbl [])
def A_idx_int (r : Int) : List (A Un) := [.c (.s (.int .i64 r))]
def O_idx_int (_r : Int) : List (Ob Un) := []
def R_idx_int (r : Int) : RF Un := (A_idx_int r, O_idx_int r)
def N_idx_int : Nat → NS := fun l => (look l [(2, { ts := bl 19 403, bs := bl 19 0, nm := [] })]).getD ⟨[], [], [], [], []⟩
def idx_int_s2 (s : List Int) (v : Int) (v0 : Int) : S Un := (st 19 19 76 0 [(0, al .int s), (1, ai v), (4, ai (0 : Int)), (7, ai (↑s.length : Int)), (8, ai v0)] [] [])
def idx_int_e2_ret (s : List Int) (v : Int) (v0 : Int) (v1 : Int) : S Un := (st 19 19 76 0 [(0, al .int s), (1, ai v), (4, ai v1), (7, ai (↑s.length : Int)), (8, ai v0)] [] [])
def idx_int_B2 : Code := sub (bodyOf Tryz.f144) [1, 0, 1, 2, 2]
def idx_int_L2 : S Un → Option (EX Un) := loopF (N_idx_int 2) (fun s Q => awf M_idx_int N_idx_int idx_int_B2 s Q)
def idx_int_C2 : Exit → S Un → Option (RF Un) := ctxF M_idx_int N_idx_int (bodyOf Tryz.f144) [1, 0, 1, 2] (retF M_idx_int Tryz.f144.results.toList [.d])
def idx_int_fn (s : List Int) (v : Int) : Option (RF Un) := awf M_idx_int N_idx_int (bodyOf Tryz.f144) (entry Tryz.f144.ntmps 0 [.d (.v (.dat (U := Un) Ty.int s)), .d (.v (.s (.int .i64 v)))]) (retF M_idx_int Tryz.f144.results.toList [.d])
theorem idx_int_in (s : List Int) (v : Int) : idx_int_fn s v =
 (idx_int_L2 (idx_int_s2 s v (0 : Int))).bind (thenX idx_int_C2) := by kernel_rfl
theorem idx_int_l2 (s : List Int) (v : Int) (v0 : Int) : idx_int_L2 (idx_int_s2 s v v0) =
 cndO (decide (v0 < (↑s.length : Int)))
  (obO (0 ≤ v0 ∧ v0 < (↑s.length : Int))
   (cndO (v == s.getD v0.toNat (0 : Int))
    (some (.ret, (idx_int_e2_ret s v v0 v0)))
    (idx_int_L2 (idx_int_s2 s v (IntKind.i64.wrap (v0 + 1))))))
  (some (.exit 0, (idx_int_s2 s v v0))) := (loopF_eq (N_idx_int 2) idx_int_B2 _).trans (by kernel_rfl)
theorem idx_int_a2_ret (s : List Int) (v : Int) (v0 : Int) (v1 : Int) : idx_int_C2 .ret (idx_int_e2_ret s v v0 v1) =
 some (R_idx_int (v1)) := by kernel_rfl
theorem idx_int_a2_x0 (s : List Int) (v : Int) (v0 : Int) : idx_int_C2 (.exit 0) (idx_int_s2 s v v0) =
 some (R_idx_int ((-1 : Int))) := by kernel_rfl
def idx_int (s : List Int) (v : Int) : Int := match s.findIdx? (fun x => v == x) with | some i => (i : Int) | none => -1
theorem idx_nonneg {α : Type} (s : List α) (f : α → Bool) : 0 ≤ (match s.findIdx? f with | some i => (i : Int) | none => -1) ↔ s.any f = true := by
  cases h : s.findIdx? f with
  | none =>
    have := List.findIdx?_eq_none_iff.1 h
    simp only [List.any_eq_true]
    constructor
    · intro h1; exact absurd h1 (by decide)
    · rintro ⟨x, hx, hf⟩; rw [this x hx] at hf; simp at hf
  | some i =>
    obtain ⟨h1, h2, _⟩ := List.findIdx?_eq_some_iff_getElem.1 h
    simp only [List.any_eq_true]
    exact ⟨fun _ => ⟨s[i], List.getElem_mem h1, h2⟩, fun _ => by omega⟩
theorem idx_int_spec (s : List Int) (v : Int) (hs : WL .int s) (_hv : WI v) : idx_int_fn s v = some (R_idx_int (idx_int s v)) := by
  have key : ∀ (r : List Int) (i : Nat), s.drop i = r → i ≤ s.length → (idx_int_L2 (idx_int_s2 s v i)).bind (thenX idx_int_C2) = some (R_idx_int (match r.findIdx? (fun x => v == x) with | some k => ((i + k : Nat) : Int) | none => -1)) := by
    intro r
    induction r with
    | nil =>
      intro i hr hi
      have : s.length ≤ i := by rw [← List.drop_eq_nil_iff]; exact hr
      have e : idx_int_L2 (idx_int_s2 s v i) = some (.exit 0, idx_int_s2 s v i) := by rw [idx_int_l2, cndO_eq, if_neg (by simp; omega)]
      rw [loop_end e, idx_int_a2_x0]; rfl
    | cons x r ih =>
      intro i hr hi
      obtain ⟨a1, a2, a3, hm⟩ := drop_cons hr
      have hx : s.getD i 0 = x := a2 0
      by_cases hf : v = x
      · have e : idx_int_L2 (idx_int_s2 s v i) = some (.ret, idx_int_e2_ret s v i i) := by
          rw [idx_int_l2, cndO_eq, if_pos (by simp; omega), obO_pos (by omega), Int.toNat_natCast, hx, cndO_eq, if_pos (by simpa using hf)]
        rw [loop_end e, idx_int_a2_ret]
        simp [List.findIdx?_cons, hf]
      · have e : idx_int_L2 (idx_int_s2 s v i) = idx_int_L2 (idx_int_s2 s v ((i + 1 : Nat) : Int)) := by
          rw [idx_int_l2, cndO_eq, if_pos (by simp; omega), obO_pos (by omega), Int.toNat_natCast, hx, cndO_eq, if_neg (by simpa using hf), wrap_next a1 hs.len]
        rw [e, ih (i + 1) a3 (by omega)]
        congr 2
        have hf' : (v == x) = false := by simpa using hf
        simp only [List.findIdx?_cons, hf']
        cases r.findIdx? (fun x => v == x) with
        | none => rfl
        | some k => simp; omega
  rw [idx_int_in]
  have := key s 0 rfl (Nat.zero_le _)
  refine Eq.trans this ?_
  unfold idx_int
  cases s.findIdx? (fun x => v == x) <;> simp
def F_idx_int : FnC Un := fun args => match args with
  | [x0, x1] => (dL .int x0).bind fun s => (dI .i64 x1).bind fun v => some ([], A_idx_int (idx_int s v), O_idx_int (idx_int s v))
  | _ => none
theorem ok_idx_int : FnOK 144 F_idx_int := by
  intro args ob rs os h hob
  unfold F_idx_int at h
  split at h
  · simp only [Option.bind_eq_some_iff, Option.some.injEq, Prod.mk.injEq] at h
    obtain ⟨s, e0, v, e1, rfl, rfl, rfl⟩ := h
    obtain rfl := dL_eq e0
    obtain rfl := dI_eq e1
    exact ⟨fn_contractF (M := M_idx_int) rfl (tbl_ok (l1 := []) (l2 := []) (l3 := []) (l4 := []) (l5 := []) trivial trivial trivial trivial trivial) Tryz.func144 (by kernel_rfl) N_idx_int 0 [.d] (fun hwf => (idx_int_spec s v (wfArg hwf (a := .d (.v (.dat (U := Un) Ty.int s))) (List.mem_of_getElem? (i := 0) rfl)) (wfArg hwf (a := .d (.v (.s (.int .i64 v)))) (List.mem_of_getElem? (i := 1) rfl)))), hasBody_of Tryz.func144 (by kernel_rfl) (by kernel_rfl)⟩
  · simp at h
def M_cont_int : Mc Un := mach (tbl [(144, F_idx_int)]) (tbl []) (tbl []) (tbl []) (tbl [])
def A_cont_int (r : Bool) : List (A Un) := [.c (.s (.bool r))]
def O_cont_int (_r : Bool) : List (Ob Un) := []
def R_cont_int (r : Bool) : RF Un := (A_cont_int r, O_cont_int r)
def N_cont_int : Nat → NS := fun l => (look l []).getD ⟨[], [], [], [], []⟩
def cont_int_fn (s : List Int) (v : Int) : Option (RF Un) := awf M_cont_int N_cont_int (bodyOf Tryz.f94) (entry Tryz.f94.ntmps 0 [.d (.v (.dat (U := Un) Ty.int s)), .d (.v (.s (.int .i64 v)))]) (retF M_cont_int Tryz.f94.results.toList [.d])
theorem cont_int_in (s : List Int) (v : Int) : cont_int_fn s v =
 some (R_cont_int (decide (idx_int s v ≥ 0))) := by kernel_rfl
def cont_int (s : List Int) (v : Int) : Bool := s.any (fun x => v == x)
theorem cont_int_spec (s : List Int) (v : Int) (_hs : WL .int s) (_hv : WI v) : cont_int_fn s v = some (R_cont_int (cont_int s v)) := by
  rw [cont_int_in]
  unfold cont_int idx_int
  congr 2
  have := idx_nonneg s (fun x => v == x)
  rw [Bool.eq_iff_iff, ← this]
  simp
def F_cont_int : FnC Un := fun args => match args with
  | [x0, x1] => (dL .int x0).bind fun s => (dI .i64 x1).bind fun v => some ([], A_cont_int (cont_int s v), O_cont_int (cont_int s v))
  | _ => none
theorem ok_cont_int : FnOK 94 F_cont_int := by
  intro args ob rs os h hob
  unfold F_cont_int at h
  split at h
  · simp only [Option.bind_eq_some_iff, Option.some.injEq, Prod.mk.injEq] at h
    obtain ⟨s, e0, v, e1, rfl, rfl, rfl⟩ := h
    obtain rfl := dL_eq e0
    obtain rfl := dI_eq e1
    exact ⟨fn_contractF (M := M_cont_int) rfl (tbl_ok (l1 := [(144, F_idx_int)]) (l2 := []) (l3 := []) (l4 := []) (l5 := []) ⟨ok_idx_int, trivial⟩ trivial trivial trivial trivial) Tryz.func94 (by kernel_rfl) N_cont_int 0 [.d] (fun hwf => (cont_int_spec s v (wfArg hwf (a := .d (.v (.dat (U := Un) Ty.int s))) (List.mem_of_getElem? (i := 0) rfl)) (wfArg hwf (a := .d (.v (.s (.int .i64 v)))) (List.mem_of_getElem? (i := 1) rfl)))), hasBody_of Tryz.func94 (by kernel_rfl) (by kernel_rfl)⟩
  · simp at h
def M_idx_str : Mc Un := mach (tbl []) (tbl []) (tbl []) (tbl []) (tbl [])
def A_idx_str (r : Int) : List (A Un) := [.c (.s (.int .i64 r))]
def O_idx_str (_r : Int) : List (Ob Un) := []
def R_idx_str (r : Int) : RF Un := (A_idx_str r, O_idx_str r)
def N_idx_str : Nat → NS := fun l => (look l [(2, { ts := bl 19 403, bs := bl 19 0, nm := [] })]).getD ⟨[], [], [], [], []⟩
def idx_str_s2 (s : List ByteArray) (v : ByteArray) (v0 : Int) : S Un := (st 19 19 76 0 [(0, al .str s), (1, at_ v), (4, ai (0 : Int)), (7, ai (↑s.length : Int)), (8, ai v0)] [] [])
def idx_str_e2_ret (s : List ByteArray) (v : ByteArray) (v0 : Int) (v1 : Int) : S Un := (st 19 19 76 0 [(0, al .str s), (1, at_ v), (4, ai v1), (7, ai (↑s.length : Int)), (8, ai v0)] [] [])
def idx_str_B2 : Code := sub (bodyOf Tryz.f154) [1, 0, 1, 2, 2]
def idx_str_L2 : S Un → Option (EX Un) := loopF (N_idx_str 2) (fun s Q => awf M_idx_str N_idx_str idx_str_B2 s Q)
def idx_str_C2 : Exit → S Un → Option (RF Un) := ctxF M_idx_str N_idx_str (bodyOf Tryz.f154) [1, 0, 1, 2] (retF M_idx_str Tryz.f154.results.toList [.d])
def idx_str_fn (s : List ByteArray) (v : ByteArray) : Option (RF Un) := awf M_idx_str N_idx_str (bodyOf Tryz.f154) (entry Tryz.f154.ntmps 0 [.d (.v (.dat (U := Un) Ty.str s)), .d (.v (cs v))]) (retF M_idx_str Tryz.f154.results.toList [.d])
theorem idx_str_in (s : List ByteArray) (v : ByteArray) : idx_str_fn s v =
 (idx_str_L2 (idx_str_s2 s v (0 : Int))).bind (thenX idx_str_C2) := by kernel_rfl
theorem idx_str_l2 (s : List ByteArray) (v : ByteArray) (v0 : Int) : idx_str_L2 (idx_str_s2 s v v0) =
 cndO (decide (v0 < (↑s.length : Int)))
  (obO (0 ≤ v0 ∧ v0 < (↑s.length : Int))
   (cndO (v.toList == ByteArray.toList (s.getD v0.toNat (ByteArray.mk #[])))
    (some (.ret, (idx_str_e2_ret s v v0 v0)))
    (idx_str_L2 (idx_str_s2 s v (IntKind.i64.wrap (v0 + 1))))))
  (some (.exit 0, (idx_str_s2 s v v0))) := (loopF_eq (N_idx_str 2) idx_str_B2 _).trans (by kernel_rfl)
theorem idx_str_a2_ret (s : List ByteArray) (v : ByteArray) (v0 : Int) (v1 : Int) : idx_str_C2 .ret (idx_str_e2_ret s v v0 v1) =
 some (R_idx_str (v1)) := by kernel_rfl
theorem idx_str_a2_x0 (s : List ByteArray) (v : ByteArray) (v0 : Int) : idx_str_C2 (.exit 0) (idx_str_s2 s v v0) =
 some (R_idx_str ((-1 : Int))) := by kernel_rfl
def idx_str (s : List ByteArray) (v : ByteArray) : Int := match s.findIdx? (fun x => v.toList == x.toList) with | some i => (i : Int) | none => -1
theorem idx_str_spec (s : List ByteArray) (v : ByteArray) (hs : WL .str s) (_hv : WStr v) : idx_str_fn s v = some (R_idx_str (idx_str s v)) := by
  have key : ∀ (r : List ByteArray) (i : Nat), s.drop i = r → i ≤ s.length → (idx_str_L2 (idx_str_s2 s v i)).bind (thenX idx_str_C2) = some (R_idx_str (match r.findIdx? (fun x => v.toList == x.toList) with | some k => ((i + k : Nat) : Int) | none => -1)) := by
    intro r
    induction r with
    | nil =>
      intro i hr hi
      have : s.length ≤ i := by rw [← List.drop_eq_nil_iff]; exact hr
      have e : idx_str_L2 (idx_str_s2 s v i) = some (.exit 0, idx_str_s2 s v i) := by rw [idx_str_l2, cndO_eq, if_neg (by simp; omega)]
      rw [loop_end e, idx_str_a2_x0]; rfl
    | cons x r ih =>
      intro i hr hi
      obtain ⟨a1, a2, a3, hm⟩ := drop_cons hr
      have hx : s.getD i (ByteArray.mk #[]) = x := a2 (ByteArray.mk #[])
      by_cases hf : (v.toList == x.toList) = true
      · have e : idx_str_L2 (idx_str_s2 s v i) = some (.ret, idx_str_e2_ret s v i i) := by
          rw [idx_str_l2, cndO_eq, if_pos (by simp; omega), obO_pos (by omega), Int.toNat_natCast, hx, cndO_eq, if_pos hf]
        rw [loop_end e, idx_str_a2_ret]
        simp [List.findIdx?_cons, hf]
      · have e : idx_str_L2 (idx_str_s2 s v i) = idx_str_L2 (idx_str_s2 s v ((i + 1 : Nat) : Int)) := by
          rw [idx_str_l2, cndO_eq, if_pos (by simp; omega), obO_pos (by omega), Int.toNat_natCast, hx, cndO_eq, if_neg hf, wrap_next a1 hs.len]
        rw [e, ih (i + 1) a3 (by omega)]
        congr 2
        have hf' : (v.toList == x.toList) = false := by simpa using hf
        simp only [List.findIdx?_cons, hf']
        cases r.findIdx? (fun x => v.toList == x.toList) with
        | none => rfl
        | some k => simp; omega
  rw [idx_str_in]
  have := key s 0 rfl (Nat.zero_le _)
  refine Eq.trans this ?_
  unfold idx_str
  cases s.findIdx? (fun x => v.toList == x.toList) <;> simp
def F_idx_str : FnC Un := fun args => match args with
  | [x0, x1] => (dL .str x0).bind fun s => (dStr x1).bind fun v => some ([], A_idx_str (idx_str s v), O_idx_str (idx_str s v))
  | _ => none
theorem ok_idx_str : FnOK 154 F_idx_str := by
  intro args ob rs os h hob
  unfold F_idx_str at h
  split at h
  · simp only [Option.bind_eq_some_iff, Option.some.injEq, Prod.mk.injEq] at h
    obtain ⟨s, e0, v, e1, rfl, rfl, rfl⟩ := h
    obtain rfl := dL_eq e0
    obtain rfl := dStr_eq e1
    exact ⟨fn_contractF (M := M_idx_str) rfl (tbl_ok (l1 := []) (l2 := []) (l3 := []) (l4 := []) (l5 := []) trivial trivial trivial trivial trivial) Tryz.func154 (by kernel_rfl) N_idx_str 0 [.d] (fun hwf => (idx_str_spec s v (wfArg hwf (a := .d (.v (.dat (U := Un) Ty.str s))) (List.mem_of_getElem? (i := 0) rfl)) (wfArg hwf (a := .d (.v (cs v))) (List.mem_of_getElem? (i := 1) rfl)))), hasBody_of Tryz.func154 (by kernel_rfl) (by kernel_rfl)⟩
  · simp at h
def M_cont_str : Mc Un := mach (tbl [(154, F_idx_str)]) (tbl []) (tbl []) (tbl []) (tbl [])
def A_cont_str (r : Bool) : List (A Un) := [.c (.s (.bool r))]
def O_cont_str (_r : Bool) : List (Ob Un) := []
def R_cont_str (r : Bool) : RF Un := (A_cont_str r, O_cont_str r)
def N_cont_str : Nat → NS := fun l => (look l []).getD ⟨[], [], [], [], []⟩
def cont_str_fn (s : List ByteArray) (v : ByteArray) : Option (RF Un) := awf M_cont_str N_cont_str (bodyOf Tryz.f109) (entry Tryz.f109.ntmps 0 [.d (.v (.dat (U := Un) Ty.str s)), .d (.v (cs v))]) (retF M_cont_str Tryz.f109.results.toList [.d])
theorem cont_str_in (s : List ByteArray) (v : ByteArray) : cont_str_fn s v =
 some (R_cont_str (decide (idx_str s v ≥ 0))) := by kernel_rfl
def cont_str (s : List ByteArray) (v : ByteArray) : Bool := s.any (fun x => v.toList == x.toList)
theorem cont_str_spec (s : List ByteArray) (v : ByteArray) (_hs : WL .str s) (_hv : WStr v) : cont_str_fn s v = some (R_cont_str (cont_str s v)) := by
  rw [cont_str_in]
  unfold cont_str idx_str
  congr 2
  have := idx_nonneg s (fun x => v.toList == x.toList)
  rw [Bool.eq_iff_iff, ← this]
  simp
def F_cont_str : FnC Un := fun args => match args with
  | [x0, x1] => (dL .str x0).bind fun s => (dStr x1).bind fun v => some ([], A_cont_str (cont_str s v), O_cont_str (cont_str s v))
  | _ => none
theorem ok_cont_str : FnOK 109 F_cont_str := by
  intro args ob rs os h hob
  unfold F_cont_str at h
  split at h
  · simp only [Option.bind_eq_some_iff, Option.some.injEq, Prod.mk.injEq] at h
    obtain ⟨s, e0, v, e1, rfl, rfl, rfl⟩ := h
    obtain rfl := dL_eq e0
    obtain rfl := dStr_eq e1
    exact ⟨fn_contractF (M := M_cont_str) rfl (tbl_ok (l1 := [(154, F_idx_str)]) (l2 := []) (l3 := []) (l4 := []) (l5 := []) ⟨ok_idx_str, trivial⟩ trivial trivial trivial trivial) Tryz.func109 (by kernel_rfl) N_cont_str 0 [.d] (fun hwf => (cont_str_spec s v (wfArg hwf (a := .d (.v (.dat (U := Un) Ty.str s))) (List.mem_of_getElem? (i := 0) rfl)) (wfArg hwf (a := .d (.v (cs v))) (List.mem_of_getElem? (i := 1) rfl)))), hasBody_of Tryz.func109 (by kernel_rfl) (by kernel_rfl)⟩
  · simp at h
def M_rights1 : Mc Un := mach (tbl [(100, F_value_Right)]) (tbl []) (tbl []) (tbl []) (tbl [])
def A_rights1 (r : Bool) : List (A Un) := [.c (.s (.bool r))]
def O_rights1 (_r : Bool) : List (Ob Un) := []
def R_rights1 (r : Bool) : RF Un := (A_rights1 r, O_rights1 r)
def N_rights1 : Nat → NS := fun l => (look l []).getD ⟨[], [], [], [], []⟩
def rights1_fn (v : Val) : Option (RF Un) := awf M_rights1 N_rights1 (bodyOf Tryz.f106) (entry Tryz.f106.ntmps 0 [.d (.agg (enc Ty.val v))]) (retF M_rights1 Tryz.f106.results.toList [.d])
theorem rights1_in (v : Val) : rights1_fn v =
 some (R_rights1 (!value_Right v)) := by kernel_rfl
def rights1 (v : Val) : Bool := !rightV v
theorem rights1_spec (v : Val) (_hv : WS .val v) : rights1_fn v = some (R_rights1 (rights1 v)) := by
  rw [rights1_in]
  unfold rights1
  rw [value_Right_eq]
def F_rights1 : FnC Un := fun args => match args with
  | [x0] => (dS .val x0).bind fun v => some ([], A_rights1 (rights1 v), O_rights1 (rights1 v))
  | _ => none
theorem ok_rights1 : FnOK 106 F_rights1 := by
  intro args ob rs os h hob
  unfold F_rights1 at h
  split at h
  · simp only [Option.bind_eq_some_iff, Option.some.injEq, Prod.mk.injEq] at h
    obtain ⟨v, e0, rfl, rfl, rfl⟩ := h
    obtain rfl := dS_eq e0
    exact ⟨fn_contractF (M := M_rights1) rfl (tbl_ok (l1 := [(100, F_value_Right)]) (l2 := []) (l3 := []) (l4 := []) (l5 := []) ⟨ok_value_Right, trivial⟩ trivial trivial trivial trivial) Tryz.func106 (by kernel_rfl) N_rights1 0 [.d] (fun hwf => (rights1_spec v (wfArg hwf (a := .d (.agg (enc Ty.val v))) (List.mem_of_getElem? (i := 0) rfl)))), hasBody_of Tryz.func106 (by kernel_rfl) (by kernel_rfl)⟩
  · simp at h
def V_rights1 : FV Un := fvo_S_val_to_b (fun v => True) (fun v => rights1 v)
theorem okV_rights1 : FvOK 106 V_rights1 := by
  refine ⟨hasBody_of Tryz.func106 (by kernel_rfl) (by kernel_rfl), fun args ob rs h hob => ?_⟩
  unfold V_rights1 fvo_S_val_to_b at h
  split at h
  · simp only [Option.bind_eq_some_iff, Option.some.injEq, Prod.mk.injEq] at h
    obtain ⟨v, e0, rfl, rfl⟩ := h
    simp only [List.map_cons, List.map_nil]
    rw [dS_eq e0]
    refine Contract.data (ok_rights1 _ ([]) _ _ (?_ : F_rights1 _ = some _) (by simp)).1
    unfold F_rights1
    simp only [dSk_mk]
    rfl
  · simp at h
def M_value_Rights : Mc Un := mach (tbl [(105, F_conf_val)]) (tbl [(106, V_rights1)]) (tbl []) (tbl []) (tbl [])
def A_value_Rights (r : Bool) : List (A Un) := [.c (.s (.bool r))]
def O_value_Rights (_r : Bool) : List (Ob Un) := []
def R_value_Rights (r : Bool) : RF Un := (A_value_Rights r, O_value_Rights r)
def N_value_Rights : Nat → NS := fun l => (look l []).getD ⟨[], [], [], [], []⟩
def value_Rights_fn (r : List Val) : Option (RF Un) := awf M_value_Rights N_value_Rights (bodyOf Tryz.f34) (entry Tryz.f34.ntmps 0 [.d (.v (.dat (U := Un) Ty.val r))]) (retF M_value_Rights Tryz.f34.results.toList [.d])
theorem value_Rights_in (r : List Val) : value_Rights_fn r =
 obO (V_rights1 = fvo_S_val_to_b (po_S_val_to_b V_rights1) (pf_S_val_to_b V_rights1))
  (obO (allO_val (po_S_val_to_b V_rights1) r)
   (some (R_value_Rights (!conf_val r (po_S_val_to_b V_rights1) (pf_S_val_to_b V_rights1))))) := by kernel_rfl
def value_Rights (r : List Val) : Bool := r.all rightV
theorem value_Rights_spec (r : List Val) (_hr : WL .val r) : value_Rights_fn r = some (R_value_Rights (value_Rights r)) := by
  rw [value_Rights_in]
  have o1 : po_S_val_to_b V_rights1 = fun _ => True := by unfold V_rights1; exact pofvo_S_val_to_b _ _
  have o2 : pf_S_val_to_b V_rights1 = rights1 := by unfold V_rights1; exact pffvo_S_val_to_b _ _
  have o3 : V_rights1 = fvo_S_val_to_b (po_S_val_to_b V_rights1) (pf_S_val_to_b V_rights1) := by rw [o1, o2]; rfl
  rw [obO_pos o3, o1, o2, obO_pos (show allO_val _ r from fun x hx => trivial)]
  unfold value_Rights conf_val
  congr 2
  clear _hr
  induction r with
  | nil => rfl
  | cons x l ih =>
    rw [List.any_cons, List.all_cons, Bool.not_or, ih]
    unfold rights1
    rw [Bool.not_not]
def F_value_Rights : FnC Un := fun args => match args with
  | [x0] => (dL .val x0).bind fun r => some ([], A_value_Rights (value_Rights r), O_value_Rights (value_Rights r))
  | _ => none
theorem ok_value_Rights : FnOK 34 F_value_Rights := by
  intro args ob rs os h hob
  unfold F_value_Rights at h
  split at h
  · simp only [Option.bind_eq_some_iff, Option.some.injEq, Prod.mk.injEq] at h
    obtain ⟨r, e0, rfl, rfl, rfl⟩ := h
    obtain rfl := dL_eq e0
    exact ⟨fn_contractF (M := M_value_Rights) rfl (tbl_ok (l1 := [(105, F_conf_val)]) (l2 := [(106, V_rights1)]) (l3 := []) (l4 := []) (l5 := []) ⟨ok_conf_val, trivial⟩ ⟨okV_rights1, trivial⟩ trivial trivial trivial) Tryz.func34 (by kernel_rfl) N_value_Rights 0 [.d] (fun hwf => (value_Rights_spec r (wfArg hwf (a := .d (.v (.dat (U := Un) Ty.val r))) (List.mem_of_getElem? (i := 0) rfl)))), hasBody_of Tryz.func34 (by kernel_rfl) (by kernel_rfl)⟩
  · simp at h
def M_algebra_between : Mc Un := mach (tbl []) (tbl []) (tbl []) (tbl []) (tbl [])
def A_algebra_between (r : Bool) : List (A Un) := [.c (.s (.bool r))]
def O_algebra_between (_r : Bool) : List (Ob Un) := []
def R_algebra_between (r : Bool) : RF Un := (A_algebra_between r, O_algebra_between r)
def N_algebra_between : Nat → NS := fun l => (look l []).getD ⟨[], [], [], [], []⟩
def algebra_between_fn (n : Int) (lo : Int) (hi : Int) : Option (RF Un) := awf M_algebra_between N_algebra_between (bodyOf Tryz.f40) (entry Tryz.f40.ntmps 0 [.d (.v (.s (.int .i64 n))), .d (.v (.s (.int .i64 lo))), .d (.v (.s (.int .i64 hi)))]) (retF M_algebra_between Tryz.f40.results.toList [.d])
theorem algebra_between_in (n : Int) (lo : Int) (hi : Int) : algebra_between_fn n lo hi =
 cndO (decide (n ≥ lo))
  (some (R_algebra_between (decide (n ≤ hi))))
  (some (R_algebra_between (false))) := by kernel_rfl
def algebra_between (n : Int) (lo : Int) (hi : Int) : Bool :=
  if (decide (n ≥ lo)) = true then
   (decide (n ≤ hi))
  else
   (false)
theorem algebra_between_eq (n : Int) (lo : Int) (hi : Int) : algebra_between_fn n lo hi = some (R_algebra_between (algebra_between n lo hi)) := by rw [algebra_between_in]; unfold algebra_between; simp only [cndO_eq]; repeat (first | rfl | split)
def F_algebra_between : FnC Un := fun args => match args with
  | [x0, x1, x2] => (dI .i64 x0).bind fun n => (dI .i64 x1).bind fun lo => (dI .i64 x2).bind fun hi => some ([], A_algebra_between (algebra_between n lo hi), O_algebra_between (algebra_between n lo hi))
  | _ => none
theorem ok_algebra_between : FnOK 40 F_algebra_between := by
  intro args ob rs os h hob
  unfold F_algebra_between at h
  split at h
  · simp only [Option.bind_eq_some_iff, Option.some.injEq, Prod.mk.injEq] at h
    obtain ⟨n, e0, lo, e1, hi, e2, rfl, rfl, rfl⟩ := h
    obtain rfl := dI_eq e0
    obtain rfl := dI_eq e1
    obtain rfl := dI_eq e2
    exact ⟨fn_contractF (M := M_algebra_between) rfl (tbl_ok (l1 := []) (l2 := []) (l3 := []) (l4 := []) (l5 := []) trivial trivial trivial trivial trivial) Tryz.func40 (by kernel_rfl) N_algebra_between 0 [.d] (fun hwf => (algebra_between_eq n lo hi)), hasBody_of Tryz.func40 (by kernel_rfl) (by kernel_rfl)⟩
  · simp at h
theorem cndO_or1 {β : Type} (a b : Bool) (x y : Option β) : cndO a (cndO a x y) (cndO b x y) = cndO (a || b) x y := by cases a <;> cases b <;> rfl
theorem cndO_or2 {β : Type} (a b : Bool) (x y : Option β) : cndO a x (cndO b x y) = cndO (a || b) x y := by cases a <;> cases b <;> rfl
def M_algebra_called : Mc Un := mach (tbl []) (tbl []) (tbl []) (tbl []) (tbl [])
def A_algebra_called (r : Int × Int × Int × Bool) : List (A Un) := [.c (.s (.int .i64 r.1)), .c (.s (.int .i64 r.2.1)), .c (.s (.int .i64 r.2.2.1)), .c (.s (.bool r.2.2.2))]
def O_algebra_called (_r : Int × Int × Int × Bool) : List (Ob Un) := []
def R_algebra_called (r : Int × Int × Int × Bool) : RF Un := (A_algebra_called r, O_algebra_called r)
def N_algebra_called : Nat → NS := fun l => (look l []).getD ⟨[], [], [], [], []⟩
def algebra_called_fn (name : ByteArray) : Option (RF Un) := awf M_algebra_called N_algebra_called (bodyOf Tryz.f147) (entry Tryz.f147.ntmps 0 [.d (.v (cs name))]) (retF M_algebra_called Tryz.f147.results.toList [.d, .d, .d, .d])
def algebra_called_t1 (name : ByteArray) : Option (RF Un) :=
 cndO (name.toList == (ByteArray.mk #[110, 117, 108, 108, 105, 102]).toList)
  (some (R_algebra_called ((2 : Int), (2 : Int), (0 : Int), true)))
  (cndO (name.toList == (ByteArray.mk #[99, 111, 97, 108, 101, 115, 99, 101]).toList)
   (some (R_algebra_called ((1 : Int), (-1 : Int), (0 : Int), true)))
   (some (R_algebra_called ((0 : Int), (0 : Int), (0 : Int), false))))
theorem algebra_called_in (name : ByteArray) : algebra_called_fn name =
 cndO (name.toList == (ByteArray.mk #[108, 101, 110, 103, 116, 104]).toList)
  (cndO (name.toList == (ByteArray.mk #[108, 101, 110, 103, 116, 104]).toList)
   (some (R_algebra_called ((1 : Int), (1 : Int), (0 : Int), true)))
   (algebra_called_t1 name))
  (cndO (name.toList == (ByteArray.mk #[108, 111, 119, 101, 114]).toList)
   (cndO (name.toList == (ByteArray.mk #[108, 111, 119, 101, 114]).toList)
    (some (R_algebra_called ((1 : Int), (1 : Int), (0 : Int), true)))
    (algebra_called_t1 name))
   (cndO (name.toList == (ByteArray.mk #[117, 112, 112, 101, 114]).toList)
    (cndO (name.toList == (ByteArray.mk #[117, 112, 112, 101, 114]).toList)
     (some (R_algebra_called ((1 : Int), (1 : Int), (0 : Int), true)))
     (algebra_called_t1 name))
    (cndO (name.toList == (ByteArray.mk #[97, 98, 115]).toList)
     (some (R_algebra_called ((1 : Int), (1 : Int), (0 : Int), true)))
     (algebra_called_t1 name)))) := by kernel_rfl
def algebra_called (name : ByteArray) : Int × Int × Int × Bool :=
  if (name.toList == (ByteArray.mk #[108, 101, 110, 103, 116, 104]).toList) = true ∨ (name.toList == (ByteArray.mk #[108, 111, 119, 101, 114]).toList) = true ∨ (name.toList == (ByteArray.mk #[117, 112, 112, 101, 114]).toList) = true ∨ (name.toList == (ByteArray.mk #[97, 98, 115]).toList) = true then (1, 1, 0, true)
  else if (name.toList == (ByteArray.mk #[110, 117, 108, 108, 105, 102]).toList) = true then (2, 2, 0, true)
  else if (name.toList == (ByteArray.mk #[99, 111, 97, 108, 101, 115, 99, 101]).toList) = true then (1, -1, 0, true)
  else (0, 0, 0, false)
theorem algebra_called_spec (name : ByteArray) (_h : WStr name) : algebra_called_fn name = some (R_algebra_called (algebra_called name)) := by
  rw [algebra_called_in]
  unfold algebra_called algebra_called_t1
  generalize (name.toList == (ByteArray.mk #[108, 101, 110, 103, 116, 104]).toList) = a1
  generalize (name.toList == (ByteArray.mk #[108, 111, 119, 101, 114]).toList) = a2
  generalize (name.toList == (ByteArray.mk #[117, 112, 112, 101, 114]).toList) = a3
  generalize (name.toList == (ByteArray.mk #[97, 98, 115]).toList) = a4
  generalize (name.toList == (ByteArray.mk #[110, 117, 108, 108, 105, 102]).toList) = a5
  generalize (name.toList == (ByteArray.mk #[99, 111, 97, 108, 101, 115, 99, 101]).toList) = a6
  cases a1 <;> cases a2 <;> cases a3 <;> cases a4 <;> cases a5 <;> cases a6 <;> rfl
def F_algebra_called : FnC Un := fun args => match args with
  | [x0] => (dStr x0).bind fun name => some ([], A_algebra_called (algebra_called name), O_algebra_called (algebra_called name))
  | _ => none
theorem ok_algebra_called : FnOK 147 F_algebra_called := by
  intro args ob rs os h hob
  unfold F_algebra_called at h
  split at h
  · simp only [Option.bind_eq_some_iff, Option.some.injEq, Prod.mk.injEq] at h
    obtain ⟨name, e0, rfl, rfl, rfl⟩ := h
    obtain rfl := dStr_eq e0
    exact ⟨fn_contractF (M := M_algebra_called) rfl (tbl_ok (l1 := []) (l2 := []) (l3 := []) (l4 := []) (l5 := []) trivial trivial trivial trivial trivial) Tryz.func147 (by kernel_rfl) N_algebra_called 0 [.d, .d, .d, .d] (fun hwf => (algebra_called_spec name (wfArg hwf (a := .d (.v (cs name))) (List.mem_of_getElem? (i := 0) rfl)))), hasBody_of Tryz.func147 (by kernel_rfl) (by kernel_rfl)⟩
  · simp at h
def M_algebra_many : Mc Un := mach (tbl [(147, F_algebra_called), (40, F_algebra_between)]) (tbl []) (tbl []) (tbl []) (tbl [])
def A_algebra_many (r : Int × Int × Int × Bool) : List (A Un) := [.c (.s (.int .i64 r.1)), .c (.s (.int .i64 r.2.1)), .c (.s (.int .i64 r.2.2.1)), .c (.s (.bool r.2.2.2))]
def O_algebra_many (_r : Int × Int × Int × Bool) : List (Ob Un) := []
def R_algebra_many (r : Int × Int × Int × Bool) : RF Un := (A_algebra_many r, O_algebra_many r)
def N_algebra_many : Nat → NS := fun l => (look l []).getD ⟨[], [], [], [], []⟩
def algebra_many_fn (t : Term) : Option (RF Un) := awf M_algebra_many N_algebra_many (bodyOf Tryz.f99) (entry Tryz.f99.ntmps 0 [.d (.agg (enc Ty.term t))]) (retF M_algebra_many Tryz.f99.results.toList [.d, .d, .d, .d])
def algebra_many_t1 (t : Term) : Option (RF Un) :=
 cndO (t.op == 28)
  (some (R_algebra_many ((1 : Int), (1 : Int), (1 : Int), true)))
  (cndO (algebra_between t.op (5 : Int) (16 : Int))
   (some (R_algebra_many ((2 : Int), (2 : Int), (0 : Int), true)))
   (cndO (t.op == 17)
    (some (R_algebra_many ((2 : Int), (2 : Int), (0 : Int), true)))
    (cndO (t.op == 18)
     (some (R_algebra_many ((2 : Int), (2 : Int), (0 : Int), true)))
     (some (R_algebra_many ((2 : Int), (2 : Int), (0 : Int), t.op == 20))))))
def algebra_many_t2 (t : Term) : Option (RF Un) :=
 cndO (t.op == 24)
  (some (R_algebra_many ((algebra_called t.name).fst, (algebra_called t.name).snd.fst, (algebra_called t.name).snd.snd.fst, (algebra_called t.name).snd.snd.snd)))
  (cndO (t.op == 26)
   (cndO (t.op == 26)
    (some (R_algebra_many ((0 : Int), (0 : Int), (1 : Int), true)))
    (algebra_many_t1 t))
   (cndO (t.op == 27)
    (some (R_algebra_many ((0 : Int), (0 : Int), (1 : Int), true)))
    (algebra_many_t1 t)))
def algebra_many_t3 (t : Term) : Option (RF Un) :=
 cndO (t.op == 22)
  (some (R_algebra_many ((3 : Int), (3 : Int), (0 : Int), true)))
  (cndO (t.op == 21)
   (cndO (t.op == 21)
    (some (R_algebra_many ((2 : Int), (-1 : Int), (0 : Int), true)))
    (algebra_many_t2 t))
   (cndO (t.op == 23)
    (some (R_algebra_many ((2 : Int), (-1 : Int), (0 : Int), true)))
    (algebra_many_t2 t)))
def algebra_many_t4 (t : Term) : Option (RF Un) :=
 cndO (t.op == 3)
  (cndO (t.op == 3)
   (some (R_algebra_many ((1 : Int), (1 : Int), (0 : Int), true)))
   (algebra_many_t3 t))
  (cndO (t.op == 4)
   (cndO (t.op == 4)
    (some (R_algebra_many ((1 : Int), (1 : Int), (0 : Int), true)))
    (algebra_many_t3 t))
   (cndO (t.op == 19)
    (some (R_algebra_many ((1 : Int), (1 : Int), (0 : Int), true)))
    (algebra_many_t3 t)))
theorem algebra_many_in (t : Term) : algebra_many_fn t =
 cndO (t.op == 1)
  (cndO (t.op == 1)
   (some (R_algebra_many ((0 : Int), (0 : Int), (0 : Int), true)))
   (algebra_many_t4 t))
  (cndO (t.op == 2)
   (some (R_algebra_many ((0 : Int), (0 : Int), (0 : Int), true)))
   (algebra_many_t4 t)) := by kernel_rfl
def manyN (op : Int) (name : ByteArray) : Int × Int × Int × Bool :=
  if op = 1 ∨ op = 2 then (0, 0, 0, true)
  else if op = 3 ∨ op = 4 ∨ op = 19 then (1, 1, 0, true)
  else if op = 22 then (3, 3, 0, true)
  else if op = 21 ∨ op = 23 then (2, -1, 0, true)
  else if op = 24 then algebra_called name
  else if op = 26 ∨ op = 27 then (0, 0, 1, true)
  else if op = 28 then (1, 1, 1, true)
  else (2, 2, 0, decide (5 ≤ op ∧ op ≤ 16 ∨ op = 17 ∨ op = 18 ∨ op = 20))
def algebra_many (t : Term) : Int × Int × Int × Bool := manyN t.op t.name
theorem between_eq (n lo hi : Int) : algebra_between n lo hi = decide (lo ≤ n ∧ n ≤ hi) := by
  unfold algebra_between
  by_cases h : n ≥ lo
  · rw [if_pos (by simpa using h)]; congr 1; simp; omega
  · rw [if_neg (by simpa using h)]; symm; rw [decide_eq_false_iff_not]; omega
theorem algebra_many_spec (t : Term) (_h : WS .term t) : algebra_many_fn t = some (R_algebra_many (algebra_many t)) := by
  rw [algebra_many_in]
  unfold algebra_many algebra_many_t4 algebra_many_t3 algebra_many_t2 algebra_many_t1 manyN
  simp only [cndO_or1, cndO_or2, between_eq]
  simp only [cndO_eq, Bool.or_eq_true, beq_iff_eq, decide_eq_true_eq]
  by_cases h1 : t.op = 1 ∨ t.op = 2
  · rw [if_pos h1, if_pos h1]
  rw [if_neg h1, if_neg h1]
  by_cases h2 : t.op = 3 ∨ t.op = 4 ∨ t.op = 19
  · rw [if_pos h2, if_pos h2]
  rw [if_neg h2, if_neg h2]
  by_cases h3 : t.op = 22
  · rw [if_pos h3, if_pos h3]
  rw [if_neg h3, if_neg h3]
  by_cases h4 : t.op = 21 ∨ t.op = 23
  · rw [if_pos h4, if_pos h4]
  rw [if_neg h4, if_neg h4]
  by_cases h5 : t.op = 24
  · rw [if_pos h5, if_pos h5]
  rw [if_neg h5, if_neg h5]
  by_cases h6 : t.op = 26 ∨ t.op = 27
  · rw [if_pos h6, if_pos h6]
  rw [if_neg h6, if_neg h6]
  by_cases h7 : t.op = 28
  · rw [if_pos h7, if_pos h7]
  rw [if_neg h7, if_neg h7]
  by_cases h8 : (5 ≤ t.op ∧ t.op ≤ 16) ∨ t.op = 17 ∨ t.op = 18
  · have : (5 ≤ t.op ∧ t.op ≤ 16 ∨ t.op = 17 ∨ t.op = 18 ∨ t.op = 20) := by omega
    rw [decide_eq_true this]
    repeat (first | rfl | split | omega)
  · have e : (5 ≤ t.op ∧ t.op ≤ 16 ∨ t.op = 17 ∨ t.op = 18 ∨ t.op = 20) ↔ t.op = 20 := by omega
    have e2 : decide (5 ≤ t.op ∧ t.op ≤ 16 ∨ t.op = 17 ∨ t.op = 18 ∨ t.op = 20) = (t.op == 20) := by rw [Bool.eq_iff_iff, decide_eq_true_eq, beq_iff_eq, e]
    rw [e2]
    repeat (first | rfl | split | omega)
def F_algebra_many : FnC Un := fun args => match args with
  | [x0] => (dS .term x0).bind fun t => some ([], A_algebra_many (algebra_many t), O_algebra_many (algebra_many t))
  | _ => none
theorem ok_algebra_many : FnOK 99 F_algebra_many := by
  intro args ob rs os h hob
  unfold F_algebra_many at h
  split at h
  · simp only [Option.bind_eq_some_iff, Option.some.injEq, Prod.mk.injEq] at h
    obtain ⟨t, e0, rfl, rfl, rfl⟩ := h
    obtain rfl := dS_eq e0
    exact ⟨fn_contractF (M := M_algebra_many) rfl (tbl_ok (l1 := [(147, F_algebra_called), (40, F_algebra_between)]) (l2 := []) (l3 := []) (l4 := []) (l5 := []) ⟨ok_algebra_called, ok_algebra_between, trivial⟩ trivial trivial trivial trivial) Tryz.func99 (by kernel_rfl) N_algebra_many 0 [.d, .d, .d, .d] (fun hwf => (algebra_many_spec t (wfArg hwf (a := .d (.agg (enc Ty.term t))) (List.mem_of_getElem? (i := 0) rfl)))), hasBody_of Tryz.func99 (by kernel_rfl) (by kernel_rfl)⟩
  · simp at h
end
end Go.Proofs.YtmpnompddfhkeaaGreat.B
namespace Go.Proofs.YtmpnompddfhkeaaGreat.B
open Go Go.RowKit
set_option maxRecDepth 100000
noncomputable section
attribute [local irreducible] awp ctxK itersK iterK retQ retGQ awf ctxF loopF
def M_algebra_bare : Mc Un := mach (tbl [(94, F_cont_int)]) (tbl []) (tbl []) (tbl []) (tbl [])
def A_algebra_bare (r : Bool) : List (A Un) := [.c (.s (.bool r))]
def O_algebra_bare (_r : Bool) : List (Ob Un) := []
def R_algebra_bare (r : Bool) : RF Un := (A_algebra_bare r, O_algebra_bare r)
def N_algebra_bare : Nat → NS := fun l => (look l []).getD ⟨[], [], [], [], []⟩
def algebra_bare_fn (r : Rel) : Option (RF Un) := awf M_algebra_bare N_algebra_bare (bodyOf Tryz.f25) (entry Tryz.f25.ntmps 0 [.d (.agg (enc Ty.rel r))]) (retF M_algebra_bare Tryz.f25.results.toList [.d])
def algebra_bare_t1 (r : Rel) : Option (RF Un) :=
 cndO (r.op == 12)
  (cndO (r.op == 13)
   (some (R_algebra_bare (true)))
   (cndO (r.limit == 0)
    (some (R_algebra_bare (r.skip == 0)))
    (some (R_algebra_bare (false)))))
  (cndO ((↑r.keys.length : Int) == (0 : Int))
   (cndO (r.op == 13)
    (some (R_algebra_bare (true)))
    (cndO (r.limit == 0)
     (some (R_algebra_bare (r.skip == 0)))
     (some (R_algebra_bare (false)))))
   (some (R_algebra_bare (false))))
def algebra_bare_t2 (r : Rel) : Option (RF Un) :=
 cndO (r.op == 7)
  (algebra_bare_t1 r)
  (cndO ((↑r.aggs.length : Int) == (0 : Int))
   (algebra_bare_t1 r)
   (some (R_algebra_bare (false))))
def algebra_bare_t3 (r : Rel) : Option (RF Un) :=
 cndO (r.op == 2)
  (algebra_bare_t2 r)
  (cndO ((↑r.rows.length : Int) == (0 : Int))
   (algebra_bare_t2 r)
   (some (R_algebra_bare (false))))
def algebra_bare_t4 (r : Rel) : Option (RF Un) :=
 cndO (r.op == 1)
  (algebra_bare_t3 r)
  (cndO (r.table.toList == (ByteArray.mk #[]).toList)
   (algebra_bare_t3 r)
   (some (R_algebra_bare (false))))
def algebra_bare_t5 (r : Rel) : Option (RF Un) :=
 cndO (cont_int [(9 : Int), (10 : Int), (11 : Int)] r.op)
  (algebra_bare_t4 r)
  (cndO (!r.all)
   (algebra_bare_t4 r)
   (some (R_algebra_bare (false))))
theorem algebra_bare_in (r : Rel) : algebra_bare_fn r =
 cndO (cont_int [(3 : Int), (4 : Int), (5 : Int), (6 : Int), (7 : Int)] r.op)
  (algebra_bare_t5 r)
  (cndO ((↑r.terms.length : Int) == (0 : Int))
   (algebra_bare_t5 r)
   (some (R_algebra_bare (false)))) := by kernel_rfl
def bareR (r : Rel) : Bool :=
  (cont_int [3, 4, 5, 6, 7] r.op || ((r.terms.length : Int) == 0)) && (cont_int [9, 10, 11] r.op || !r.all) && (r.op == 1 || r.table.toList == (ByteArray.mk #[]).toList) && (r.op == 2 || (r.rows.length : Int) == 0) &&
    ((r.op == 7 || (r.aggs.length : Int) == 0) && (r.op == 12 || (r.keys.length : Int) == 0) && (r.op == 13 || (r.limit == 0 && r.skip == 0)))
def algebra_bare (r : Rel) : Bool := bareR r
theorem cndO_one {β : Type} (R : Bool → β) (a b : Bool) (x : Bool) : cndO a (some (R x)) (cndO b (some (R x)) (some (R false))) = some (R ((a || b) && x)) := by cases a <;> cases b <;> rfl
theorem algebra_bare_spec (r : Rel) (_h : WS .rel r) : algebra_bare_fn r = some (R_algebra_bare (algebra_bare r)) := by
  rw [algebra_bare_in]
  have e1 : algebra_bare_t1 r = some (R_algebra_bare ((r.op == 12 || (r.keys.length : Int) == 0) && (r.op == 13 || (r.limit == 0 && r.skip == 0)))) := by
    unfold algebra_bare_t1
    cases r.op == 12 <;> cases ((r.keys.length : Int) == 0) <;> cases r.op == 13 <;> cases r.limit == 0 <;> cases r.skip == 0 <;> rfl
  have e2 : algebra_bare_t2 r = some (R_algebra_bare ((r.op == 7 || (r.aggs.length : Int) == 0) && (r.op == 12 || (r.keys.length : Int) == 0) && (r.op == 13 || (r.limit == 0 && r.skip == 0)))) := by
    unfold algebra_bare_t2; rw [e1, cndO_one, Bool.and_assoc]
  have e3 := e2
  unfold algebra_bare_t5 algebra_bare_t4 algebra_bare_t3
  rw [e2, cndO_one, cndO_one, cndO_one, cndO_one]
  unfold algebra_bare bareR
  simp only [Bool.and_assoc]
def F_algebra_bare : FnC Un := fun args => match args with
  | [x0] => (dS .rel x0).bind fun r => some ([], A_algebra_bare (algebra_bare r), O_algebra_bare (algebra_bare r))
  | _ => none
theorem ok_algebra_bare : FnOK 25 F_algebra_bare := by
  intro args ob rs os h hob
  unfold F_algebra_bare at h
  split at h
  · simp only [Option.bind_eq_some_iff, Option.some.injEq, Prod.mk.injEq] at h
    obtain ⟨r, e0, rfl, rfl, rfl⟩ := h
    obtain rfl := dS_eq e0
    exact ⟨fn_contractF (M := M_algebra_bare) rfl (tbl_ok (l1 := [(94, F_cont_int)]) (l2 := []) (l3 := []) (l4 := []) (l5 := []) ⟨ok_cont_int, trivial⟩ trivial trivial trivial trivial) Tryz.func25 (by kernel_rfl) N_algebra_bare 0 [.d] (fun hwf => (algebra_bare_spec r (wfArg hwf (a := .d (.agg (enc Ty.rel r))) (List.mem_of_getElem? (i := 0) rfl)))), hasBody_of Tryz.func25 (by kernel_rfl) (by kernel_rfl)⟩
  · simp at h
end
end Go.Proofs.YtmpnompddfhkeaaGreat.B
