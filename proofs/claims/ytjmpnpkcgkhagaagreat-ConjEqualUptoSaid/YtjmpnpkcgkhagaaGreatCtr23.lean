/- Part 23 of the proof: Sref15 Sref15b Sref21l. -/
import Derived.Test.YtjmpnpkcgkhagaaGreatCtr22
namespace Go.Proofs.YtjmpnpkcgkhagaaGreat.B
open Go Go.RowKit
set_option maxRecDepth 100000
noncomputable section
attribute [local irreducible] awp ctxK itersK iterK retQ retGQ awf ctxF loopF
theorem loop_pre {α β : Type} {L : S Un → Option (EX Un)} {st : Int → S Un} {C : Exit → S Un → Option β} (R : Bool → Option β) {a b : List α} {d : α} {e : Exit} (hl : a.length ≤ 9223372036854775807)
    (step : ∀ i : Nat, i < a.length → i < b.length → L (st i) = if deq (a.getD i d) (b.getD i d) = true then L (st (IntKind.i64.wrap ((i : Int) + 1))) else some (.ret, st i))
    (stop : ∀ i : Nat, ¬ (i < a.length ∧ i < b.length) → L (st i) = some (e, st i)) (cr : ∀ i : Nat, C .ret (st i) = R false) (ce : ∀ i : Nat, C e (st i) = R ((a.length : Int) == (b.length : Int))) : (L (st (0 : Int))).bind (thenX C) = R (deq a b) := by
  have key : ∀ (k i : Nat), i + k = a.length → i ≤ b.length → (L (st i)).bind (thenX C) = R (deq (a.drop i) (b.drop i)) := by
    intro k
    induction k with
    | zero =>
      intro i hi hb
      obtain rfl : i = a.length := by omega
      rw [loop_end (stop _ (by omega)), ce]
      congr 1
      refine deq_of ?_
      rw [List.drop_length, beq_iff_eq]
      constructor
      · intro h; rw [List.drop_eq_nil_of_le (by omega)]
      · intro h
        have := congrArg List.length h
        rw [List.length_drop, List.length_nil] at this; omega
    | succ k ih =>
      intro i hi hb
      have h1 : i < a.length := by omega
      by_cases h2 : i < b.length
      · have ga : a.getD i d = a[i] := by rw [List.getD_eq_getElem?_getD, List.getElem?_eq_getElem h1]; rfl
        have gb : b.getD i d = b[i] := by rw [List.getD_eq_getElem?_getD, List.getElem?_eq_getElem h2]; rfl
        have hs := step i h1 h2
        rw [ga, gb] at hs
        rw [List.drop_eq_getElem_cons h1, List.drop_eq_getElem_cons h2]
        by_cases hq : deq a[i] b[i] = true
        · rw [if_pos hq, wrap_next h1 hl] at hs
          rw [hs, ih (i + 1) (by omega) (by omega)]
          rw [deq_iff] at hq
          congr 1
          refine deq_of ?_
          rw [deq_iff, hq]
          exact ⟨fun h => by rw [h], fun h => (List.cons.inj h).2⟩
        · rw [if_neg hq] at hs
          rw [loop_end hs, cr]
          congr 1
          refine deq_of ?_
          rw [deq_iff] at hq
          exact ⟨fun h => absurd h (by decide), fun h => absurd (List.cons.inj h).1 hq⟩
      · rw [loop_end (stop _ (by omega)), ce]
        congr 1
        refine deq_of ?_
        rw [beq_iff_eq]
        constructor
        · intro h; omega
        · intro h
          have := congrArg List.length h
          rw [List.length_drop, List.length_drop] at this; omega
  exact key a.length 0 (by omega) (by omega)
theorem ne_deq {α : Type} [DecidableEq α] (x y : α) : (x != y) = !deq x y := by
  rw [Bool.eq_iff_iff, bne_iff_ne, Bool.not_eq_true', ← Bool.not_eq_true, deq_iff]
theorem ord_deq (x y : List Val) : (r03_Orders x y != 0) = !deq x y := by
  rw [Bool.eq_iff_iff, bne_iff_ne, Bool.not_eq_true', ← Bool.not_eq_true, deq_iff, r03_Orders_eq, ne_eq, ordR_zero]
def M_r14_Ints : Mc Un := mach (tbl []) (tbl []) (tbl []) (tbl []) (tbl [])
def A_r14_Ints (r : Bool) : List (A Un) := [.c (.s (.bool r))]
def O_r14_Ints (_r : Bool) : List (Ob Un) := []
def R_r14_Ints (r : Bool) : RF Un := (A_r14_Ints r, O_r14_Ints r)
def N_r14_Ints : Nat → NS := fun l => (look l [(2, { ts := bl 32 51, bs := bl 32 0, nm := [] })]).getD ⟨[], [], [], [], [], false⟩
def r14_Ints_s2 (a : List Int) (b : List Int) (v0 : Int) : S Un := (st 32 32 128 0 [(0, al .int a), (1, al .int b), (4, ab false), (5, ai v0)] [] [])
def r14_Ints_B2 : Code := sub (bodyOf Tryz.f23) [1, 0, 1, 2, 2]
def r14_Ints_L2 : S Un → Option (EX Un) := loopF (N_r14_Ints 2) (fun s Q => awf M_r14_Ints N_r14_Ints r14_Ints_B2 s Q)
def r14_Ints_C2 : Exit → S Un → Option (RF Un) := ctxF M_r14_Ints N_r14_Ints (bodyOf Tryz.f23) [1, 0, 1, 2] (retF M_r14_Ints Tryz.f23.results.toList [.d])
def r14_Ints_fn (a : List Int) (b : List Int) : Option (RF Un) := awf M_r14_Ints N_r14_Ints (bodyOf Tryz.f23) (entry Tryz.f23.ntmps 0 [.d (.v (.dat (U := Un) Ty.int a)), .d (.v (.dat (U := Un) Ty.int b))]) (retF M_r14_Ints Tryz.f23.results.toList [.d])
theorem r14_Ints_in (a : List Int) (b : List Int) : r14_Ints_fn a b =
 (r14_Ints_L2 (r14_Ints_s2 a b (0 : Int))).bind (thenX r14_Ints_C2) := by kernel_rfl
theorem r14_Ints_l2 (a : List Int) (b : List Int) (v0 : Int) : r14_Ints_L2 (r14_Ints_s2 a b v0) =
 cndO (decide (v0 < (↑a.length : Int)))
  (cndO (decide (v0 < (↑b.length : Int)))
   (obO (0 ≤ v0 ∧ v0 < (↑a.length : Int))
    (obO (0 ≤ v0 ∧ v0 < (↑b.length : Int))
     (cndO (a.getD v0.toNat (0 : Int) != b.getD v0.toNat (0 : Int))
      (some (.ret, (r14_Ints_s2 a b v0)))
      (r14_Ints_L2 (r14_Ints_s2 a b (IntKind.i64.wrap (v0 + 1)))))))
   (some (.exit 0, (r14_Ints_s2 a b v0))))
  (some (.exit 0, (r14_Ints_s2 a b v0))) := (loopF_eq (N_r14_Ints 2) r14_Ints_B2 _).trans (by kernel_rfl)
theorem r14_Ints_a2_ret (a : List Int) (b : List Int) (v0 : Int) : r14_Ints_C2 .ret (r14_Ints_s2 a b v0) =
 some (R_r14_Ints (false)) := by kernel_rfl
theorem r14_Ints_a2_x0 (a : List Int) (b : List Int) (v0 : Int) : r14_Ints_C2 (.exit 0) (r14_Ints_s2 a b v0) =
 some (R_r14_Ints ((↑a.length : Int) == (↑b.length : Int))) := by kernel_rfl
noncomputable def r14_Ints (a b : List Int) : Bool := deq a b
theorem r14_Ints_spec (a b : List Int) (ha : WL .int a) (_hb : WL .int b) : r14_Ints_fn a b = some (R_r14_Ints (r14_Ints a b)) := by
  rw [r14_Ints_in]
  exact loop_pre (L := r14_Ints_L2) (st := fun i => r14_Ints_s2 a b i) (fun r => some (R_r14_Ints r)) (d := (0 : Int)) ha.len
    (fun i hi hj => by
      rw [r14_Ints_l2, ne_deq]
      simp only [cndO_eq, Int.toNat_natCast]
      rw [if_pos (by simp; omega), if_pos (by simp; omega), obO_pos (by omega), obO_pos (by omega)]
      cases deq (a.getD i (0 : Int)) (b.getD i (0 : Int)) <;> simp)
    (fun i h => by
      rw [r14_Ints_l2]
      simp only [cndO_eq, decide_eq_true_eq]
      by_cases h1 : (i : Int) < (a.length : Int)
      · rw [if_pos h1, if_neg (by omega)]
      · rw [if_neg h1])
    (fun i => r14_Ints_a2_ret _ _ _) (fun i => r14_Ints_a2_x0 _ _ _)
def F_r14_Ints : FnC Un := fun args => match args with
  | [x0, x1] => (dL .int x0).bind fun a => (dL .int x1).bind fun b => some ([], A_r14_Ints (r14_Ints a b), O_r14_Ints (r14_Ints a b))
  | _ => none
theorem ok_r14_Ints : FnOK 23 F_r14_Ints := by
  intro args ob rs os h hob
  unfold F_r14_Ints at h
  split at h
  · simp only [Option.bind_eq_some_iff, Option.some.injEq, Prod.mk.injEq] at h
    obtain ⟨a, e0, b, e1, rfl, rfl, rfl⟩ := h
    obtain rfl := dL_eq e0
    obtain rfl := dL_eq e1
    exact ⟨fn_contractF (M := M_r14_Ints) rfl (tbl_ok (l1 := []) (l2 := []) (l3 := []) (l4 := []) (l5 := []) trivial trivial trivial trivial trivial) Tryz.func23 (by kernel_rfl) N_r14_Ints 0 [.d] (fun hwf => (r14_Ints_spec a b (wfArg hwf (a := .d (.v (.dat (U := Un) Ty.int a))) (List.mem_of_getElem? (i := 0) rfl)) (wfArg hwf (a := .d (.v (.dat (U := Un) Ty.int b))) (List.mem_of_getElem? (i := 1) rfl)))), hasBody_of Tryz.func23 (by kernel_rfl) (by kernel_rfl)⟩
  · simp at h
def M_r03_List : Mc Un := mach (tbl [(130, F_r03_Orders)]) (tbl []) (tbl []) (tbl []) (tbl [])
def A_r03_List (r : Bool) : List (A Un) := [.c (.s (.bool r))]
def O_r03_List (_r : Bool) : List (Ob Un) := []
def R_r03_List (r : Bool) : RF Un := (A_r03_List r, O_r03_List r)
def N_r03_List : Nat → NS := fun l => (look l [(2, { ts := bl 33 51, bs := bl 33 0, nm := [] })]).getD ⟨[], [], [], [], [], false⟩
def r03_List_s2 (a : List (List Val)) (b : List (List Val)) (v0 : Int) : S Un := (st 33 33 132 0 [(0, al .row a), (1, al .row b), (4, ab false), (5, ai v0)] [] [])
def r03_List_B2 : Code := sub (bodyOf Tryz.f125) [1, 0, 1, 2, 2]
def r03_List_L2 : S Un → Option (EX Un) := loopF (N_r03_List 2) (fun s Q => awf M_r03_List N_r03_List r03_List_B2 s Q)
def r03_List_C2 : Exit → S Un → Option (RF Un) := ctxF M_r03_List N_r03_List (bodyOf Tryz.f125) [1, 0, 1, 2] (retF M_r03_List Tryz.f125.results.toList [.d])
def r03_List_fn (a : List (List Val)) (b : List (List Val)) : Option (RF Un) := awf M_r03_List N_r03_List (bodyOf Tryz.f125) (entry Tryz.f125.ntmps 0 [.d (.v (.dat (U := Un) Ty.row a)), .d (.v (.dat (U := Un) Ty.row b))]) (retF M_r03_List Tryz.f125.results.toList [.d])
theorem r03_List_in (a : List (List Val)) (b : List (List Val)) : r03_List_fn a b =
 (r03_List_L2 (r03_List_s2 a b (0 : Int))).bind (thenX r03_List_C2) := by kernel_rfl
theorem r03_List_l2 (a : List (List Val)) (b : List (List Val)) (v0 : Int) : r03_List_L2 (r03_List_s2 a b v0) =
 cndO (decide (v0 < (↑a.length : Int)))
  (cndO (decide (v0 < (↑b.length : Int)))
   (obO (0 ≤ v0 ∧ v0 < (↑a.length : Int))
    (obO (0 ≤ v0 ∧ v0 < (↑b.length : Int))
     (cndO (r03_Orders (a.getD v0.toNat []) (b.getD v0.toNat []) != 0)
      (some (.ret, (r03_List_s2 a b v0)))
      (r03_List_L2 (r03_List_s2 a b (IntKind.i64.wrap (v0 + 1)))))))
   (some (.exit 0, (r03_List_s2 a b v0))))
  (some (.exit 0, (r03_List_s2 a b v0))) := (loopF_eq (N_r03_List 2) r03_List_B2 _).trans (by kernel_rfl)
theorem r03_List_a2_ret (a : List (List Val)) (b : List (List Val)) (v0 : Int) : r03_List_C2 .ret (r03_List_s2 a b v0) =
 some (R_r03_List (false)) := by kernel_rfl
theorem r03_List_a2_x0 (a : List (List Val)) (b : List (List Val)) (v0 : Int) : r03_List_C2 (.exit 0) (r03_List_s2 a b v0) =
 some (R_r03_List ((↑a.length : Int) == (↑b.length : Int))) := by kernel_rfl
noncomputable def r03_List (a b : List (List Val)) : Bool := deq a b
theorem r03_List_spec (a b : List (List Val)) (ha : WL .row a) (_hb : WL .row b) : r03_List_fn a b = some (R_r03_List (r03_List a b)) := by
  rw [r03_List_in]
  exact loop_pre (L := r03_List_L2) (st := fun i => r03_List_s2 a b i) (fun r => some (R_r03_List r)) (d := []) ha.len
    (fun i hi hj => by
      rw [r03_List_l2, ord_deq]
      simp only [cndO_eq, Int.toNat_natCast]
      rw [if_pos (by simp; omega), if_pos (by simp; omega), obO_pos (by omega), obO_pos (by omega)]
      cases deq (a.getD i []) (b.getD i []) <;> simp)
    (fun i h => by
      rw [r03_List_l2]
      simp only [cndO_eq, decide_eq_true_eq]
      by_cases h1 : (i : Int) < (a.length : Int)
      · rw [if_pos h1, if_neg (by omega)]
      · rw [if_neg h1])
    (fun i => r03_List_a2_ret _ _ _) (fun i => r03_List_a2_x0 _ _ _)
def F_r03_List : FnC Un := fun args => match args with
  | [x0, x1] => (dL .row x0).bind fun a => (dL .row x1).bind fun b => some ([], A_r03_List (r03_List a b), O_r03_List (r03_List a b))
  | _ => none
theorem ok_r03_List : FnOK 125 F_r03_List := by
  intro args ob rs os h hob
  unfold F_r03_List at h
  split at h
  · simp only [Option.bind_eq_some_iff, Option.some.injEq, Prod.mk.injEq] at h
    obtain ⟨a, e0, b, e1, rfl, rfl, rfl⟩ := h
    obtain rfl := dL_eq e0
    obtain rfl := dL_eq e1
    exact ⟨fn_contractF (M := M_r03_List) rfl (tbl_ok (l1 := [(130, F_r03_Orders)]) (l2 := []) (l3 := []) (l4 := []) (l5 := []) ⟨ok_r03_Orders, trivial⟩ trivial trivial trivial trivial) Tryz.func125 (by kernel_rfl) N_r03_List 0 [.d] (fun hwf => (r03_List_spec a b (wfArg hwf (a := .d (.v (.dat (U := Un) Ty.row a))) (List.mem_of_getElem? (i := 0) rfl)) (wfArg hwf (a := .d (.v (.dat (U := Un) Ty.row b))) (List.mem_of_getElem? (i := 1) rfl)))), hasBody_of Tryz.func125 (by kernel_rfl) (by kernel_rfl)⟩
  · simp at h
def M_r15_Cols : Mc Un := mach (tbl []) (tbl []) (tbl []) (tbl []) (tbl [])
def A_r15_Cols (r : Bool) : List (A Un) := [.c (.s (.bool r))]
def O_r15_Cols (_r : Bool) : List (Ob Un) := []
def R_r15_Cols (r : Bool) : RF Un := (A_r15_Cols r, O_r15_Cols r)
def N_r15_Cols : Nat → NS := fun l => (look l [(2, { ts := bl 32 51, bs := bl 32 0, nm := [] })]).getD ⟨[], [], [], [], [], false⟩
def r15_Cols_s2 (a : List Col) (b : List Col) (v0 : Int) : S Un := (st 32 32 128 0 [(0, al .col a), (1, al .col b), (4, ab false), (5, ai v0)] [] [])
def r15_Cols_B2 : Code := sub (bodyOf Tryz.f123) [1, 0, 1, 2, 2]
def r15_Cols_L2 : S Un → Option (EX Un) := loopF (N_r15_Cols 2) (fun s Q => awf M_r15_Cols N_r15_Cols r15_Cols_B2 s Q)
def r15_Cols_C2 : Exit → S Un → Option (RF Un) := ctxF M_r15_Cols N_r15_Cols (bodyOf Tryz.f123) [1, 0, 1, 2] (retF M_r15_Cols Tryz.f123.results.toList [.d])
def r15_Cols_fn (a : List Col) (b : List Col) : Option (RF Un) := awf M_r15_Cols N_r15_Cols (bodyOf Tryz.f123) (entry Tryz.f123.ntmps 0 [.d (.v (.dat (U := Un) Ty.col a)), .d (.v (.dat (U := Un) Ty.col b))]) (retF M_r15_Cols Tryz.f123.results.toList [.d])
theorem r15_Cols_in (a : List Col) (b : List Col) : r15_Cols_fn a b =
 (r15_Cols_L2 (r15_Cols_s2 a b (0 : Int))).bind (thenX r15_Cols_C2) := by kernel_rfl
theorem r15_Cols_l2 (a : List Col) (b : List Col) (v0 : Int) : r15_Cols_L2 (r15_Cols_s2 a b v0) =
 cndO (decide (v0 < (↑a.length : Int)))
  (cndO (decide (v0 < (↑b.length : Int)))
   (obO (0 ≤ v0 ∧ v0 < (↑a.length : Int))
    (obO (0 ≤ v0 ∧ v0 < (↑b.length : Int))
     (cndO (!andB [EK.str, EK.int IntKind.i64] ((a.getD v0.toNat zeroCol).table.toList == (b.getD v0.toNat zeroCol).table.toList) (andB [EK.int IntKind.i64] ((a.getD v0.toNat zeroCol).name.toList == (b.getD v0.toNat zeroCol).name.toList) (andB [] ((a.getD v0.toNat zeroCol).type == (b.getD v0.toNat zeroCol).type) true)))
      (some (.ret, (r15_Cols_s2 a b v0)))
      (r15_Cols_L2 (r15_Cols_s2 a b (IntKind.i64.wrap (v0 + 1)))))))
   (some (.exit 0, (r15_Cols_s2 a b v0))))
  (some (.exit 0, (r15_Cols_s2 a b v0))) := (loopF_eq (N_r15_Cols 2) r15_Cols_B2 _).trans (by kernel_rfl)
theorem r15_Cols_a2_ret (a : List Col) (b : List Col) (v0 : Int) : r15_Cols_C2 .ret (r15_Cols_s2 a b v0) =
 some (R_r15_Cols (false)) := by kernel_rfl
theorem r15_Cols_a2_x0 (a : List Col) (b : List Col) (v0 : Int) : r15_Cols_C2 (.exit 0) (r15_Cols_s2 a b v0) =
 some (R_r15_Cols ((↑a.length : Int) == (↑b.length : Int))) := by kernel_rfl
noncomputable def r15_Cols (a b : List Col) : Bool := deq a b
theorem r15_Cols_spec (a b : List Col) (ha : WL .col a) (_hb : WL .col b) : r15_Cols_fn a b = some (R_r15_Cols (r15_Cols a b)) := by
  rw [r15_Cols_in]
  exact loop_pre (L := r15_Cols_L2) (st := fun i => r15_Cols_s2 a b i) (fun r => some (R_r15_Cols r)) (d := zeroCol) ha.len
    (fun i hi hj => by
      rw [r15_Cols_l2, eqCol]
      simp only [cndO_eq, Int.toNat_natCast]
      rw [if_pos (by simp; omega), if_pos (by simp; omega), obO_pos (by omega), obO_pos (by omega)]
      cases deq (a.getD i zeroCol) (b.getD i zeroCol) <;> simp)
    (fun i h => by
      rw [r15_Cols_l2]
      simp only [cndO_eq, decide_eq_true_eq]
      by_cases h1 : (i : Int) < (a.length : Int)
      · rw [if_pos h1, if_neg (by omega)]
      · rw [if_neg h1])
    (fun i => r15_Cols_a2_ret _ _ _) (fun i => r15_Cols_a2_x0 _ _ _)
def F_r15_Cols : FnC Un := fun args => match args with
  | [x0, x1] => (dL .col x0).bind fun a => (dL .col x1).bind fun b => some ([], A_r15_Cols (r15_Cols a b), O_r15_Cols (r15_Cols a b))
  | _ => none
theorem ok_r15_Cols : FnOK 123 F_r15_Cols := by
  intro args ob rs os h hob
  unfold F_r15_Cols at h
  split at h
  · simp only [Option.bind_eq_some_iff, Option.some.injEq, Prod.mk.injEq] at h
    obtain ⟨a, e0, b, e1, rfl, rfl, rfl⟩ := h
    obtain rfl := dL_eq e0
    obtain rfl := dL_eq e1
    exact ⟨fn_contractF (M := M_r15_Cols) rfl (tbl_ok (l1 := []) (l2 := []) (l3 := []) (l4 := []) (l5 := []) trivial trivial trivial trivial trivial) Tryz.func123 (by kernel_rfl) N_r15_Cols 0 [.d] (fun hwf => (r15_Cols_spec a b (wfArg hwf (a := .d (.v (.dat (U := Un) Ty.col a))) (List.mem_of_getElem? (i := 0) rfl)) (wfArg hwf (a := .d (.v (.dat (U := Un) Ty.col b))) (List.mem_of_getElem? (i := 1) rfl)))), hasBody_of Tryz.func123 (by kernel_rfl) (by kernel_rfl)⟩
  · simp at h
def M_r15_Keys : Mc Un := mach (tbl []) (tbl []) (tbl []) (tbl []) (tbl [])
def A_r15_Keys (r : Bool) : List (A Un) := [.c (.s (.bool r))]
def O_r15_Keys (_r : Bool) : List (Ob Un) := []
def R_r15_Keys (r : Bool) : RF Un := (A_r15_Keys r, O_r15_Keys r)
def N_r15_Keys : Nat → NS := fun l => (look l [(2, { ts := bl 32 51, bs := bl 32 0, nm := [] })]).getD ⟨[], [], [], [], [], false⟩
def r15_Keys_s2 (a : List By) (b : List By) (v0 : Int) : S Un := (st 32 32 128 0 [(0, al .by_ a), (1, al .by_ b), (4, ab false), (5, ai v0)] [] [])
def r15_Keys_B2 : Code := sub (bodyOf Tryz.f124) [1, 0, 1, 2, 2]
def r15_Keys_L2 : S Un → Option (EX Un) := loopF (N_r15_Keys 2) (fun s Q => awf M_r15_Keys N_r15_Keys r15_Keys_B2 s Q)
def r15_Keys_C2 : Exit → S Un → Option (RF Un) := ctxF M_r15_Keys N_r15_Keys (bodyOf Tryz.f124) [1, 0, 1, 2] (retF M_r15_Keys Tryz.f124.results.toList [.d])
def r15_Keys_fn (a : List By) (b : List By) : Option (RF Un) := awf M_r15_Keys N_r15_Keys (bodyOf Tryz.f124) (entry Tryz.f124.ntmps 0 [.d (.v (.dat (U := Un) Ty.by_ a)), .d (.v (.dat (U := Un) Ty.by_ b))]) (retF M_r15_Keys Tryz.f124.results.toList [.d])
theorem r15_Keys_in (a : List By) (b : List By) : r15_Keys_fn a b =
 (r15_Keys_L2 (r15_Keys_s2 a b (0 : Int))).bind (thenX r15_Keys_C2) := by kernel_rfl
theorem r15_Keys_l2 (a : List By) (b : List By) (v0 : Int) : r15_Keys_L2 (r15_Keys_s2 a b v0) =
 cndO (decide (v0 < (↑a.length : Int)))
  (cndO (decide (v0 < (↑b.length : Int)))
   (obO (0 ≤ v0 ∧ v0 < (↑a.length : Int))
    (obO (0 ≤ v0 ∧ v0 < (↑b.length : Int))
     (cndO (!andB [EK.bool] ((a.getD v0.toNat zeroBy).at_ == (b.getD v0.toNat zeroBy).at_) (andB [] ((a.getD v0.toNat zeroBy).down == (b.getD v0.toNat zeroBy).down) true))
      (some (.ret, (r15_Keys_s2 a b v0)))
      (r15_Keys_L2 (r15_Keys_s2 a b (IntKind.i64.wrap (v0 + 1)))))))
   (some (.exit 0, (r15_Keys_s2 a b v0))))
  (some (.exit 0, (r15_Keys_s2 a b v0))) := (loopF_eq (N_r15_Keys 2) r15_Keys_B2 _).trans (by kernel_rfl)
theorem r15_Keys_a2_ret (a : List By) (b : List By) (v0 : Int) : r15_Keys_C2 .ret (r15_Keys_s2 a b v0) =
 some (R_r15_Keys (false)) := by kernel_rfl
theorem r15_Keys_a2_x0 (a : List By) (b : List By) (v0 : Int) : r15_Keys_C2 (.exit 0) (r15_Keys_s2 a b v0) =
 some (R_r15_Keys ((↑a.length : Int) == (↑b.length : Int))) := by kernel_rfl
noncomputable def r15_Keys (a b : List By) : Bool := deq a b
theorem r15_Keys_spec (a b : List By) (ha : WL .by_ a) (_hb : WL .by_ b) : r15_Keys_fn a b = some (R_r15_Keys (r15_Keys a b)) := by
  rw [r15_Keys_in]
  exact loop_pre (L := r15_Keys_L2) (st := fun i => r15_Keys_s2 a b i) (fun r => some (R_r15_Keys r)) (d := zeroBy) ha.len
    (fun i hi hj => by
      rw [r15_Keys_l2, eqBy]
      simp only [cndO_eq, Int.toNat_natCast]
      rw [if_pos (by simp; omega), if_pos (by simp; omega), obO_pos (by omega), obO_pos (by omega)]
      cases deq (a.getD i zeroBy) (b.getD i zeroBy) <;> simp)
    (fun i h => by
      rw [r15_Keys_l2]
      simp only [cndO_eq, decide_eq_true_eq]
      by_cases h1 : (i : Int) < (a.length : Int)
      · rw [if_pos h1, if_neg (by omega)]
      · rw [if_neg h1])
    (fun i => r15_Keys_a2_ret _ _ _) (fun i => r15_Keys_a2_x0 _ _ _)
def F_r15_Keys : FnC Un := fun args => match args with
  | [x0, x1] => (dL .by_ x0).bind fun a => (dL .by_ x1).bind fun b => some ([], A_r15_Keys (r15_Keys a b), O_r15_Keys (r15_Keys a b))
  | _ => none
theorem ok_r15_Keys : FnOK 124 F_r15_Keys := by
  intro args ob rs os h hob
  unfold F_r15_Keys at h
  split at h
  · simp only [Option.bind_eq_some_iff, Option.some.injEq, Prod.mk.injEq] at h
    obtain ⟨a, e0, b, e1, rfl, rfl, rfl⟩ := h
    obtain rfl := dL_eq e0
    obtain rfl := dL_eq e1
    exact ⟨fn_contractF (M := M_r15_Keys) rfl (tbl_ok (l1 := []) (l2 := []) (l3 := []) (l4 := []) (l5 := []) trivial trivial trivial trivial trivial) Tryz.func124 (by kernel_rfl) N_r15_Keys 0 [.d] (fun hwf => (r15_Keys_spec a b (wfArg hwf (a := .d (.v (.dat (U := Un) Ty.by_ a))) (List.mem_of_getElem? (i := 0) rfl)) (wfArg hwf (a := .d (.v (.dat (U := Un) Ty.by_ b))) (List.mem_of_getElem? (i := 1) rfl)))), hasBody_of Tryz.func124 (by kernel_rfl) (by kernel_rfl)⟩
  · simp at h
end
end Go.Proofs.YtjmpnpkcgkhagaaGreat.B
namespace Go.Proofs.YtjmpnpkcgkhagaaGreat.B
open Go Go.RowKit
set_option maxRecDepth 100000
noncomputable section
attribute [local irreducible] awp ctxK itersK iterK retQ retGQ awf ctxF loopF
noncomputable def r15_Terms (a b : List Term) : Bool := deq a b
noncomputable def r15_Rels (a b : List Rel) : Bool := deq a b
noncomputable def r15_SameTerm (a b : Term) : Bool := deq a b
noncomputable def r15_Aggs (a b : List Agg) : Bool := deq a b
noncomputable def r15_SameRel (a b : Rel) : Bool := deq a b
theorem agg_deqb (x y : Agg) : deq x y = ((x.name.toList == y.name.toList) && ((x.distinct == y.distinct) && deq x.t y.t)) := by
  rw [Bool.eq_iff_iff, agg_deq]
  simp only [Bool.and_eq_true, beq_iff_eq, name_eq, deq_iff]
theorem cndO_nand {β : Type} (R : Bool → β) {q x : Bool} : cndO (!q) (some (R false)) (some (R x)) = some (R (q && x)) := by cases q <;> rfl
def A_r15_Terms (r : Bool) : List (A Un) := [.c (.s (.bool r))]
def O_r15_Terms (_r : Bool) : List (Ob Un) := []
def Fm_r15_Terms (m : Nat) : FnC Un := fun args => match args with
  | [x0, x1] => (dL .term x0).bind fun a => (dL .term x1).bind fun b => some ([2 * htTs a + 1 < m], A_r15_Terms (r15_Terms a b), O_r15_Terms (r15_Terms a b))
  | _ => none
def A_r15_Rels (r : Bool) : List (A Un) := [.c (.s (.bool r))]
def O_r15_Rels (_r : Bool) : List (Ob Un) := []
def Fm_r15_Rels (m : Nat) : FnC Un := fun args => match args with
  | [x0, x1] => (dL .rel x0).bind fun a => (dL .rel x1).bind fun b => some ([2 * htRs a + 1 < m], A_r15_Rels (r15_Rels a b), O_r15_Rels (r15_Rels a b))
  | _ => none
def A_r15_SameTerm (r : Bool) : List (A Un) := [.c (.s (.bool r))]
def O_r15_SameTerm (_r : Bool) : List (Ob Un) := []
def Fm_r15_SameTerm (m : Nat) : FnC Un := fun args => match args with
  | [x0, x1] => (dS .term x0).bind fun a => (dS .term x1).bind fun b => some ([2 * a.ht < m], A_r15_SameTerm (r15_SameTerm a b), O_r15_SameTerm (r15_SameTerm a b))
  | _ => none
def A_r15_Aggs (r : Bool) : List (A Un) := [.c (.s (.bool r))]
def O_r15_Aggs (_r : Bool) : List (Ob Un) := []
def Fm_r15_Aggs (m : Nat) : FnC Un := fun args => match args with
  | [x0, x1] => (dL .agg x0).bind fun a => (dL .agg x1).bind fun b => some ([2 * htAs a + 1 < m], A_r15_Aggs (r15_Aggs a b), O_r15_Aggs (r15_Aggs a b))
  | _ => none
def A_r15_SameRel (r : Bool) : List (A Un) := [.c (.s (.bool r))]
def O_r15_SameRel (_r : Bool) : List (Ob Un) := []
def Fm_r15_SameRel (m : Nat) : FnC Un := fun args => match args with
  | [x0, x1] => (dS .rel x0).bind fun a => (dS .rel x1).bind fun b => some ([2 * a.ht < m], A_r15_SameRel (r15_SameRel a b), O_r15_SameRel (r15_SameRel a b))
  | _ => none
def M_r15_Terms (m : Nat) : Mc Un := mach (tbl [(57, Fm_r15_SameTerm m)]) (tbl []) (tbl []) (tbl []) (tbl [])
def R_r15_Terms (r : Bool) : RF Un := (A_r15_Terms r, O_r15_Terms r)
def N_r15_Terms : Nat → NS := fun l => (look l [(2, { ts := bl 33 51, bs := bl 33 0, nm := [] })]).getD ⟨[], [], [], [], [], false⟩
def r15_Terms_s2 (a : List Term) (b : List Term) (v0 : Int) : S Un := (st 33 33 132 0 [(0, al .term a), (1, al .term b), (4, ab false), (5, ai v0)] [] [])
def r15_Terms_B2 : Code := sub (bodyOf Tryz.f91) [1, 0, 1, 2, 2]
def r15_Terms_L2 (m : Nat) : S Un → Option (EX Un) := loopF (N_r15_Terms 2) (fun s Q => awf (M_r15_Terms m) N_r15_Terms r15_Terms_B2 s Q)
def r15_Terms_C2 (m : Nat) : Exit → S Un → Option (RF Un) := ctxF (M_r15_Terms m) N_r15_Terms (bodyOf Tryz.f91) [1, 0, 1, 2] (retF (M_r15_Terms m) Tryz.f91.results.toList [.d])
def r15_Terms_fn (m : Nat) (a : List Term) (b : List Term) : Option (RF Un) := awf (M_r15_Terms m) N_r15_Terms (bodyOf Tryz.f91) (entry Tryz.f91.ntmps 0 [.d (.v (.dat (U := Un) Ty.term a)), .d (.v (.dat (U := Un) Ty.term b))]) (retF (M_r15_Terms m) Tryz.f91.results.toList [.d])
theorem r15_Terms_in (m : Nat) (a : List Term) (b : List Term) : r15_Terms_fn m a b =
 (r15_Terms_L2 m (r15_Terms_s2 a b (0 : Int))).bind (thenX (r15_Terms_C2 m)) := by kernel_rfl
theorem r15_Terms_l2 (m : Nat) (a : List Term) (b : List Term) (v0 : Int) : r15_Terms_L2 m (r15_Terms_s2 a b v0) =
 cndO (decide (v0 < (↑a.length : Int)))
  (cndO (decide (v0 < (↑b.length : Int)))
   (obO (0 ≤ v0 ∧ v0 < (↑a.length : Int))
    (obO (0 ≤ v0 ∧ v0 < (↑b.length : Int))
     (obO ((2 : Nat) * (Term.ids (a.getD v0.toNat zeroTerm)).ht < m)
      (cndO (!r15_SameTerm (Term.ids (a.getD v0.toNat zeroTerm)) (Term.ids (b.getD v0.toNat zeroTerm)))
       (some (.ret, (r15_Terms_s2 a b v0)))
       (r15_Terms_L2 m (r15_Terms_s2 a b (IntKind.i64.wrap (v0 + 1))))))))
   (some (.exit 0, (r15_Terms_s2 a b v0))))
  (some (.exit 0, (r15_Terms_s2 a b v0))) := (loopF_eq (N_r15_Terms 2) r15_Terms_B2 _).trans (by kernel_rfl)
theorem r15_Terms_a2_ret (m : Nat) (a : List Term) (b : List Term) (v0 : Int) : r15_Terms_C2 m .ret (r15_Terms_s2 a b v0) =
 some (R_r15_Terms (false)) := by kernel_rfl
theorem r15_Terms_a2_x0 (m : Nat) (a : List Term) (b : List Term) (v0 : Int) : r15_Terms_C2 m (.exit 0) (r15_Terms_s2 a b v0) =
 some (R_r15_Terms ((↑a.length : Int) == (↑b.length : Int))) := by kernel_rfl
theorem r15_Terms_spec (m : Nat) (a b : List Term) (ha : WL .term a) (_hb : WL .term b) (h : 2 * htTs a + 1 < m + 1) : r15_Terms_fn m a b = some (R_r15_Terms (r15_Terms a b)) := by
  rw [r15_Terms_in]
  exact loop_pre (L := r15_Terms_L2 m) (st := fun i => r15_Terms_s2 a b i) (fun r => some (R_r15_Terms r)) (d := zeroTerm) ha.len
    (fun i hi hj => by
      have hht := htTs_mem (getD_mem (d := zeroTerm) hi)
      rw [r15_Terms_l2]
      simp only [Term.ids_eq, cndO_eq, Int.toNat_natCast, r15_SameTerm]
      rw [if_pos (by simp; omega), if_pos (by simp; omega), obO_pos (by omega), obO_pos (by omega), obO_pos (by omega)]
      cases deq (a.getD i zeroTerm) (b.getD i zeroTerm) <;> simp)
    (fun i h => by
      rw [r15_Terms_l2]
      simp only [cndO_eq, decide_eq_true_eq]
      by_cases h1 : (i : Int) < (a.length : Int)
      · rw [if_pos h1, if_neg (by omega)]
      · rw [if_neg h1])
    (fun i => r15_Terms_a2_ret _ _ _ _) (fun i => r15_Terms_a2_x0 _ _ _ _)
theorem okm_r15_Terms (m : Nat) (h_r15_Terms : FnOK 91 (Fm_r15_Terms m)) (h_r15_Rels : FnOK 92 (Fm_r15_Rels m)) (h_r15_SameTerm : FnOK 57 (Fm_r15_SameTerm m)) (h_r15_Aggs : FnOK 126 (Fm_r15_Aggs m)) (h_r15_SameRel : FnOK 114 (Fm_r15_SameRel m)) : FnOK 91 (Fm_r15_Terms (m + 1)) := by
  intro args ob rs os h hob
  unfold Fm_r15_Terms at h
  split at h
  · simp only [Option.bind_eq_some_iff, Option.some.injEq, Prod.mk.injEq] at h
    obtain ⟨a, e0, b, e1, rfl, rfl, rfl⟩ := h
    obtain rfl := dL_eq e0
    obtain rfl := dL_eq e1
    exact ⟨fn_contractF (M := (M_r15_Terms m)) rfl (tbl_ok (l1 := [(57, Fm_r15_SameTerm m)]) (l2 := []) (l3 := []) (l4 := []) (l5 := []) ⟨h_r15_SameTerm, trivial⟩ trivial trivial trivial trivial) Tryz.func91 (by kernel_rfl) N_r15_Terms 0 [.d] (fun hwf => (r15_Terms_spec m a b (wfArg hwf (a := .d (.v (.dat (U := Un) Ty.term a))) (List.mem_of_getElem? (i := 0) rfl)) (wfArg hwf (a := .d (.v (.dat (U := Un) Ty.term b))) (List.mem_of_getElem? (i := 1) rfl)) (hob _ (List.mem_of_getElem? (i := 0) rfl)))), hasBody_of Tryz.func91 (by kernel_rfl) (by kernel_rfl)⟩
  · simp at h
def M_r15_Rels (m : Nat) : Mc Un := mach (tbl [(114, Fm_r15_SameRel m)]) (tbl []) (tbl []) (tbl []) (tbl [])
def R_r15_Rels (r : Bool) : RF Un := (A_r15_Rels r, O_r15_Rels r)
def N_r15_Rels : Nat → NS := fun l => (look l [(2, { ts := bl 33 51, bs := bl 33 0, nm := [] })]).getD ⟨[], [], [], [], [], false⟩
def r15_Rels_s2 (a : List Rel) (b : List Rel) (v0 : Int) : S Un := (st 33 33 132 0 [(0, al .rel a), (1, al .rel b), (4, ab false), (5, ai v0)] [] [])
def r15_Rels_B2 : Code := sub (bodyOf Tryz.f92) [1, 0, 1, 2, 2]
def r15_Rels_L2 (m : Nat) : S Un → Option (EX Un) := loopF (N_r15_Rels 2) (fun s Q => awf (M_r15_Rels m) N_r15_Rels r15_Rels_B2 s Q)
def r15_Rels_C2 (m : Nat) : Exit → S Un → Option (RF Un) := ctxF (M_r15_Rels m) N_r15_Rels (bodyOf Tryz.f92) [1, 0, 1, 2] (retF (M_r15_Rels m) Tryz.f92.results.toList [.d])
def r15_Rels_fn (m : Nat) (a : List Rel) (b : List Rel) : Option (RF Un) := awf (M_r15_Rels m) N_r15_Rels (bodyOf Tryz.f92) (entry Tryz.f92.ntmps 0 [.d (.v (.dat (U := Un) Ty.rel a)), .d (.v (.dat (U := Un) Ty.rel b))]) (retF (M_r15_Rels m) Tryz.f92.results.toList [.d])
theorem r15_Rels_in (m : Nat) (a : List Rel) (b : List Rel) : r15_Rels_fn m a b =
 (r15_Rels_L2 m (r15_Rels_s2 a b (0 : Int))).bind (thenX (r15_Rels_C2 m)) := by kernel_rfl
theorem r15_Rels_l2 (m : Nat) (a : List Rel) (b : List Rel) (v0 : Int) : r15_Rels_L2 m (r15_Rels_s2 a b v0) =
 cndO (decide (v0 < (↑a.length : Int)))
  (cndO (decide (v0 < (↑b.length : Int)))
   (obO (0 ≤ v0 ∧ v0 < (↑a.length : Int))
    (obO (0 ≤ v0 ∧ v0 < (↑b.length : Int))
     (obO ((2 : Nat) * (Rel.ids (a.getD v0.toNat zeroRel)).ht < m)
      (cndO (!r15_SameRel (Rel.ids (a.getD v0.toNat zeroRel)) (Rel.ids (b.getD v0.toNat zeroRel)))
       (some (.ret, (r15_Rels_s2 a b v0)))
       (r15_Rels_L2 m (r15_Rels_s2 a b (IntKind.i64.wrap (v0 + 1))))))))
   (some (.exit 0, (r15_Rels_s2 a b v0))))
  (some (.exit 0, (r15_Rels_s2 a b v0))) := (loopF_eq (N_r15_Rels 2) r15_Rels_B2 _).trans (by kernel_rfl)
theorem r15_Rels_a2_ret (m : Nat) (a : List Rel) (b : List Rel) (v0 : Int) : r15_Rels_C2 m .ret (r15_Rels_s2 a b v0) =
 some (R_r15_Rels (false)) := by kernel_rfl
theorem r15_Rels_a2_x0 (m : Nat) (a : List Rel) (b : List Rel) (v0 : Int) : r15_Rels_C2 m (.exit 0) (r15_Rels_s2 a b v0) =
 some (R_r15_Rels ((↑a.length : Int) == (↑b.length : Int))) := by kernel_rfl
theorem r15_Rels_spec (m : Nat) (a b : List Rel) (ha : WL .rel a) (_hb : WL .rel b) (h : 2 * htRs a + 1 < m + 1) : r15_Rels_fn m a b = some (R_r15_Rels (r15_Rels a b)) := by
  rw [r15_Rels_in]
  exact loop_pre (L := r15_Rels_L2 m) (st := fun i => r15_Rels_s2 a b i) (fun r => some (R_r15_Rels r)) (d := zeroRel) ha.len
    (fun i hi hj => by
      have hht := htRs_mem (getD_mem (d := zeroRel) hi)
      rw [r15_Rels_l2]
      simp only [Rel.ids_eq, cndO_eq, Int.toNat_natCast, r15_SameRel]
      rw [if_pos (by simp; omega), if_pos (by simp; omega), obO_pos (by omega), obO_pos (by omega), obO_pos (by omega)]
      cases deq (a.getD i zeroRel) (b.getD i zeroRel) <;> simp)
    (fun i h => by
      rw [r15_Rels_l2]
      simp only [cndO_eq, decide_eq_true_eq]
      by_cases h1 : (i : Int) < (a.length : Int)
      · rw [if_pos h1, if_neg (by omega)]
      · rw [if_neg h1])
    (fun i => r15_Rels_a2_ret _ _ _ _) (fun i => r15_Rels_a2_x0 _ _ _ _)
theorem okm_r15_Rels (m : Nat) (h_r15_Terms : FnOK 91 (Fm_r15_Terms m)) (h_r15_Rels : FnOK 92 (Fm_r15_Rels m)) (h_r15_SameTerm : FnOK 57 (Fm_r15_SameTerm m)) (h_r15_Aggs : FnOK 126 (Fm_r15_Aggs m)) (h_r15_SameRel : FnOK 114 (Fm_r15_SameRel m)) : FnOK 92 (Fm_r15_Rels (m + 1)) := by
  intro args ob rs os h hob
  unfold Fm_r15_Rels at h
  split at h
  · simp only [Option.bind_eq_some_iff, Option.some.injEq, Prod.mk.injEq] at h
    obtain ⟨a, e0, b, e1, rfl, rfl, rfl⟩ := h
    obtain rfl := dL_eq e0
    obtain rfl := dL_eq e1
    exact ⟨fn_contractF (M := (M_r15_Rels m)) rfl (tbl_ok (l1 := [(114, Fm_r15_SameRel m)]) (l2 := []) (l3 := []) (l4 := []) (l5 := []) ⟨h_r15_SameRel, trivial⟩ trivial trivial trivial trivial) Tryz.func92 (by kernel_rfl) N_r15_Rels 0 [.d] (fun hwf => (r15_Rels_spec m a b (wfArg hwf (a := .d (.v (.dat (U := Un) Ty.rel a))) (List.mem_of_getElem? (i := 0) rfl)) (wfArg hwf (a := .d (.v (.dat (U := Un) Ty.rel b))) (List.mem_of_getElem? (i := 1) rfl)) (hob _ (List.mem_of_getElem? (i := 0) rfl)))), hasBody_of Tryz.func92 (by kernel_rfl) (by kernel_rfl)⟩
  · simp at h
def M_r15_SameTerm (m : Nat) : Mc Un := mach (tbl [(91, Fm_r15_Terms m), (92, Fm_r15_Rels m)]) (tbl []) (tbl []) (tbl []) (tbl [])
def R_r15_SameTerm (r : Bool) : RF Un := (A_r15_SameTerm r, O_r15_SameTerm r)
def N_r15_SameTerm : Nat → NS := fun l => (look l []).getD ⟨[], [], [], [], [], false⟩
def r15_SameTerm_fn (m : Nat) (a : Term) (b : Term) : Option (RF Un) := awf (M_r15_SameTerm m) N_r15_SameTerm (bodyOf Tryz.f57) (entry Tryz.f57.ntmps 0 [.d (.agg (enc Ty.term a)), .d (.agg (enc Ty.term b))]) (retF (M_r15_SameTerm m) Tryz.f57.results.toList [.d])
theorem r15_SameTerm_in (m : Nat) (a : Term) (b : Term) : r15_SameTerm_fn m a b =
 cndO (a.op == b.op)
  (cndO (andB [EK.int IntKind.i64, EK.str] (a.v.kind == b.v.kind) (andB [EK.str] (a.v.n == b.v.n) (andB [] (a.v.s.toList == b.v.s.toList) true)))
   (cndO (a.depth == b.depth)
    (cndO (a.at_ == b.at_)
     (cndO (a.name.toList == b.name.toList)
      (cndO (a.type == b.type)
       (obO ((2 : Nat) * htTs a.kids + (1 : Nat) < m)
        (cndO (r15_Terms a.kids b.kids)
         (obO ((2 : Nat) * htRs a.sub + (1 : Nat) < m)
          (some (R_r15_SameTerm (r15_Rels a.sub b.sub))))
         (some (R_r15_SameTerm (false)))))
       (some (R_r15_SameTerm (false))))
      (some (R_r15_SameTerm (false))))
     (some (R_r15_SameTerm (false))))
    (some (R_r15_SameTerm (false))))
   (some (R_r15_SameTerm (false))))
  (some (R_r15_SameTerm (false))) := by kernel_rfl
theorem r15_SameTerm_spec (m : Nat) (a b : Term) (_ha : WS .term a) (_hb : WS .term b) (h : 2 * a.ht < m + 1) : r15_SameTerm_fn m a b = some (R_r15_SameTerm (r15_SameTerm a b)) := by
  have hk : htTs a.kids < a.ht ∧ htRs a.sub < a.ht := by cases a; simp only [Term.ht, Term.kids_mk, Term.sub_mk]; omega
  rw [r15_SameTerm_in, eqVal, obO_pos (by omega), obO_pos (by omega)]
  simp only [cndO_and R_r15_SameTerm]
  congr 2
  unfold r15_SameTerm r15_Terms r15_Rels
  rw [Bool.eq_iff_iff, term_deq]
  simp only [Bool.and_eq_true, beq_iff_eq, name_eq, deq_iff]
theorem okm_r15_SameTerm (m : Nat) (h_r15_Terms : FnOK 91 (Fm_r15_Terms m)) (h_r15_Rels : FnOK 92 (Fm_r15_Rels m)) (h_r15_SameTerm : FnOK 57 (Fm_r15_SameTerm m)) (h_r15_Aggs : FnOK 126 (Fm_r15_Aggs m)) (h_r15_SameRel : FnOK 114 (Fm_r15_SameRel m)) : FnOK 57 (Fm_r15_SameTerm (m + 1)) := by
  intro args ob rs os h hob
  unfold Fm_r15_SameTerm at h
  split at h
  · simp only [Option.bind_eq_some_iff, Option.some.injEq, Prod.mk.injEq] at h
    obtain ⟨a, e0, b, e1, rfl, rfl, rfl⟩ := h
    obtain rfl := dS_eq e0
    obtain rfl := dS_eq e1
    exact ⟨fn_contractF (M := (M_r15_SameTerm m)) rfl (tbl_ok (l1 := [(91, Fm_r15_Terms m), (92, Fm_r15_Rels m)]) (l2 := []) (l3 := []) (l4 := []) (l5 := []) ⟨h_r15_Terms, h_r15_Rels, trivial⟩ trivial trivial trivial trivial) Tryz.func57 (by kernel_rfl) N_r15_SameTerm 0 [.d] (fun hwf => (r15_SameTerm_spec m a b (wfArg hwf (a := .d (.agg (enc Ty.term a))) (List.mem_of_getElem? (i := 0) rfl)) (wfArg hwf (a := .d (.agg (enc Ty.term b))) (List.mem_of_getElem? (i := 1) rfl)) (hob _ (List.mem_of_getElem? (i := 0) rfl)))), hasBody_of Tryz.func57 (by kernel_rfl) (by kernel_rfl)⟩
  · simp at h
def M_r15_Aggs (m : Nat) : Mc Un := mach (tbl [(91, Fm_r15_Terms m)]) (tbl []) (tbl []) (tbl []) (tbl [])
def R_r15_Aggs (r : Bool) : RF Un := (A_r15_Aggs r, O_r15_Aggs r)
def N_r15_Aggs : Nat → NS := fun l => (look l [(2, { ts := bl 61 51, bs := bl 61 0, nm := [] })]).getD ⟨[], [], [], [], [], false⟩
def r15_Aggs_s2 (a : List Agg) (b : List Agg) (v0 : Int) : S Un := (st 61 61 244 0 [(0, al .agg a), (1, al .agg b), (4, ab false), (5, ai v0)] [] [])
def r15_Aggs_B2 : Code := sub (bodyOf Tryz.f126) [1, 0, 1, 2, 2]
def r15_Aggs_L2 (m : Nat) : S Un → Option (EX Un) := loopF (N_r15_Aggs 2) (fun s Q => awf (M_r15_Aggs m) N_r15_Aggs r15_Aggs_B2 s Q)
def r15_Aggs_C2 (m : Nat) : Exit → S Un → Option (RF Un) := ctxF (M_r15_Aggs m) N_r15_Aggs (bodyOf Tryz.f126) [1, 0, 1, 2] (retF (M_r15_Aggs m) Tryz.f126.results.toList [.d])
def r15_Aggs_fn (m : Nat) (a : List Agg) (b : List Agg) : Option (RF Un) := awf (M_r15_Aggs m) N_r15_Aggs (bodyOf Tryz.f126) (entry Tryz.f126.ntmps 0 [.d (.v (.dat (U := Un) Ty.agg a)), .d (.v (.dat (U := Un) Ty.agg b))]) (retF (M_r15_Aggs m) Tryz.f126.results.toList [.d])
theorem r15_Aggs_in (m : Nat) (a : List Agg) (b : List Agg) : r15_Aggs_fn m a b =
 (r15_Aggs_L2 m (r15_Aggs_s2 a b (0 : Int))).bind (thenX (r15_Aggs_C2 m)) := by kernel_rfl
theorem r15_Aggs_l2 (m : Nat) (a : List Agg) (b : List Agg) (v0 : Int) : r15_Aggs_L2 m (r15_Aggs_s2 a b v0) =
 cndO (decide (v0 < (↑a.length : Int)))
  (cndO (decide (v0 < (↑b.length : Int)))
   (obO (0 ≤ v0 ∧ v0 < (↑a.length : Int))
    (obO (0 ≤ v0 ∧ v0 < (↑b.length : Int))
     (cndO (!(Agg.name (a.getD v0.toNat zeroAgg)).toList == (Agg.name (b.getD v0.toNat zeroAgg)).toList)
      (some (.ret, (r15_Aggs_s2 a b v0)))
      (obO (0 ≤ v0 ∧ v0 < (↑a.length : Int))
       (obO (0 ≤ v0 ∧ v0 < (↑b.length : Int))
        (cndO (!Agg.distinct (a.getD v0.toNat zeroAgg) == Agg.distinct (b.getD v0.toNat zeroAgg))
         (some (.ret, (r15_Aggs_s2 a b v0)))
         (obO (0 ≤ v0 ∧ v0 < (↑a.length : Int))
          (obO (0 ≤ v0 ∧ v0 < (↑b.length : Int))
           (obO ((2 : Nat) * htTs (Agg.t (a.getD v0.toNat zeroAgg)) + (1 : Nat) < m)
            (cndO (!r15_Terms (Agg.t (a.getD v0.toNat zeroAgg)) (Agg.t (b.getD v0.toNat zeroAgg)))
             (some (.ret, (r15_Aggs_s2 a b v0)))
             (r15_Aggs_L2 m (r15_Aggs_s2 a b (IntKind.i64.wrap (v0 + 1))))))))))))))
   (some (.exit 0, (r15_Aggs_s2 a b v0))))
  (some (.exit 0, (r15_Aggs_s2 a b v0))) := (loopF_eq (N_r15_Aggs 2) r15_Aggs_B2 _).trans (by kernel_rfl)
theorem r15_Aggs_a2_ret (m : Nat) (a : List Agg) (b : List Agg) (v0 : Int) : r15_Aggs_C2 m .ret (r15_Aggs_s2 a b v0) =
 some (R_r15_Aggs (false)) := by kernel_rfl
theorem r15_Aggs_a2_x0 (m : Nat) (a : List Agg) (b : List Agg) (v0 : Int) : r15_Aggs_C2 m (.exit 0) (r15_Aggs_s2 a b v0) =
 some (R_r15_Aggs ((↑a.length : Int) == (↑b.length : Int))) := by kernel_rfl
theorem r15_Aggs_spec (m : Nat) (a b : List Agg) (ha : WL .agg a) (_hb : WL .agg b) (h : 2 * htAs a + 1 < m + 1) : r15_Aggs_fn m a b = some (R_r15_Aggs (r15_Aggs a b)) := by
  rw [r15_Aggs_in]
  exact loop_pre (L := r15_Aggs_L2 m) (st := fun i => r15_Aggs_s2 a b i) (fun r => some (R_r15_Aggs r)) (d := zeroAgg) ha.len
    (fun i hi hj => by
      have hht := htAs_mem (getD_mem (d := zeroAgg) hi)
      have hxh : htTs (a.getD i zeroAgg).t < (a.getD i zeroAgg).ht := by cases (a.getD i zeroAgg); simp only [Agg.ht, Agg.t_mk]; omega
      rw [r15_Aggs_l2, agg_deqb]
      simp only [cndO_eq, Int.toNat_natCast, r15_Terms]
      rw [if_pos (by simp; omega), if_pos (by simp; omega), obO_pos (by omega), obO_pos (by omega), obO_pos (by omega), obO_pos (by omega), obO_pos (by omega), obO_pos (by omega), obO_pos (by omega)]
      cases ((a.getD i zeroAgg).name.toList == (b.getD i zeroAgg).name.toList) <;> cases ((a.getD i zeroAgg).distinct == (b.getD i zeroAgg).distinct) <;> cases deq (a.getD i zeroAgg).t (b.getD i zeroAgg).t <;> simp)
    (fun i h => by
      rw [r15_Aggs_l2]
      simp only [cndO_eq, decide_eq_true_eq]
      by_cases h1 : (i : Int) < (a.length : Int)
      · rw [if_pos h1, if_neg (by omega)]
      · rw [if_neg h1])
    (fun i => r15_Aggs_a2_ret _ _ _ _) (fun i => r15_Aggs_a2_x0 _ _ _ _)
theorem okm_r15_Aggs (m : Nat) (h_r15_Terms : FnOK 91 (Fm_r15_Terms m)) (h_r15_Rels : FnOK 92 (Fm_r15_Rels m)) (h_r15_SameTerm : FnOK 57 (Fm_r15_SameTerm m)) (h_r15_Aggs : FnOK 126 (Fm_r15_Aggs m)) (h_r15_SameRel : FnOK 114 (Fm_r15_SameRel m)) : FnOK 126 (Fm_r15_Aggs (m + 1)) := by
  intro args ob rs os h hob
  unfold Fm_r15_Aggs at h
  split at h
  · simp only [Option.bind_eq_some_iff, Option.some.injEq, Prod.mk.injEq] at h
    obtain ⟨a, e0, b, e1, rfl, rfl, rfl⟩ := h
    obtain rfl := dL_eq e0
    obtain rfl := dL_eq e1
    exact ⟨fn_contractF (M := (M_r15_Aggs m)) rfl (tbl_ok (l1 := [(91, Fm_r15_Terms m)]) (l2 := []) (l3 := []) (l4 := []) (l5 := []) ⟨h_r15_Terms, trivial⟩ trivial trivial trivial trivial) Tryz.func126 (by kernel_rfl) N_r15_Aggs 0 [.d] (fun hwf => (r15_Aggs_spec m a b (wfArg hwf (a := .d (.v (.dat (U := Un) Ty.agg a))) (List.mem_of_getElem? (i := 0) rfl)) (wfArg hwf (a := .d (.v (.dat (U := Un) Ty.agg b))) (List.mem_of_getElem? (i := 1) rfl)) (hob _ (List.mem_of_getElem? (i := 0) rfl)))), hasBody_of Tryz.func126 (by kernel_rfl) (by kernel_rfl)⟩
  · simp at h
def M_r15_SameRel (m : Nat) : Mc Un := mach (tbl [(123, F_r15_Cols), (124, F_r15_Keys), (125, F_r03_List), (91, Fm_r15_Terms m), (126, Fm_r15_Aggs m), (92, Fm_r15_Rels m)]) (tbl []) (tbl []) (tbl []) (tbl [])
def R_r15_SameRel (r : Bool) : RF Un := (A_r15_SameRel r, O_r15_SameRel r)
def N_r15_SameRel : Nat → NS := fun l => (look l []).getD ⟨[], [], [], [], [], false⟩
def r15_SameRel_fn (m : Nat) (a : Rel) (b : Rel) : Option (RF Un) := awf (M_r15_SameRel m) N_r15_SameRel (bodyOf Tryz.f114) (entry Tryz.f114.ntmps 0 [.d (.agg (enc Ty.rel a)), .d (.agg (enc Ty.rel b))]) (retF (M_r15_SameRel m) Tryz.f114.results.toList [.d])
theorem r15_SameRel_in (m : Nat) (a : Rel) (b : Rel) : r15_SameRel_fn m a b =
 cndO (a.op != b.op)
  (some (R_r15_SameRel (false)))
  (cndO (!a.table.toList == b.table.toList)
   (some (R_r15_SameRel (false)))
   (cndO (a.limit != b.limit)
    (some (R_r15_SameRel (false)))
    (cndO (a.skip != b.skip)
     (some (R_r15_SameRel (false)))
     (cndO (!a.all == b.all)
      (some (R_r15_SameRel (false)))
      (cndO (!r15_Cols a.cols b.cols)
       (some (R_r15_SameRel (false)))
       (cndO (!r15_Keys a.keys b.keys)
        (some (R_r15_SameRel (false)))
        (cndO (r03_List a.rows b.rows)
         (obO ((2 : Nat) * htTs a.terms + (1 : Nat) < m)
          (cndO (r15_Terms a.terms b.terms)
           (obO ((2 : Nat) * htAs a.aggs + (1 : Nat) < m)
            (cndO (r15_Aggs a.aggs b.aggs)
             (obO ((2 : Nat) * htRs a.kids + (1 : Nat) < m)
              (some (R_r15_SameRel (r15_Rels a.kids b.kids))))
             (some (R_r15_SameRel (false)))))
           (some (R_r15_SameRel (false)))))
         (some (R_r15_SameRel (false)))))))))) := by kernel_rfl
theorem r15_SameRel_spec (m : Nat) (a b : Rel) (_ha : WS .rel a) (_hb : WS .rel b) (h : 2 * a.ht < m + 1) : r15_SameRel_fn m a b = some (R_r15_SameRel (r15_SameRel a b)) := by
  have hk : htTs a.terms < a.ht ∧ htAs a.aggs < a.ht ∧ htRs a.kids < a.ht := by cases a; simp only [Rel.ht, Rel.kids_mk, Rel.terms_mk, Rel.aggs_mk]; omega
  rw [r15_SameRel_in, obO_pos (by omega), obO_pos (by omega), obO_pos (by omega)]
  simp only [bne, cndO_and R_r15_SameRel, cndO_nand R_r15_SameRel]
  congr 2
  unfold r15_SameRel r15_Terms r15_Rels r15_Aggs r15_Cols r15_Keys r03_List
  rw [Bool.eq_iff_iff, rel_deq]
  simp only [Bool.and_eq_true, beq_iff_eq, name_eq, deq_iff]
theorem okm_r15_SameRel (m : Nat) (h_r15_Terms : FnOK 91 (Fm_r15_Terms m)) (h_r15_Rels : FnOK 92 (Fm_r15_Rels m)) (h_r15_SameTerm : FnOK 57 (Fm_r15_SameTerm m)) (h_r15_Aggs : FnOK 126 (Fm_r15_Aggs m)) (h_r15_SameRel : FnOK 114 (Fm_r15_SameRel m)) : FnOK 114 (Fm_r15_SameRel (m + 1)) := by
  intro args ob rs os h hob
  unfold Fm_r15_SameRel at h
  split at h
  · simp only [Option.bind_eq_some_iff, Option.some.injEq, Prod.mk.injEq] at h
    obtain ⟨a, e0, b, e1, rfl, rfl, rfl⟩ := h
    obtain rfl := dS_eq e0
    obtain rfl := dS_eq e1
    exact ⟨fn_contractF (M := (M_r15_SameRel m)) rfl (tbl_ok (l1 := [(123, F_r15_Cols), (124, F_r15_Keys), (125, F_r03_List), (91, Fm_r15_Terms m), (126, Fm_r15_Aggs m), (92, Fm_r15_Rels m)]) (l2 := []) (l3 := []) (l4 := []) (l5 := []) ⟨ok_r15_Cols, ok_r15_Keys, ok_r03_List, h_r15_Terms, h_r15_Aggs, h_r15_Rels, trivial⟩ trivial trivial trivial trivial) Tryz.func114 (by kernel_rfl) N_r15_SameRel 0 [.d] (fun hwf => (r15_SameRel_spec m a b (wfArg hwf (a := .d (.agg (enc Ty.rel a))) (List.mem_of_getElem? (i := 0) rfl)) (wfArg hwf (a := .d (.agg (enc Ty.rel b))) (List.mem_of_getElem? (i := 1) rfl)) (hob _ (List.mem_of_getElem? (i := 0) rfl)))), hasBody_of Tryz.func114 (by kernel_rfl) (by kernel_rfl)⟩
  · simp at h
theorem okAll_s15G : ∀ m, FnOK 91 (Fm_r15_Terms m) ∧ FnOK 92 (Fm_r15_Rels m) ∧ FnOK 57 (Fm_r15_SameTerm m) ∧ FnOK 126 (Fm_r15_Aggs m) ∧ FnOK 114 (Fm_r15_SameRel m)
  | 0 => by
    refine ⟨?_, ?_, ?_, ?_, ?_⟩
    · intro args ob rs os h hob
      unfold Fm_r15_Terms at h
      split at h
      · simp only [Option.bind_eq_some_iff, Option.some.injEq, Prod.mk.injEq] at h
        obtain ⟨_, _, _, _, rfl, _, _⟩ := h
        exact absurd (hob _ (List.mem_of_getElem? (i := 0) rfl)) (Nat.not_lt_zero _)
      · simp at h
    · intro args ob rs os h hob
      unfold Fm_r15_Rels at h
      split at h
      · simp only [Option.bind_eq_some_iff, Option.some.injEq, Prod.mk.injEq] at h
        obtain ⟨_, _, _, _, rfl, _, _⟩ := h
        exact absurd (hob _ (List.mem_of_getElem? (i := 0) rfl)) (Nat.not_lt_zero _)
      · simp at h
    · intro args ob rs os h hob
      unfold Fm_r15_SameTerm at h
      split at h
      · simp only [Option.bind_eq_some_iff, Option.some.injEq, Prod.mk.injEq] at h
        obtain ⟨_, _, _, _, rfl, _, _⟩ := h
        exact absurd (hob _ (List.mem_of_getElem? (i := 0) rfl)) (Nat.not_lt_zero _)
      · simp at h
    · intro args ob rs os h hob
      unfold Fm_r15_Aggs at h
      split at h
      · simp only [Option.bind_eq_some_iff, Option.some.injEq, Prod.mk.injEq] at h
        obtain ⟨_, _, _, _, rfl, _, _⟩ := h
        exact absurd (hob _ (List.mem_of_getElem? (i := 0) rfl)) (Nat.not_lt_zero _)
      · simp at h
    · intro args ob rs os h hob
      unfold Fm_r15_SameRel at h
      split at h
      · simp only [Option.bind_eq_some_iff, Option.some.injEq, Prod.mk.injEq] at h
        obtain ⟨_, _, _, _, rfl, _, _⟩ := h
        exact absurd (hob _ (List.mem_of_getElem? (i := 0) rfl)) (Nat.not_lt_zero _)
      · simp at h
  | m + 1 => by
    have ih := okAll_s15G m
    exact ⟨okm_r15_Terms m ih.1 ih.2.1 ih.2.2.1 ih.2.2.2.1 ih.2.2.2.2, okm_r15_Rels m ih.1 ih.2.1 ih.2.2.1 ih.2.2.2.1 ih.2.2.2.2, okm_r15_SameTerm m ih.1 ih.2.1 ih.2.2.1 ih.2.2.2.1 ih.2.2.2.2, okm_r15_Aggs m ih.1 ih.2.1 ih.2.2.1 ih.2.2.2.1 ih.2.2.2.2, okm_r15_SameRel m ih.1 ih.2.1 ih.2.2.1 ih.2.2.2.1 ih.2.2.2.2⟩
def F_r15_SameTerm : FnC Un := fun args => match args with
  | [x0, x1] => (dS .term x0).bind fun a => (dS .term x1).bind fun b => some ([], A_r15_SameTerm (r15_SameTerm a b), O_r15_SameTerm (r15_SameTerm a b))
  | _ => none
theorem ok_r15_SameTerm : FnOK 57 F_r15_SameTerm := by
  intro args ob rs os h hob
  unfold F_r15_SameTerm at h
  split at h
  · simp only [Option.bind_eq_some_iff, Option.some.injEq, Prod.mk.injEq] at h
    obtain ⟨a, e0, b, e1, rfl, rfl, rfl⟩ := h
    refine ((okAll_s15G (2 * a.ht + 1)).2.2.1) _ [2 * a.ht < 2 * a.ht + 1] _ _ (?_ : Fm_r15_SameTerm (2 * a.ht + 1) _ = some _) ?_
    · unfold Fm_r15_SameTerm
      simp only [e0, e1, Option.bind_some]
    · intro p hp
      simp only [List.mem_cons, List.not_mem_nil, or_false] at hp
      subst hp
      exact Nat.lt_succ_self _
  · simp at h
end
end Go.Proofs.YtjmpnpkcgkhagaaGreat.B
namespace Go.Proofs.YtjmpnpkcgkhagaaGreat.B
open Go Go.RowKit
set_option maxRecDepth 100000
noncomputable section
attribute [local irreducible] awp ctxK itersK iterK retQ retGQ awf ctxF loopF
def M_r21_List : Mc Un := mach (tbl [(57, F_r15_SameTerm)]) (tbl []) (tbl []) (tbl []) (tbl [])
def A_r21_List (r : Bool) : List (A Un) := [.c (.s (.bool r))]
def O_r21_List (_r : Bool) : List (Ob Un) := []
def R_r21_List (r : Bool) : RF Un := (A_r21_List r, O_r21_List r)
def N_r21_List : Nat → NS := fun l => (look l [(2, { ts := bl 33 51, bs := bl 33 0, nm := [] })]).getD ⟨[], [], [], [], [], false⟩
def r21_List_s2 (a : List Term) (b : List Term) (v0 : Int) : S Un := (st 33 33 132 0 [(0, al .term a), (1, al .term b), (4, ab false), (5, ai v0)] [] [])
def r21_List_B2 : Code := sub (bodyOf Tryz.f21) [1, 0, 1, 2, 2]
def r21_List_L2 : S Un → Option (EX Un) := loopF (N_r21_List 2) (fun s Q => awf M_r21_List N_r21_List r21_List_B2 s Q)
def r21_List_C2 : Exit → S Un → Option (RF Un) := ctxF M_r21_List N_r21_List (bodyOf Tryz.f21) [1, 0, 1, 2] (retF M_r21_List Tryz.f21.results.toList [.d])
def r21_List_fn (a : List Term) (b : List Term) : Option (RF Un) := awf M_r21_List N_r21_List (bodyOf Tryz.f21) (entry Tryz.f21.ntmps 0 [.d (.v (.dat (U := Un) Ty.term a)), .d (.v (.dat (U := Un) Ty.term b))]) (retF M_r21_List Tryz.f21.results.toList [.d])
theorem r21_List_in (a : List Term) (b : List Term) : r21_List_fn a b =
 (r21_List_L2 (r21_List_s2 a b (0 : Int))).bind (thenX r21_List_C2) := by kernel_rfl
theorem r21_List_l2 (a : List Term) (b : List Term) (v0 : Int) : r21_List_L2 (r21_List_s2 a b v0) =
 cndO (decide (v0 < (↑a.length : Int)))
  (cndO (decide (v0 < (↑b.length : Int)))
   (obO (0 ≤ v0 ∧ v0 < (↑a.length : Int))
    (obO (0 ≤ v0 ∧ v0 < (↑b.length : Int))
     (cndO (!r15_SameTerm (Term.ids (a.getD v0.toNat zeroTerm)) (Term.ids (b.getD v0.toNat zeroTerm)))
      (some (.ret, (r21_List_s2 a b v0)))
      (r21_List_L2 (r21_List_s2 a b (IntKind.i64.wrap (v0 + 1)))))))
   (some (.exit 0, (r21_List_s2 a b v0))))
  (some (.exit 0, (r21_List_s2 a b v0))) := (loopF_eq (N_r21_List 2) r21_List_B2 _).trans (by kernel_rfl)
theorem r21_List_a2_ret (a : List Term) (b : List Term) (v0 : Int) : r21_List_C2 .ret (r21_List_s2 a b v0) =
 some (R_r21_List (false)) := by kernel_rfl
theorem r21_List_a2_x0 (a : List Term) (b : List Term) (v0 : Int) : r21_List_C2 (.exit 0) (r21_List_s2 a b v0) =
 some (R_r21_List ((↑a.length : Int) == (↑b.length : Int))) := by kernel_rfl
noncomputable def r21_List (a b : List Term) : Bool := deq a b
theorem r21_List_spec (a b : List Term) (ha : WL .term a) (_hb : WL .term b) : r21_List_fn a b = some (R_r21_List (r21_List a b)) := by
  rw [r21_List_in]
  exact loop_pre (L := r21_List_L2) (st := fun i => r21_List_s2 a b i) (fun r => some (R_r21_List r)) (d := zeroTerm) ha.len
    (fun i hi hj => by
      rw [r21_List_l2]
      simp only [cndO_eq, Int.toNat_natCast, Term.ids_eq, r15_SameTerm]
      rw [if_pos (by simp; omega), if_pos (by simp; omega), obO_pos (by omega), obO_pos (by omega)]
      cases deq (a.getD i zeroTerm) (b.getD i zeroTerm) <;> simp)
    (fun i h => by
      rw [r21_List_l2]
      simp only [cndO_eq, decide_eq_true_eq]
      by_cases h1 : (i : Int) < (a.length : Int)
      · rw [if_pos h1, if_neg (by omega)]
      · rw [if_neg h1])
    (fun i => r21_List_a2_ret _ _ _) (fun i => r21_List_a2_x0 _ _ _)
def F_r21_List : FnC Un := fun args => match args with
  | [x0, x1] => (dL .term x0).bind fun a => (dL .term x1).bind fun b => some ([], A_r21_List (r21_List a b), O_r21_List (r21_List a b))
  | _ => none
theorem ok_r21_List : FnOK 21 F_r21_List := by
  intro args ob rs os h hob
  unfold F_r21_List at h
  split at h
  · simp only [Option.bind_eq_some_iff, Option.some.injEq, Prod.mk.injEq] at h
    obtain ⟨a, e0, b, e1, rfl, rfl, rfl⟩ := h
    obtain rfl := dL_eq e0
    obtain rfl := dL_eq e1
    exact ⟨fn_contractF (M := M_r21_List) rfl (tbl_ok (l1 := [(57, F_r15_SameTerm)]) (l2 := []) (l3 := []) (l4 := []) (l5 := []) ⟨ok_r15_SameTerm, trivial⟩ trivial trivial trivial trivial) Tryz.func21 (by kernel_rfl) N_r21_List 0 [.d] (fun hwf => (r21_List_spec a b (wfArg hwf (a := .d (.v (.dat (U := Un) Ty.term a))) (List.mem_of_getElem? (i := 0) rfl)) (wfArg hwf (a := .d (.v (.dat (U := Un) Ty.term b))) (List.mem_of_getElem? (i := 1) rfl)))), hasBody_of Tryz.func21 (by kernel_rfl) (by kernel_rfl)⟩
  · simp at h
end
end Go.Proofs.YtjmpnpkcgkhagaaGreat.B
