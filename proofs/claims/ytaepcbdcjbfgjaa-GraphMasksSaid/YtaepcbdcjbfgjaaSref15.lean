/- Functions: ref15. (Printed by wip/tools/mkfn.py out of wip/src/ref15.src.) -/
import Derived.Test.YtaepcbdcjbfgjaaBAwf
import Derived.Test.YtaepcbdcjbfgjaaSspec
import Derived.Test.YtaepcbdcjbfgjaaSterms
import Derived.Test.YtaepcbdcjbfgjaaStermsz
import Derived.Test.YtaepcbdcjbfgjaaSconjspec
import Derived.Test.YtaepcbdcjbfgjaaSref03
import Derived.Test.YtaepcbdcjbfgjaaSsame
import Derived.Test.YtaepcbdcjbfgjaaSsame2
import Derived.Test.YtaepcbdcjbfgjaaSsame3
import Derived.Test.YtaepcbdcjbfgjaaSsame4
import Derived.Test.YtaepcbdcjbfgjaaSsame5
namespace Go.Proofs.Ytaepcbdcjbfgjaa.B
open Go Go.RowKit
set_option maxRecDepth 100000
noncomputable section
attribute [local irreducible] awp ctxK itersK iterK retQ retGQ awf ctxF loopF

/-- A loop through two lists, as far as both go. -/
theorem loop_pre {α β : Type} {L : S Un → Option (EX Un)} {st : Int → S Un} {C : Exit → S Un → Option β} (R : Bool → Option β) {a b : List α} {d : α} {e : Exit} (hl : a.length ≤ 9223372036854775807)
    (step : ∀ i : Nat, i < a.length → i < b.length → L (st i) = if deq (a.getD i d) (b.getD i d) = true then L (st (IntKind.i64.wrap ((i : Int) + 1))) else some (.ret, st i))
    (stop : ∀ i : Nat, ¬ (i < a.length ∧ i < b.length) → L (st i) = some (e, st i)) (cr : ∀ i : Nat, C .ret (st i) = R false) (ce : ∀ i : Nat, C e (st i) = R ((a.length : Int) == (b.length : Int))) : (L (st (0 : Int))).bind (thenX C) = R (deq a b) := by
  have key : ∀ (k i : Nat), i + k = a.length → i ≤ b.length → (L (st i)).bind (thenX C) = R (deq (a.drop i) (b.drop i)) := by
    intro k
    induction k with
    | zero =>
      intro i hi hb
      obtain rfl : i = a.length := by omega
      rw [loop_end (stop _ (by omega)), ce]
      congr 1
      refine deq_of ?_
      rw [List.drop_length, beq_iff_eq]
      constructor
      · intro h; rw [List.drop_eq_nil_of_le (by omega)]
      · intro h
        have := congrArg List.length h
        rw [List.length_drop, List.length_nil] at this; omega
    | succ k ih =>
      intro i hi hb
      have h1 : i < a.length := by omega
      by_cases h2 : i < b.length
      · have ga : a.getD i d = a[i] := by rw [List.getD_eq_getElem?_getD, List.getElem?_eq_getElem h1]; rfl
        have gb : b.getD i d = b[i] := by rw [List.getD_eq_getElem?_getD, List.getElem?_eq_getElem h2]; rfl
        have hs := step i h1 h2
        rw [ga, gb] at hs
        rw [List.drop_eq_getElem_cons h1, List.drop_eq_getElem_cons h2]
        by_cases hq : deq a[i] b[i] = true
        · rw [if_pos hq, wrap_next h1 hl] at hs
          rw [hs, ih (i + 1) (by omega) (by omega)]
          rw [deq_iff] at hq
          congr 1
          refine deq_of ?_
          rw [deq_iff, hq]
          exact ⟨fun h => by rw [h], fun h => (List.cons.inj h).2⟩
        · rw [if_neg hq] at hs
          rw [loop_end hs, cr]
          congr 1
          refine deq_of ?_
          rw [deq_iff] at hq
          exact ⟨fun h => absurd h (by decide), fun h => absurd (List.cons.inj h).1 hq⟩
      · rw [loop_end (stop _ (by omega)), ce]
        congr 1
        refine deq_of ?_
        rw [beq_iff_eq]
        constructor
        · intro h; omega
        · intro h
          have := congrArg List.length h
          rw [List.length_drop, List.length_drop] at this; omega
  exact key a.length 0 (by omega) (by omega)
theorem ne_deq {α : Type} [DecidableEq α] (x y : α) : (x != y) = !deq x y := by
  rw [Bool.eq_iff_iff, bne_iff_ne, Bool.not_eq_true', ← Bool.not_eq_true, deq_iff]
theorem ord_deq (x y : List Val) : (r03_Orders x y != 0) = !deq x y := by
  rw [Bool.eq_iff_iff, bne_iff_ne, Bool.not_eq_true', ← Bool.not_eq_true, deq_iff, r03_Orders_eq, ne_eq, ordR_zero]

/-! ### tabellionref14.Ints -/
def M_r14_Ints : Mc Un := mach (tbl []) (tbl []) (tbl []) (tbl []) (tbl [])
def A_r14_Ints (r : Bool) : List (A Un) := [.c (.s (.bool r))]
def O_r14_Ints (_r : Bool) : List (Ob Un) := []
def R_r14_Ints (r : Bool) : RF Un := (A_r14_Ints r, O_r14_Ints r)
def N_r14_Ints : Nat → NS := fun l => (look l [(2, { ts := bl 32 51, bs := bl 32 0, nm := [] })]).getD ⟨[], [], [], [], []⟩
def r14_Ints_s2 (a : List Int) (b : List Int) (v0 : Int) : S Un := (st 32 32 128 0 [(0, al .int a), (1, al .int b), (4, ab false), (5, ai v0)] [] [])
def r14_Ints_B2 : Code := sub (bodyOf Try.f16) [1, 0, 1, 2, 2]
def r14_Ints_L2 : S Un → Option (EX Un) := loopF (N_r14_Ints 2) (fun s Q => awf M_r14_Ints N_r14_Ints r14_Ints_B2 s Q)
def r14_Ints_C2 : Exit → S Un → Option (RF Un) := ctxF M_r14_Ints N_r14_Ints (bodyOf Try.f16) [1, 0, 1, 2] (retF M_r14_Ints Try.f16.results.toList [.d])
def r14_Ints_fn (a : List Int) (b : List Int) : Option (RF Un) := awf M_r14_Ints N_r14_Ints (bodyOf Try.f16) (entry Try.f16.ntmps 0 [.d (.v (.dat (U := Un) Ty.int a)), .d (.v (.dat (U := Un) Ty.int b))]) (retF M_r14_Ints Try.f16.results.toList [.d])
theorem r14_Ints_in (a : List Int) (b : List Int) : r14_Ints_fn a b =
 (r14_Ints_L2 (r14_Ints_s2 a b (0 : Int))).bind (thenX r14_Ints_C2) := by kernel_rfl
theorem r14_Ints_l2 (a : List Int) (b : List Int) (v0 : Int) : r14_Ints_L2 (r14_Ints_s2 a b v0) =
 cndO (decide (v0 < (↑a.length : Int)))
  (cndO (decide (v0 < (↑b.length : Int)))
   (obO (0 ≤ v0 ∧ v0 < (↑a.length : Int))
    (obO (0 ≤ v0 ∧ v0 < (↑b.length : Int))
     (cndO (a.getD v0.toNat (0 : Int) != b.getD v0.toNat (0 : Int))
      (some (.ret, (r14_Ints_s2 a b v0)))
      (r14_Ints_L2 (r14_Ints_s2 a b (IntKind.i64.wrap (v0 + 1)))))))
   (some (.exit 0, (r14_Ints_s2 a b v0))))
  (some (.exit 0, (r14_Ints_s2 a b v0))) := (loopF_eq (N_r14_Ints 2) r14_Ints_B2 _).trans (by kernel_rfl)
theorem r14_Ints_a2_ret (a : List Int) (b : List Int) (v0 : Int) : r14_Ints_C2 .ret (r14_Ints_s2 a b v0) =
 some (R_r14_Ints (false)) := by kernel_rfl
theorem r14_Ints_a2_x0 (a : List Int) (b : List Int) (v0 : Int) : r14_Ints_C2 (.exit 0) (r14_Ints_s2 a b v0) =
 some (R_r14_Ints ((↑a.length : Int) == (↑b.length : Int))) := by kernel_rfl

noncomputable def r14_Ints (a b : List Int) : Bool := deq a b
theorem r14_Ints_spec (a b : List Int) (ha : WL .int a) (_hb : WL .int b) : r14_Ints_fn a b = some (R_r14_Ints (r14_Ints a b)) := by
  rw [r14_Ints_in]
  exact loop_pre (L := r14_Ints_L2) (st := fun i => r14_Ints_s2 a b i) (fun r => some (R_r14_Ints r)) (d := (0 : Int)) ha.len
    (fun i hi hj => by
      rw [r14_Ints_l2, ne_deq]
      simp only [cndO_eq, Int.toNat_natCast]
      rw [if_pos (by simp; omega), if_pos (by simp; omega), obO_pos (by omega), obO_pos (by omega)]
      cases deq (a.getD i (0 : Int)) (b.getD i (0 : Int)) <;> simp)
    (fun i h => by
      rw [r14_Ints_l2]
      simp only [cndO_eq, decide_eq_true_eq]
      by_cases h1 : (i : Int) < (a.length : Int)
      · rw [if_pos h1, if_neg (by omega)]
      · rw [if_neg h1])
    (fun i => r14_Ints_a2_ret _ _ _) (fun i => r14_Ints_a2_x0 _ _ _)

def F_r14_Ints : FnC Un := fun args => match args with
  | [x0, x1] => (dL .int x0).bind fun a => (dL .int x1).bind fun b => some ([], A_r14_Ints (r14_Ints a b), O_r14_Ints (r14_Ints a b))
  | _ => none

theorem ok_r14_Ints : FnOK 16 F_r14_Ints := by
  intro args ob rs os h hob
  unfold F_r14_Ints at h
  split at h
  · simp only [Option.bind_eq_some_iff, Option.some.injEq, Prod.mk.injEq] at h
    obtain ⟨a, e0, b, e1, rfl, rfl, rfl⟩ := h
    obtain rfl := dL_eq e0
    obtain rfl := dL_eq e1
    exact ⟨fn_contractF (M := M_r14_Ints) rfl (tbl_ok (l1 := []) (l2 := []) (l3 := []) (l4 := []) (l5 := []) trivial trivial trivial trivial trivial) Try.func16 (by kernel_rfl) N_r14_Ints 0 [.d] (fun hwf => (r14_Ints_spec a b (wfArg hwf (a := .d (.v (.dat (U := Un) Ty.int a))) (List.mem_of_getElem? (i := 0) rfl)) (wfArg hwf (a := .d (.v (.dat (U := Un) Ty.int b))) (List.mem_of_getElem? (i := 1) rfl)))), hasBody_of Try.func16 (by kernel_rfl) (by kernel_rfl)⟩
  · simp at h


/-! ### tabellionref03.List -/
def M_r03_List : Mc Un := mach (tbl [(114, F_r03_Orders)]) (tbl []) (tbl []) (tbl []) (tbl [])
def A_r03_List (r : Bool) : List (A Un) := [.c (.s (.bool r))]
def O_r03_List (_r : Bool) : List (Ob Un) := []
def R_r03_List (r : Bool) : RF Un := (A_r03_List r, O_r03_List r)
def N_r03_List : Nat → NS := fun l => (look l [(2, { ts := bl 33 51, bs := bl 33 0, nm := [] })]).getD ⟨[], [], [], [], []⟩
def r03_List_s2 (a : List (List Val)) (b : List (List Val)) (v0 : Int) : S Un := (st 33 33 132 0 [(0, al .row a), (1, al .row b), (4, ab false), (5, ai v0)] [] [])
def r03_List_B2 : Code := sub (bodyOf Try.f106) [1, 0, 1, 2, 2]
def r03_List_L2 : S Un → Option (EX Un) := loopF (N_r03_List 2) (fun s Q => awf M_r03_List N_r03_List r03_List_B2 s Q)
def r03_List_C2 : Exit → S Un → Option (RF Un) := ctxF M_r03_List N_r03_List (bodyOf Try.f106) [1, 0, 1, 2] (retF M_r03_List Try.f106.results.toList [.d])
def r03_List_fn (a : List (List Val)) (b : List (List Val)) : Option (RF Un) := awf M_r03_List N_r03_List (bodyOf Try.f106) (entry Try.f106.ntmps 0 [.d (.v (.dat (U := Un) Ty.row a)), .d (.v (.dat (U := Un) Ty.row b))]) (retF M_r03_List Try.f106.results.toList [.d])
theorem r03_List_in (a : List (List Val)) (b : List (List Val)) : r03_List_fn a b =
 (r03_List_L2 (r03_List_s2 a b (0 : Int))).bind (thenX r03_List_C2) := by kernel_rfl
theorem r03_List_l2 (a : List (List Val)) (b : List (List Val)) (v0 : Int) : r03_List_L2 (r03_List_s2 a b v0) =
 cndO (decide (v0 < (↑a.length : Int)))
  (cndO (decide (v0 < (↑b.length : Int)))
   (obO (0 ≤ v0 ∧ v0 < (↑a.length : Int))
    (obO (0 ≤ v0 ∧ v0 < (↑b.length : Int))
     (cndO (r03_Orders (a.getD v0.toNat []) (b.getD v0.toNat []) != 0)
      (some (.ret, (r03_List_s2 a b v0)))
      (r03_List_L2 (r03_List_s2 a b (IntKind.i64.wrap (v0 + 1)))))))
   (some (.exit 0, (r03_List_s2 a b v0))))
  (some (.exit 0, (r03_List_s2 a b v0))) := (loopF_eq (N_r03_List 2) r03_List_B2 _).trans (by kernel_rfl)
theorem r03_List_a2_ret (a : List (List Val)) (b : List (List Val)) (v0 : Int) : r03_List_C2 .ret (r03_List_s2 a b v0) =
 some (R_r03_List (false)) := by kernel_rfl
theorem r03_List_a2_x0 (a : List (List Val)) (b : List (List Val)) (v0 : Int) : r03_List_C2 (.exit 0) (r03_List_s2 a b v0) =
 some (R_r03_List ((↑a.length : Int) == (↑b.length : Int))) := by kernel_rfl

noncomputable def r03_List (a b : List (List Val)) : Bool := deq a b
theorem r03_List_spec (a b : List (List Val)) (ha : WL .row a) (_hb : WL .row b) : r03_List_fn a b = some (R_r03_List (r03_List a b)) := by
  rw [r03_List_in]
  exact loop_pre (L := r03_List_L2) (st := fun i => r03_List_s2 a b i) (fun r => some (R_r03_List r)) (d := []) ha.len
    (fun i hi hj => by
      rw [r03_List_l2, ord_deq]
      simp only [cndO_eq, Int.toNat_natCast]
      rw [if_pos (by simp; omega), if_pos (by simp; omega), obO_pos (by omega), obO_pos (by omega)]
      cases deq (a.getD i []) (b.getD i []) <;> simp)
    (fun i h => by
      rw [r03_List_l2]
      simp only [cndO_eq, decide_eq_true_eq]
      by_cases h1 : (i : Int) < (a.length : Int)
      · rw [if_pos h1, if_neg (by omega)]
      · rw [if_neg h1])
    (fun i => r03_List_a2_ret _ _ _) (fun i => r03_List_a2_x0 _ _ _)

def F_r03_List : FnC Un := fun args => match args with
  | [x0, x1] => (dL .row x0).bind fun a => (dL .row x1).bind fun b => some ([], A_r03_List (r03_List a b), O_r03_List (r03_List a b))
  | _ => none

theorem ok_r03_List : FnOK 106 F_r03_List := by
  intro args ob rs os h hob
  unfold F_r03_List at h
  split at h
  · simp only [Option.bind_eq_some_iff, Option.some.injEq, Prod.mk.injEq] at h
    obtain ⟨a, e0, b, e1, rfl, rfl, rfl⟩ := h
    obtain rfl := dL_eq e0
    obtain rfl := dL_eq e1
    exact ⟨fn_contractF (M := M_r03_List) rfl (tbl_ok (l1 := [(114, F_r03_Orders)]) (l2 := []) (l3 := []) (l4 := []) (l5 := []) ⟨ok_r03_Orders, trivial⟩ trivial trivial trivial trivial) Try.func106 (by kernel_rfl) N_r03_List 0 [.d] (fun hwf => (r03_List_spec a b (wfArg hwf (a := .d (.v (.dat (U := Un) Ty.row a))) (List.mem_of_getElem? (i := 0) rfl)) (wfArg hwf (a := .d (.v (.dat (U := Un) Ty.row b))) (List.mem_of_getElem? (i := 1) rfl)))), hasBody_of Try.func106 (by kernel_rfl) (by kernel_rfl)⟩
  · simp at h


/-! ### tabellionref15.Cols -/
def M_r15_Cols : Mc Un := mach (tbl []) (tbl []) (tbl []) (tbl []) (tbl [])
def A_r15_Cols (r : Bool) : List (A Un) := [.c (.s (.bool r))]
def O_r15_Cols (_r : Bool) : List (Ob Un) := []
def R_r15_Cols (r : Bool) : RF Un := (A_r15_Cols r, O_r15_Cols r)
def N_r15_Cols : Nat → NS := fun l => (look l [(2, { ts := bl 32 51, bs := bl 32 0, nm := [] })]).getD ⟨[], [], [], [], []⟩
def r15_Cols_s2 (a : List Col) (b : List Col) (v0 : Int) : S Un := (st 32 32 128 0 [(0, al .col a), (1, al .col b), (4, ab false), (5, ai v0)] [] [])
def r15_Cols_B2 : Code := sub (bodyOf Try.f104) [1, 0, 1, 2, 2]
def r15_Cols_L2 : S Un → Option (EX Un) := loopF (N_r15_Cols 2) (fun s Q => awf M_r15_Cols N_r15_Cols r15_Cols_B2 s Q)
def r15_Cols_C2 : Exit → S Un → Option (RF Un) := ctxF M_r15_Cols N_r15_Cols (bodyOf Try.f104) [1, 0, 1, 2] (retF M_r15_Cols Try.f104.results.toList [.d])
def r15_Cols_fn (a : List Col) (b : List Col) : Option (RF Un) := awf M_r15_Cols N_r15_Cols (bodyOf Try.f104) (entry Try.f104.ntmps 0 [.d (.v (.dat (U := Un) Ty.col a)), .d (.v (.dat (U := Un) Ty.col b))]) (retF M_r15_Cols Try.f104.results.toList [.d])
theorem r15_Cols_in (a : List Col) (b : List Col) : r15_Cols_fn a b =
 (r15_Cols_L2 (r15_Cols_s2 a b (0 : Int))).bind (thenX r15_Cols_C2) := by kernel_rfl
theorem r15_Cols_l2 (a : List Col) (b : List Col) (v0 : Int) : r15_Cols_L2 (r15_Cols_s2 a b v0) =
 cndO (decide (v0 < (↑a.length : Int)))
  (cndO (decide (v0 < (↑b.length : Int)))
   (obO (0 ≤ v0 ∧ v0 < (↑a.length : Int))
    (obO (0 ≤ v0 ∧ v0 < (↑b.length : Int))
     (cndO (!andB [EK.str, EK.int IntKind.i64] ((a.getD v0.toNat zeroCol).table.toList == (b.getD v0.toNat zeroCol).table.toList) (andB [EK.int IntKind.i64] ((a.getD v0.toNat zeroCol).name.toList == (b.getD v0.toNat zeroCol).name.toList) (andB [] ((a.getD v0.toNat zeroCol).type == (b.getD v0.toNat zeroCol).type) true)))
      (some (.ret, (r15_Cols_s2 a b v0)))
      (r15_Cols_L2 (r15_Cols_s2 a b (IntKind.i64.wrap (v0 + 1)))))))
   (some (.exit 0, (r15_Cols_s2 a b v0))))
  (some (.exit 0, (r15_Cols_s2 a b v0))) := (loopF_eq (N_r15_Cols 2) r15_Cols_B2 _).trans (by kernel_rfl)
theorem r15_Cols_a2_ret (a : List Col) (b : List Col) (v0 : Int) : r15_Cols_C2 .ret (r15_Cols_s2 a b v0) =
 some (R_r15_Cols (false)) := by kernel_rfl
theorem r15_Cols_a2_x0 (a : List Col) (b : List Col) (v0 : Int) : r15_Cols_C2 (.exit 0) (r15_Cols_s2 a b v0) =
 some (R_r15_Cols ((↑a.length : Int) == (↑b.length : Int))) := by kernel_rfl

noncomputable def r15_Cols (a b : List Col) : Bool := deq a b
theorem r15_Cols_spec (a b : List Col) (ha : WL .col a) (_hb : WL .col b) : r15_Cols_fn a b = some (R_r15_Cols (r15_Cols a b)) := by
  rw [r15_Cols_in]
  exact loop_pre (L := r15_Cols_L2) (st := fun i => r15_Cols_s2 a b i) (fun r => some (R_r15_Cols r)) (d := zeroCol) ha.len
    (fun i hi hj => by
      rw [r15_Cols_l2, eqCol]
      simp only [cndO_eq, Int.toNat_natCast]
      rw [if_pos (by simp; omega), if_pos (by simp; omega), obO_pos (by omega), obO_pos (by omega)]
      cases deq (a.getD i zeroCol) (b.getD i zeroCol) <;> simp)
    (fun i h => by
      rw [r15_Cols_l2]
      simp only [cndO_eq, decide_eq_true_eq]
      by_cases h1 : (i : Int) < (a.length : Int)
      · rw [if_pos h1, if_neg (by omega)]
      · rw [if_neg h1])
    (fun i => r15_Cols_a2_ret _ _ _) (fun i => r15_Cols_a2_x0 _ _ _)

def F_r15_Cols : FnC Un := fun args => match args with
  | [x0, x1] => (dL .col x0).bind fun a => (dL .col x1).bind fun b => some ([], A_r15_Cols (r15_Cols a b), O_r15_Cols (r15_Cols a b))
  | _ => none

theorem ok_r15_Cols : FnOK 104 F_r15_Cols := by
  intro args ob rs os h hob
  unfold F_r15_Cols at h
  split at h
  · simp only [Option.bind_eq_some_iff, Option.some.injEq, Prod.mk.injEq] at h
    obtain ⟨a, e0, b, e1, rfl, rfl, rfl⟩ := h
    obtain rfl := dL_eq e0
    obtain rfl := dL_eq e1
    exact ⟨fn_contractF (M := M_r15_Cols) rfl (tbl_ok (l1 := []) (l2 := []) (l3 := []) (l4 := []) (l5 := []) trivial trivial trivial trivial trivial) Try.func104 (by kernel_rfl) N_r15_Cols 0 [.d] (fun hwf => (r15_Cols_spec a b (wfArg hwf (a := .d (.v (.dat (U := Un) Ty.col a))) (List.mem_of_getElem? (i := 0) rfl)) (wfArg hwf (a := .d (.v (.dat (U := Un) Ty.col b))) (List.mem_of_getElem? (i := 1) rfl)))), hasBody_of Try.func104 (by kernel_rfl) (by kernel_rfl)⟩
  · simp at h


/-! ### tabellionref15.Keys -/
def M_r15_Keys : Mc Un := mach (tbl []) (tbl []) (tbl []) (tbl []) (tbl [])
def A_r15_Keys (r : Bool) : List (A Un) := [.c (.s (.bool r))]
def O_r15_Keys (_r : Bool) : List (Ob Un) := []
def R_r15_Keys (r : Bool) : RF Un := (A_r15_Keys r, O_r15_Keys r)
def N_r15_Keys : Nat → NS := fun l => (look l [(2, { ts := bl 32 51, bs := bl 32 0, nm := [] })]).getD ⟨[], [], [], [], []⟩
def r15_Keys_s2 (a : List By) (b : List By) (v0 : Int) : S Un := (st 32 32 128 0 [(0, al .by_ a), (1, al .by_ b), (4, ab false), (5, ai v0)] [] [])
def r15_Keys_B2 : Code := sub (bodyOf Try.f105) [1, 0, 1, 2, 2]
def r15_Keys_L2 : S Un → Option (EX Un) := loopF (N_r15_Keys 2) (fun s Q => awf M_r15_Keys N_r15_Keys r15_Keys_B2 s Q)
def r15_Keys_C2 : Exit → S Un → Option (RF Un) := ctxF M_r15_Keys N_r15_Keys (bodyOf Try.f105) [1, 0, 1, 2] (retF M_r15_Keys Try.f105.results.toList [.d])
def r15_Keys_fn (a : List By) (b : List By) : Option (RF Un) := awf M_r15_Keys N_r15_Keys (bodyOf Try.f105) (entry Try.f105.ntmps 0 [.d (.v (.dat (U := Un) Ty.by_ a)), .d (.v (.dat (U := Un) Ty.by_ b))]) (retF M_r15_Keys Try.f105.results.toList [.d])
theorem r15_Keys_in (a : List By) (b : List By) : r15_Keys_fn a b =
 (r15_Keys_L2 (r15_Keys_s2 a b (0 : Int))).bind (thenX r15_Keys_C2) := by kernel_rfl
theorem r15_Keys_l2 (a : List By) (b : List By) (v0 : Int) : r15_Keys_L2 (r15_Keys_s2 a b v0) =
 cndO (decide (v0 < (↑a.length : Int)))
  (cndO (decide (v0 < (↑b.length : Int)))
   (obO (0 ≤ v0 ∧ v0 < (↑a.length : Int))
    (obO (0 ≤ v0 ∧ v0 < (↑b.length : Int))
     (cndO (!andB [EK.bool] ((a.getD v0.toNat zeroBy).at_ == (b.getD v0.toNat zeroBy).at_) (andB [] ((a.getD v0.toNat zeroBy).down == (b.getD v0.toNat zeroBy).down) true))
      (some (.ret, (r15_Keys_s2 a b v0)))
      (r15_Keys_L2 (r15_Keys_s2 a b (IntKind.i64.wrap (v0 + 1)))))))
   (some (.exit 0, (r15_Keys_s2 a b v0))))
  (some (.exit 0, (r15_Keys_s2 a b v0))) := (loopF_eq (N_r15_Keys 2) r15_Keys_B2 _).trans (by kernel_rfl)
theorem r15_Keys_a2_ret (a : List By) (b : List By) (v0 : Int) : r15_Keys_C2 .ret (r15_Keys_s2 a b v0) =
 some (R_r15_Keys (false)) := by kernel_rfl
theorem r15_Keys_a2_x0 (a : List By) (b : List By) (v0 : Int) : r15_Keys_C2 (.exit 0) (r15_Keys_s2 a b v0) =
 some (R_r15_Keys ((↑a.length : Int) == (↑b.length : Int))) := by kernel_rfl

noncomputable def r15_Keys (a b : List By) : Bool := deq a b
theorem r15_Keys_spec (a b : List By) (ha : WL .by_ a) (_hb : WL .by_ b) : r15_Keys_fn a b = some (R_r15_Keys (r15_Keys a b)) := by
  rw [r15_Keys_in]
  exact loop_pre (L := r15_Keys_L2) (st := fun i => r15_Keys_s2 a b i) (fun r => some (R_r15_Keys r)) (d := zeroBy) ha.len
    (fun i hi hj => by
      rw [r15_Keys_l2, eqBy]
      simp only [cndO_eq, Int.toNat_natCast]
      rw [if_pos (by simp; omega), if_pos (by simp; omega), obO_pos (by omega), obO_pos (by omega)]
      cases deq (a.getD i zeroBy) (b.getD i zeroBy) <;> simp)
    (fun i h => by
      rw [r15_Keys_l2]
      simp only [cndO_eq, decide_eq_true_eq]
      by_cases h1 : (i : Int) < (a.length : Int)
      · rw [if_pos h1, if_neg (by omega)]
      · rw [if_neg h1])
    (fun i => r15_Keys_a2_ret _ _ _) (fun i => r15_Keys_a2_x0 _ _ _)

def F_r15_Keys : FnC Un := fun args => match args with
  | [x0, x1] => (dL .by_ x0).bind fun a => (dL .by_ x1).bind fun b => some ([], A_r15_Keys (r15_Keys a b), O_r15_Keys (r15_Keys a b))
  | _ => none

theorem ok_r15_Keys : FnOK 105 F_r15_Keys := by
  intro args ob rs os h hob
  unfold F_r15_Keys at h
  split at h
  · simp only [Option.bind_eq_some_iff, Option.some.injEq, Prod.mk.injEq] at h
    obtain ⟨a, e0, b, e1, rfl, rfl, rfl⟩ := h
    obtain rfl := dL_eq e0
    obtain rfl := dL_eq e1
    exact ⟨fn_contractF (M := M_r15_Keys) rfl (tbl_ok (l1 := []) (l2 := []) (l3 := []) (l4 := []) (l5 := []) trivial trivial trivial trivial trivial) Try.func105 (by kernel_rfl) N_r15_Keys 0 [.d] (fun hwf => (r15_Keys_spec a b (wfArg hwf (a := .d (.v (.dat (U := Un) Ty.by_ a))) (List.mem_of_getElem? (i := 0) rfl)) (wfArg hwf (a := .d (.v (.dat (U := Un) Ty.by_ b))) (List.mem_of_getElem? (i := 1) rfl)))), hasBody_of Try.func105 (by kernel_rfl) (by kernel_rfl)⟩
  · simp at h


end
end Go.Proofs.Ytaepcbdcjbfgjaa.B
