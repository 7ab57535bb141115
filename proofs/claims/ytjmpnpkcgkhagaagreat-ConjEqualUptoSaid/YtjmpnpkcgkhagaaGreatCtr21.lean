/- Part 21 of the proof: Ssame3 Ssame4 Ssame5 Sconj5. -/
import Derived.Test.YtjmpnpkcgkhagaaGreatCtr20
namespace Go.Proofs.YtjmpnpkcgkhagaaGreat.B
open Go Go.RowKit
set_option maxRecDepth 100000
noncomputable section
attribute [local irreducible] awp ctxK itersK iterK retQ retGQ awf ctxF loopF
noncomputable def deq {α : Type} (a b : α) : Bool := @decide (a = b) (Classical.propDecidable _)
theorem deq_iff {α : Type} {a b : α} : deq a b = true ↔ a = b := by unfold deq; exact @decide_eq_true_iff _ (Classical.propDecidable _)
theorem deq_of {α : Type} {a b : α} {x : Bool} (h : x = true ↔ a = b) : x = deq a b := by
  rw [Bool.eq_iff_iff, h, deq_iff]
theorem name_deq (a b : ByteArray) : (a.toList == b.toList) = true ↔ a = b := by
  rw [beq_iff_eq]
  exact ⟨fun h => by
    have e : ∀ x : ByteArray, x.toList = x.data.toList := fun x => ByteArray.toList_eq x
    rw [e, e] at h
    obtain ⟨⟨a⟩⟩ := a
    obtain ⟨⟨b⟩⟩ := b
    simp at h
    subst h; rfl, fun h => by rw [h]⟩
theorem eqBy (x y : By) : andB [EK.bool] (x.at_ == y.at_) (andB [] (x.down == y.down) true) = deq x y := by
  refine deq_of ?_
  obtain ⟨a, b⟩ := x
  obtain ⟨a', b'⟩ := y
  show ((a == a') && (b == b')) = true ↔ _
  rw [Bool.and_eq_true, beq_iff_eq, beq_iff_eq]
  exact ⟨fun h => by rw [h.1, h.2], fun h => by cases h; exact ⟨rfl, rfl⟩⟩
theorem eqCol (x y : Col) : andB [EK.str, EK.int IntKind.i64] (x.table.toList == y.table.toList) (andB [EK.int IntKind.i64] (x.name.toList == y.name.toList) (andB [] (x.type == y.type) true)) = deq x y := by
  refine deq_of ?_
  obtain ⟨a, b, c⟩ := x
  obtain ⟨a', b', c'⟩ := y
  show ((a.toList == a'.toList) && ((b.toList == b'.toList) && (c == c'))) = true ↔ _
  rw [Bool.and_eq_true, Bool.and_eq_true, name_deq, name_deq, beq_iff_eq]
  exact ⟨fun h => by rw [h.1, h.2.1, h.2.2], fun h => by cases h; exact ⟨rfl, rfl, rfl⟩⟩
theorem eqVal (x y : Val) : andB [EK.int IntKind.i64, EK.str] (x.kind == y.kind) (andB [EK.str] (x.n == y.n) (andB [] (x.s.toList == y.s.toList) true)) = deq x y := by
  refine deq_of ?_
  obtain ⟨a, b, c⟩ := x
  obtain ⟨a', b', c'⟩ := y
  show ((a == a') && ((b == b') && (c.toList == c'.toList))) = true ↔ _
  rw [Bool.and_eq_true, Bool.and_eq_true, name_deq, beq_iff_eq, beq_iff_eq]
  exact ⟨fun h => by rw [h.1, h.2.1, h.2.2], fun h => by cases h; exact ⟨rfl, rfl, rfl⟩⟩
theorem eqfA_deq {α : Type} {a b : List α} : eqfA deq a b = deq a b := deq_of (eqfA_iff fun _ _ => deq_iff)
def M_eql_by : Mc Un := mach (tbl []) (tbl []) (tbl []) (tbl []) (tbl [])
def A_eql_by (r : Bool) : List (A Un) := [.c (.s (.bool r))]
def O_eql_by (_r : Bool) : List (Ob Un) := []
def R_eql_by (r : Bool) : RF Un := (A_eql_by r, O_eql_by r)
def N_eql_by : Nat → NS := fun l => (look l [(4, { ts := bl 26 12307, bs := bl 26 0, nm := [] })]).getD ⟨[], [], [], [], [], false⟩
def eql_by_s4 (a : List By) (b : List By) (v0 : Int) : S Un := (st 26 26 104 0 [(0, al .by_ a), (1, al .by_ b), (4, ab false), (12, ai (↑a.length : Int)), (13, ai v0)] [] [])
def eql_by_B4 : Code := sub (bodyOf Tryz.f86) [1, 1, 0, 1, 2, 2]
def eql_by_L4 : S Un → Option (EX Un) := loopF (N_eql_by 4) (fun s Q => awf M_eql_by N_eql_by eql_by_B4 s Q)
def eql_by_C4 : Exit → S Un → Option (RF Un) := ctxF M_eql_by N_eql_by (bodyOf Tryz.f86) [1, 1, 0, 1, 2] (retF M_eql_by Tryz.f86.results.toList [.d])
def eql_by_fn (a : List By) (b : List By) : Option (RF Un) := awf M_eql_by N_eql_by (bodyOf Tryz.f86) (entry Tryz.f86.ntmps 0 [.d (.v (.dat (U := Un) Ty.by_ a)), .d (.v (.dat (U := Un) Ty.by_ b))]) (retF M_eql_by Tryz.f86.results.toList [.d])
theorem eql_by_in (a : List By) (b : List By) : eql_by_fn a b =
 cndO ((↑a.length : Int) != (↑b.length : Int))
  (some (R_eql_by (false)))
  ((eql_by_L4 (eql_by_s4 a b (0 : Int))).bind (thenX eql_by_C4)) := by kernel_rfl
theorem eql_by_l4 (a : List By) (b : List By) (v0 : Int) : eql_by_L4 (eql_by_s4 a b v0) =
 cndO (decide (v0 < (↑a.length : Int)))
  (obO (0 ≤ v0 ∧ v0 < (↑a.length : Int))
   (obO (0 ≤ v0 ∧ v0 < (↑b.length : Int))
    (cndO (!andB [EK.bool] ((a.getD v0.toNat zeroBy).at_ == (b.getD v0.toNat zeroBy).at_) (andB [] ((a.getD v0.toNat zeroBy).down == (b.getD v0.toNat zeroBy).down) true))
     (some (.ret, (eql_by_s4 a b v0)))
     (eql_by_L4 (eql_by_s4 a b (IntKind.i64.wrap (v0 + 1)))))))
  (some (.exit 0, (eql_by_s4 a b v0))) := (loopF_eq (N_eql_by 4) eql_by_B4 _).trans (by kernel_rfl)
theorem eql_by_a4_ret (a : List By) (b : List By) (v0 : Int) : eql_by_C4 .ret (eql_by_s4 a b v0) =
 some (R_eql_by (false)) := by kernel_rfl
theorem eql_by_a4_x0 (a : List By) (b : List By) (v0 : Int) : eql_by_C4 (.exit 0) (eql_by_s4 a b v0) =
 some (R_eql_by (true)) := by kernel_rfl
noncomputable def eql_by (a b : List By) : Bool := deq a b
theorem eql_by_spec (a b : List By) (ha : WL .by_ a) (_hb : WL .by_ b) : eql_by_fn a b = some (R_eql_by (eql_by a b)) := by
  rw [eql_by_in, cndO_eq]
  unfold eql_by
  rw [← eqfA_deq]
  by_cases hl : a.length = b.length
  · rw [if_neg (by simp [hl])]
    exact loop_all2 (L := eql_by_L4) (st := fun i => eql_by_s4 a b i) (fun r => some (R_eql_by r)) (d := zeroBy) deq hl ha.len
      (fun i hi => by
        rw [eql_by_l4, eqBy]
        simp only [cndO_eq, Int.toNat_natCast]
        rw [if_pos (by simp; omega), obO_pos (by omega), obO_pos (by omega)]
        cases deq (a.getD i zeroBy) (b.getD i zeroBy) <;> simp)
      (by rw [eql_by_l4]; simp [cndO_eq]) (fun i => eql_by_a4_ret _ _ _) (eql_by_a4_x0 _ _ _)
  · rw [if_pos (by simp; omega), eqfA_len hl]
def F_eql_by : FnC Un := fun args => match args with
  | [x0, x1] => (dL .by_ x0).bind fun a => (dL .by_ x1).bind fun b => some ([], A_eql_by (eql_by a b), O_eql_by (eql_by a b))
  | _ => none
theorem ok_eql_by : FnOK 86 F_eql_by := by
  intro args ob rs os h hob
  unfold F_eql_by at h
  split at h
  · simp only [Option.bind_eq_some_iff, Option.some.injEq, Prod.mk.injEq] at h
    obtain ⟨a, e0, b, e1, rfl, rfl, rfl⟩ := h
    obtain rfl := dL_eq e0
    obtain rfl := dL_eq e1
    exact ⟨fn_contractF (M := M_eql_by) rfl (tbl_ok (l1 := []) (l2 := []) (l3 := []) (l4 := []) (l5 := []) trivial trivial trivial trivial trivial) Tryz.func86 (by kernel_rfl) N_eql_by 0 [.d] (fun hwf => (eql_by_spec a b (wfArg hwf (a := .d (.v (.dat (U := Un) Ty.by_ a))) (List.mem_of_getElem? (i := 0) rfl)) (wfArg hwf (a := .d (.v (.dat (U := Un) Ty.by_ b))) (List.mem_of_getElem? (i := 1) rfl)))), hasBody_of Tryz.func86 (by kernel_rfl) (by kernel_rfl)⟩
  · simp at h
def M_eql_col : Mc Un := mach (tbl []) (tbl []) (tbl []) (tbl []) (tbl [])
def A_eql_col (r : Bool) : List (A Un) := [.c (.s (.bool r))]
def O_eql_col (_r : Bool) : List (Ob Un) := []
def R_eql_col (r : Bool) : RF Un := (A_eql_col r, O_eql_col r)
def N_eql_col : Nat → NS := fun l => (look l [(4, { ts := bl 26 12307, bs := bl 26 0, nm := [] })]).getD ⟨[], [], [], [], [], false⟩
def eql_col_s4 (a : List Col) (b : List Col) (v0 : Int) : S Un := (st 26 26 104 0 [(0, al .col a), (1, al .col b), (4, ab false), (12, ai (↑a.length : Int)), (13, ai v0)] [] [])
def eql_col_B4 : Code := sub (bodyOf Tryz.f85) [1, 1, 0, 1, 2, 2]
def eql_col_L4 : S Un → Option (EX Un) := loopF (N_eql_col 4) (fun s Q => awf M_eql_col N_eql_col eql_col_B4 s Q)
def eql_col_C4 : Exit → S Un → Option (RF Un) := ctxF M_eql_col N_eql_col (bodyOf Tryz.f85) [1, 1, 0, 1, 2] (retF M_eql_col Tryz.f85.results.toList [.d])
def eql_col_fn (a : List Col) (b : List Col) : Option (RF Un) := awf M_eql_col N_eql_col (bodyOf Tryz.f85) (entry Tryz.f85.ntmps 0 [.d (.v (.dat (U := Un) Ty.col a)), .d (.v (.dat (U := Un) Ty.col b))]) (retF M_eql_col Tryz.f85.results.toList [.d])
theorem eql_col_in (a : List Col) (b : List Col) : eql_col_fn a b =
 cndO ((↑a.length : Int) != (↑b.length : Int))
  (some (R_eql_col (false)))
  ((eql_col_L4 (eql_col_s4 a b (0 : Int))).bind (thenX eql_col_C4)) := by kernel_rfl
theorem eql_col_l4 (a : List Col) (b : List Col) (v0 : Int) : eql_col_L4 (eql_col_s4 a b v0) =
 cndO (decide (v0 < (↑a.length : Int)))
  (obO (0 ≤ v0 ∧ v0 < (↑a.length : Int))
   (obO (0 ≤ v0 ∧ v0 < (↑b.length : Int))
    (cndO (!andB [EK.str, EK.int IntKind.i64] ((a.getD v0.toNat zeroCol).table.toList == (b.getD v0.toNat zeroCol).table.toList) (andB [EK.int IntKind.i64] ((a.getD v0.toNat zeroCol).name.toList == (b.getD v0.toNat zeroCol).name.toList) (andB [] ((a.getD v0.toNat zeroCol).type == (b.getD v0.toNat zeroCol).type) true)))
     (some (.ret, (eql_col_s4 a b v0)))
     (eql_col_L4 (eql_col_s4 a b (IntKind.i64.wrap (v0 + 1)))))))
  (some (.exit 0, (eql_col_s4 a b v0))) := (loopF_eq (N_eql_col 4) eql_col_B4 _).trans (by kernel_rfl)
theorem eql_col_a4_ret (a : List Col) (b : List Col) (v0 : Int) : eql_col_C4 .ret (eql_col_s4 a b v0) =
 some (R_eql_col (false)) := by kernel_rfl
theorem eql_col_a4_x0 (a : List Col) (b : List Col) (v0 : Int) : eql_col_C4 (.exit 0) (eql_col_s4 a b v0) =
 some (R_eql_col (true)) := by kernel_rfl
noncomputable def eql_col (a b : List Col) : Bool := deq a b
theorem eql_col_spec (a b : List Col) (ha : WL .col a) (_hb : WL .col b) : eql_col_fn a b = some (R_eql_col (eql_col a b)) := by
  rw [eql_col_in, cndO_eq]
  unfold eql_col
  rw [← eqfA_deq]
  by_cases hl : a.length = b.length
  · rw [if_neg (by simp [hl])]
    exact loop_all2 (L := eql_col_L4) (st := fun i => eql_col_s4 a b i) (fun r => some (R_eql_col r)) (d := zeroCol) deq hl ha.len
      (fun i hi => by
        rw [eql_col_l4, eqCol]
        simp only [cndO_eq, Int.toNat_natCast]
        rw [if_pos (by simp; omega), obO_pos (by omega), obO_pos (by omega)]
        cases deq (a.getD i zeroCol) (b.getD i zeroCol) <;> simp)
      (by rw [eql_col_l4]; simp [cndO_eq]) (fun i => eql_col_a4_ret _ _ _) (eql_col_a4_x0 _ _ _)
  · rw [if_pos (by simp; omega), eqfA_len hl]
def F_eql_col : FnC Un := fun args => match args with
  | [x0, x1] => (dL .col x0).bind fun a => (dL .col x1).bind fun b => some ([], A_eql_col (eql_col a b), O_eql_col (eql_col a b))
  | _ => none
theorem ok_eql_col : FnOK 85 F_eql_col := by
  intro args ob rs os h hob
  unfold F_eql_col at h
  split at h
  · simp only [Option.bind_eq_some_iff, Option.some.injEq, Prod.mk.injEq] at h
    obtain ⟨a, e0, b, e1, rfl, rfl, rfl⟩ := h
    obtain rfl := dL_eq e0
    obtain rfl := dL_eq e1
    exact ⟨fn_contractF (M := M_eql_col) rfl (tbl_ok (l1 := []) (l2 := []) (l3 := []) (l4 := []) (l5 := []) trivial trivial trivial trivial trivial) Tryz.func85 (by kernel_rfl) N_eql_col 0 [.d] (fun hwf => (eql_col_spec a b (wfArg hwf (a := .d (.v (.dat (U := Un) Ty.col a))) (List.mem_of_getElem? (i := 0) rfl)) (wfArg hwf (a := .d (.v (.dat (U := Un) Ty.col b))) (List.mem_of_getElem? (i := 1) rfl)))), hasBody_of Tryz.func85 (by kernel_rfl) (by kernel_rfl)⟩
  · simp at h
def M_eql_val : Mc Un := mach (tbl []) (tbl []) (tbl []) (tbl []) (tbl [])
def A_eql_val (r : Bool) : List (A Un) := [.c (.s (.bool r))]
def O_eql_val (_r : Bool) : List (Ob Un) := []
def R_eql_val (r : Bool) : RF Un := (A_eql_val r, O_eql_val r)
def N_eql_val : Nat → NS := fun l => (look l [(4, { ts := bl 26 12307, bs := bl 26 0, nm := [] })]).getD ⟨[], [], [], [], [], false⟩
def eql_val_s4 (a : List Val) (b : List Val) (v0 : Int) : S Un := (st 26 26 104 0 [(0, al .val a), (1, al .val b), (4, ab false), (12, ai (↑a.length : Int)), (13, ai v0)] [] [])
def eql_val_B4 : Code := sub (bodyOf Tryz.f113) [1, 1, 0, 1, 2, 2]
def eql_val_L4 : S Un → Option (EX Un) := loopF (N_eql_val 4) (fun s Q => awf M_eql_val N_eql_val eql_val_B4 s Q)
def eql_val_C4 : Exit → S Un → Option (RF Un) := ctxF M_eql_val N_eql_val (bodyOf Tryz.f113) [1, 1, 0, 1, 2] (retF M_eql_val Tryz.f113.results.toList [.d])
def eql_val_fn (a : List Val) (b : List Val) : Option (RF Un) := awf M_eql_val N_eql_val (bodyOf Tryz.f113) (entry Tryz.f113.ntmps 0 [.d (.v (.dat (U := Un) Ty.val a)), .d (.v (.dat (U := Un) Ty.val b))]) (retF M_eql_val Tryz.f113.results.toList [.d])
theorem eql_val_in (a : List Val) (b : List Val) : eql_val_fn a b =
 cndO ((↑a.length : Int) != (↑b.length : Int))
  (some (R_eql_val (false)))
  ((eql_val_L4 (eql_val_s4 a b (0 : Int))).bind (thenX eql_val_C4)) := by kernel_rfl
theorem eql_val_l4 (a : List Val) (b : List Val) (v0 : Int) : eql_val_L4 (eql_val_s4 a b v0) =
 cndO (decide (v0 < (↑a.length : Int)))
  (obO (0 ≤ v0 ∧ v0 < (↑a.length : Int))
   (obO (0 ≤ v0 ∧ v0 < (↑b.length : Int))
    (cndO (!andB [EK.int IntKind.i64, EK.str] ((a.getD v0.toNat zeroVal).kind == (b.getD v0.toNat zeroVal).kind) (andB [EK.str] ((a.getD v0.toNat zeroVal).n == (b.getD v0.toNat zeroVal).n) (andB [] ((a.getD v0.toNat zeroVal).s.toList == (b.getD v0.toNat zeroVal).s.toList) true)))
     (some (.ret, (eql_val_s4 a b v0)))
     (eql_val_L4 (eql_val_s4 a b (IntKind.i64.wrap (v0 + 1)))))))
  (some (.exit 0, (eql_val_s4 a b v0))) := (loopF_eq (N_eql_val 4) eql_val_B4 _).trans (by kernel_rfl)
theorem eql_val_a4_ret (a : List Val) (b : List Val) (v0 : Int) : eql_val_C4 .ret (eql_val_s4 a b v0) =
 some (R_eql_val (false)) := by kernel_rfl
theorem eql_val_a4_x0 (a : List Val) (b : List Val) (v0 : Int) : eql_val_C4 (.exit 0) (eql_val_s4 a b v0) =
 some (R_eql_val (true)) := by kernel_rfl
noncomputable def eql_val (a b : List Val) : Bool := deq a b
theorem eql_val_spec (a b : List Val) (ha : WL .val a) (_hb : WL .val b) : eql_val_fn a b = some (R_eql_val (eql_val a b)) := by
  rw [eql_val_in, cndO_eq]
  unfold eql_val
  rw [← eqfA_deq]
  by_cases hl : a.length = b.length
  · rw [if_neg (by simp [hl])]
    exact loop_all2 (L := eql_val_L4) (st := fun i => eql_val_s4 a b i) (fun r => some (R_eql_val r)) (d := zeroVal) deq hl ha.len
      (fun i hi => by
        rw [eql_val_l4, eqVal]
        simp only [cndO_eq, Int.toNat_natCast]
        rw [if_pos (by simp; omega), obO_pos (by omega), obO_pos (by omega)]
        cases deq (a.getD i zeroVal) (b.getD i zeroVal) <;> simp)
      (by rw [eql_val_l4]; simp [cndO_eq]) (fun i => eql_val_a4_ret _ _ _) (eql_val_a4_x0 _ _ _)
  · rw [if_pos (by simp; omega), eqfA_len hl]
def F_eql_val : FnC Un := fun args => match args with
  | [x0, x1] => (dL .val x0).bind fun a => (dL .val x1).bind fun b => some ([], A_eql_val (eql_val a b), O_eql_val (eql_val a b))
  | _ => none
theorem ok_eql_val : FnOK 113 F_eql_val := by
  intro args ob rs os h hob
  unfold F_eql_val at h
  split at h
  · simp only [Option.bind_eq_some_iff, Option.some.injEq, Prod.mk.injEq] at h
    obtain ⟨a, e0, b, e1, rfl, rfl, rfl⟩ := h
    obtain rfl := dL_eq e0
    obtain rfl := dL_eq e1
    exact ⟨fn_contractF (M := M_eql_val) rfl (tbl_ok (l1 := []) (l2 := []) (l3 := []) (l4 := []) (l5 := []) trivial trivial trivial trivial trivial) Tryz.func113 (by kernel_rfl) N_eql_val 0 [.d] (fun hwf => (eql_val_spec a b (wfArg hwf (a := .d (.v (.dat (U := Un) Ty.val a))) (List.mem_of_getElem? (i := 0) rfl)) (wfArg hwf (a := .d (.v (.dat (U := Un) Ty.val b))) (List.mem_of_getElem? (i := 1) rfl)))), hasBody_of Tryz.func113 (by kernel_rfl) (by kernel_rfl)⟩
  · simp at h
end
end Go.Proofs.YtjmpnpkcgkhagaaGreat.B
namespace Go.Proofs.YtjmpnpkcgkhagaaGreat.B
open Go Go.RowKit
set_option maxRecDepth 100000
noncomputable section
attribute [local irreducible] awp ctxK itersK iterK retQ retGQ awf ctxF loopF
def M_algebra_sameRow : Mc Un := mach (tbl [(113, F_eql_val)]) (tbl []) (tbl []) (tbl []) (tbl [])
def A_algebra_sameRow (r : Bool) : List (A Un) := [.c (.s (.bool r))]
def O_algebra_sameRow (_r : Bool) : List (Ob Un) := []
def R_algebra_sameRow (r : Bool) : RF Un := (A_algebra_sameRow r, O_algebra_sameRow r)
def N_algebra_sameRow : Nat → NS := fun l => (look l []).getD ⟨[], [], [], [], [], false⟩
def algebra_sameRow_fn (a : List Val) (b : List Val) : Option (RF Un) := awf M_algebra_sameRow N_algebra_sameRow (bodyOf Tryz.f88) (entry Tryz.f88.ntmps 0 [.d (.v (.dat (U := Un) Ty.val a)), .d (.v (.dat (U := Un) Ty.val b))]) (retF M_algebra_sameRow Tryz.f88.results.toList [.d])
theorem algebra_sameRow_in (a : List Val) (b : List Val) : algebra_sameRow_fn a b =
 some (R_algebra_sameRow (eql_val a b)) := by kernel_rfl
def algebra_sameRow (a : List Val) (b : List Val) : Bool :=
  (eql_val a b)
theorem algebra_sameRow_eq (a : List Val) (b : List Val) : algebra_sameRow_fn a b = some (R_algebra_sameRow (algebra_sameRow a b)) := by rw [algebra_sameRow_in]; unfold algebra_sameRow; simp only [cndO_eq]; repeat (first | rfl | split)
def F_algebra_sameRow : FnC Un := fun args => match args with
  | [x0, x1] => (dL .val x0).bind fun a => (dL .val x1).bind fun b => some ([], A_algebra_sameRow (algebra_sameRow a b), O_algebra_sameRow (algebra_sameRow a b))
  | _ => none
theorem ok_algebra_sameRow : FnOK 88 F_algebra_sameRow := by
  intro args ob rs os h hob
  unfold F_algebra_sameRow at h
  split at h
  · simp only [Option.bind_eq_some_iff, Option.some.injEq, Prod.mk.injEq] at h
    obtain ⟨a, e0, b, e1, rfl, rfl, rfl⟩ := h
    obtain rfl := dL_eq e0
    obtain rfl := dL_eq e1
    exact ⟨fn_contractF (M := M_algebra_sameRow) rfl (tbl_ok (l1 := [(113, F_eql_val)]) (l2 := []) (l3 := []) (l4 := []) (l5 := []) ⟨ok_eql_val, trivial⟩ trivial trivial trivial trivial) Tryz.func88 (by kernel_rfl) N_algebra_sameRow 0 [.d] (fun hwf => (algebra_sameRow_eq a b)), hasBody_of Tryz.func88 (by kernel_rfl) (by kernel_rfl)⟩
  · simp at h
def V_algebra_sameRow : FV Un := fvo_L_val_L_val_to_b (fun a b => True) (fun a b => algebra_sameRow a b)
theorem okV_algebra_sameRow : FvOK 88 V_algebra_sameRow := by
  refine ⟨hasBody_of Tryz.func88 (by kernel_rfl) (by kernel_rfl), fun args ob rs h hob => ?_⟩
  unfold V_algebra_sameRow fvo_L_val_L_val_to_b at h
  split at h
  · simp only [Option.bind_eq_some_iff, Option.some.injEq, Prod.mk.injEq] at h
    obtain ⟨a, e0, b, e1, rfl, rfl⟩ := h
    simp only [List.map_cons, List.map_nil]
    rw [dL_eq e0]
    rw [dL_eq e1]
    refine Contract.data (ok_algebra_sameRow _ ([]) _ _ (?_ : F_algebra_sameRow _ = some _) (by simp)).1
    unfold F_algebra_sameRow
    simp only [dL_mk]
    rfl
  · simp at h
def M_eqf_row : Mc Un := mach (tbl []) (tbl []) (tbl []) (tbl []) (tbl [])
def A_eqf_row (r : Bool) : List (A Un) := [.c (.s (.bool r))]
def O_eqf_row (_r : Bool) : List (Ob Un) := []
def R_eqf_row (r : Bool) : RF Un := (A_eqf_row r, O_eqf_row r)
def N_eqf_row : Nat → NS := fun l => (look l [(4, { ts := bl 32 229446, bs := bl 32 0, nm := [] })]).getD ⟨[], [], [], [], [], false⟩
def eqf_row_s4 (a : List (List Val)) (b : List (List Val)) (eq_o : (List Val) → (List Val) → Prop) (eq : (List Val) → (List Val) → Bool) (v0 : Int) : S Un := (st 32 32 128 0 [(1, al .row b), (2, AV.one (A.c (C.fv (fvo_L_val_L_val_to_b eq_o eq)))), (6, ab false), (15, al .row a), (16, ai (↑a.length : Int)), (17, ai v0)] [] [])
def eqf_row_B4 : Code := sub (bodyOf Tryz.f87) [1, 1, 0, 1, 2, 2]
def eqf_row_L4 : S Un → Option (EX Un) := loopF (N_eqf_row 4) (fun s Q => awf M_eqf_row N_eqf_row eqf_row_B4 s Q)
def eqf_row_C4 : Exit → S Un → Option (RF Un) := ctxF M_eqf_row N_eqf_row (bodyOf Tryz.f87) [1, 1, 0, 1, 2] (retF M_eqf_row Tryz.f87.results.toList [.d])
def eqf_row_fn (a : List (List Val)) (b : List (List Val)) (eq_o : (List Val) → (List Val) → Prop) (eq : (List Val) → (List Val) → Bool) : Option (RF Un) := awf M_eqf_row N_eqf_row (bodyOf Tryz.f87) (entry Tryz.f87.ntmps 0 [.d (.v (.dat (U := Un) Ty.row a)), .d (.v (.dat (U := Un) Ty.row b)), .fn (fvo_L_val_L_val_to_b eq_o eq)]) (retF M_eqf_row Tryz.f87.results.toList [.d])
theorem eqf_row_in (a : List (List Val)) (b : List (List Val)) (eq_o : (List Val) → (List Val) → Prop) (eq : (List Val) → (List Val) → Bool) : eqf_row_fn a b eq_o eq =
 cndO ((↑a.length : Int) != (↑b.length : Int))
  (some (R_eqf_row (false)))
  ((eqf_row_L4 (eqf_row_s4 a b eq_o eq (0 : Int))).bind (thenX eqf_row_C4)) := by kernel_rfl
theorem eqf_row_l4 (a : List (List Val)) (b : List (List Val)) (eq_o : (List Val) → (List Val) → Prop) (eq : (List Val) → (List Val) → Bool) (v0 : Int) : eqf_row_L4 (eqf_row_s4 a b eq_o eq v0) =
 cndO (decide (v0 < (↑a.length : Int)))
  (obO (0 ≤ v0 ∧ v0 < (↑a.length : Int))
   (obO (0 ≤ v0 ∧ v0 < (↑b.length : Int))
    (obO (eq_o (a.getD v0.toNat []) (b.getD v0.toNat []))
     (cndO (!eq (a.getD v0.toNat []) (b.getD v0.toNat []))
      (some (.ret, (eqf_row_s4 a b eq_o eq v0)))
      (eqf_row_L4 (eqf_row_s4 a b eq_o eq (IntKind.i64.wrap (v0 + 1))))))))
  (some (.exit 0, (eqf_row_s4 a b eq_o eq v0))) := (loopF_eq (N_eqf_row 4) eqf_row_B4 _).trans (by kernel_rfl)
theorem eqf_row_a4_ret (a : List (List Val)) (b : List (List Val)) (eq_o : (List Val) → (List Val) → Prop) (eq : (List Val) → (List Val) → Bool) (v0 : Int) : eqf_row_C4 .ret (eqf_row_s4 a b eq_o eq v0) =
 some (R_eqf_row (false)) := by kernel_rfl
theorem eqf_row_a4_x0 (a : List (List Val)) (b : List (List Val)) (eq_o : (List Val) → (List Val) → Prop) (eq : (List Val) → (List Val) → Bool) (v0 : Int) : eqf_row_C4 (.exit 0) (eqf_row_s4 a b eq_o eq v0) =
 some (R_eqf_row (true)) := by kernel_rfl
def eqfO_row (o : List Val → List Val → Prop) (a b : List (List Val)) : Prop := eqfO [] o a b
def eqf_row (a b : List (List Val)) (_o : List Val → List Val → Prop) (q : List Val → List Val → Bool) : Bool := eqfA q a b
theorem eqf_row_spec (a b : List (List Val)) (o : List Val → List Val → Prop) (q : List Val → List Val → Bool) (ha : WL .row a) (_hb : WL .row b) (h : eqfO_row o a b) : eqf_row_fn a b o q = some (R_eqf_row (eqf_row a b o q)) := by
  rw [eqf_row_in, cndO_eq]
  unfold eqf_row
  by_cases hl : a.length = b.length
  · rw [if_neg (by simp [hl])]
    exact loop_all2 (L := eqf_row_L4) (st := fun i => eqf_row_s4 a b o q i) (fun r => some (R_eqf_row r)) (d := []) q hl ha.len
      (fun i hi => by
        rw [eqf_row_l4]
        simp only [cndO_eq, Int.toNat_natCast]
        rw [if_pos (by simp; omega), obO_pos (by omega), obO_pos (by omega), obO_pos (h hl i hi)]
        cases q (a.getD i []) (b.getD i []) <;> simp)
      (by rw [eqf_row_l4]; simp [cndO_eq]) (fun i => eqf_row_a4_ret _ _ _ _ _) (eqf_row_a4_x0 _ _ _ _ _)
  · rw [if_pos (by simp; omega), eqfA_len hl]
def F_eqf_row : FnC Un := fun args => match args with
  | [x0, x1, x2] => (dL .row x0).bind fun a => (dL .row x1).bind fun b => (dF x2).bind fun eq => some ([eq = (fvo_L_val_L_val_to_b (po_L_val_L_val_to_b eq) (pf_L_val_L_val_to_b eq)), eqfO_row (po_L_val_L_val_to_b eq) a b], A_eqf_row (eqf_row a b (po_L_val_L_val_to_b eq) (pf_L_val_L_val_to_b eq)), O_eqf_row (eqf_row a b (po_L_val_L_val_to_b eq) (pf_L_val_L_val_to_b eq)))
  | _ => none
theorem ok_eqf_row : FnOK 87 F_eqf_row := by
  intro args ob rs os h hob
  unfold F_eqf_row at h
  split at h
  · simp only [Option.bind_eq_some_iff, Option.some.injEq, Prod.mk.injEq] at h
    obtain ⟨a, e0, b, e1, eq, e2, rfl, rfl, rfl⟩ := h
    obtain rfl := dL_eq e0
    obtain rfl := dL_eq e1
    obtain rfl := dF_eq e2
    have hfv0 := hob _ (List.mem_of_getElem? (i := 0) rfl)
    generalize pf_L_val_L_val_to_b eq = pp0 at *
    generalize po_L_val_L_val_to_b eq = qq0 at *
    subst hfv0
    exact ⟨fn_contractF (M := M_eqf_row) rfl (tbl_ok (l1 := []) (l2 := []) (l3 := []) (l4 := []) (l5 := []) trivial trivial trivial trivial trivial) Tryz.func87 (by kernel_rfl) N_eqf_row 0 [.d] (fun hwf => (eqf_row_spec a b qq0 pp0 (wfArg hwf (a := .d (.v (.dat (U := Un) Ty.row a))) (List.mem_of_getElem? (i := 0) rfl)) (wfArg hwf (a := .d (.v (.dat (U := Un) Ty.row b))) (List.mem_of_getElem? (i := 1) rfl)) (hob _ (List.mem_of_getElem? (i := 1) rfl)))), hasBody_of Tryz.func87 (by kernel_rfl) (by kernel_rfl)⟩
  · simp at h
end
end Go.Proofs.YtjmpnpkcgkhagaaGreat.B
namespace Go.Proofs.YtjmpnpkcgkhagaaGreat.B
open Go Go.RowKit
set_option maxRecDepth 100000
noncomputable section
attribute [local irreducible] awp ctxK itersK iterK retQ retGQ awf ctxF loopF
noncomputable def algebra_SameTerm (a b : Term) : Bool := deq a b
noncomputable def algebra_sameAgg (a b : Agg) : Bool := deq a b
noncomputable def algebra_SameRel (a b : Rel) : Bool := deq a b
theorem name_eq (a b : ByteArray) : a.toList = b.toList ↔ a = b := by rw [← name_deq, beq_iff_eq]
theorem term_deq (a b : Term) : deq a b = true ↔ (a.op = b.op ∧ a.v = b.v ∧ a.depth = b.depth ∧ a.at_ = b.at_ ∧ a.name = b.name ∧ a.type = b.type ∧ a.kids = b.kids ∧ a.sub = b.sub) := by
  rw [deq_iff]
  constructor
  · rintro rfl; exact ⟨rfl, rfl, rfl, rfl, rfl, rfl, rfl, rfl⟩
  · rintro ⟨h1, h2, h3, h4, h5, h6, h7, h8⟩
    rw [← term_eta a, ← term_eta b, h1, h2, h3, h4, h5, h6, h7, h8]
theorem agg_deq (a b : Agg) : deq a b = true ↔ (a.name = b.name ∧ a.distinct = b.distinct ∧ a.t = b.t) := by
  rw [deq_iff]
  constructor
  · rintro rfl; exact ⟨rfl, rfl, rfl⟩
  · rintro ⟨h1, h2, h3⟩
    rw [← agg_eta a, ← agg_eta b, h1, h2, h3]
theorem rel_deq (a b : Rel) : deq a b = true ↔ (a.op = b.op ∧ a.table = b.table ∧ a.limit = b.limit ∧ a.skip = b.skip ∧ a.all = b.all ∧ a.cols = b.cols ∧ a.keys = b.keys ∧ a.rows = b.rows ∧ a.terms = b.terms ∧ a.aggs = b.aggs ∧ a.kids = b.kids) := by
  rw [deq_iff]
  constructor
  · rintro rfl; exact ⟨rfl, rfl, rfl, rfl, rfl, rfl, rfl, rfl, rfl, rfl, rfl⟩
  · rintro ⟨h1, h2, h3, h4, h5, h6, h7, h8, h9, h10, h11⟩
    rw [← rel_eta a, ← rel_eta b, h1, h2, h3, h4, h5, h6, h7, h8, h9, h10, h11]
theorem cndO_and {β : Type} (R : Bool → β) {q x : Bool} : cndO q (some (R x)) (some (R false)) = some (R (q && x)) := by cases q <;> rfl
theorem Agg.ht_t {a : Agg} {k : Term} (h : k ∈ a.t) : k.ht < a.ht := by
  cases a; simp only [Agg.t_mk] at h; simp only [Agg.ht]; have := htTs_mem h; omega
def A_algebra_SameTerm (r : Bool) : List (A Un) := [.c (.s (.bool r))]
def O_algebra_SameTerm (_r : Bool) : List (Ob Un) := []
def Fm_algebra_SameTerm (m : Nat) : FnC Un := fun args => match args with
  | [x0, x1] => (dS .term x0).bind fun a => (dS .term x1).bind fun b => some ([4 * a.ht + 1 < m], A_algebra_SameTerm (algebra_SameTerm a b), O_algebra_SameTerm (algebra_SameTerm a b))
  | _ => none
def A_algebra_sameAgg (r : Bool) : List (A Un) := [.c (.s (.bool r))]
def O_algebra_sameAgg (_r : Bool) : List (Ob Un) := []
def Fm_algebra_sameAgg (m : Nat) : FnC Un := fun args => match args with
  | [x0, x1] => (dS .agg x0).bind fun a => (dS .agg x1).bind fun b => some ([4 * a.ht + 2 < m], A_algebra_sameAgg (algebra_sameAgg a b), O_algebra_sameAgg (algebra_sameAgg a b))
  | _ => none
def A_algebra_SameRel (r : Bool) : List (A Un) := [.c (.s (.bool r))]
def O_algebra_SameRel (_r : Bool) : List (Ob Un) := []
def Fm_algebra_SameRel (m : Nat) : FnC Un := fun args => match args with
  | [x0, x1] => (dS .rel x0).bind fun a => (dS .rel x1).bind fun b => some ([4 * a.ht + 3 < m], A_algebra_SameRel (algebra_SameRel a b), O_algebra_SameRel (algebra_SameRel a b))
  | _ => none
def Vm_algebra_SameTerm (m : Nat) : FV Un := fvo_S_term_S_term_to_b (fun a b => (4 * a.ht + 1 < m)) (fun a b => algebra_SameTerm a b)
theorem okVm_algebra_SameTerm (m : Nat) (h_algebra_SameTerm : FnOK 18 (Fm_algebra_SameTerm m)) : FvOK 18 (Vm_algebra_SameTerm m) := by
  refine ⟨hasBody_of Tryz.func18 (by kernel_rfl) (by kernel_rfl), fun args ob rs h hob => ?_⟩
  unfold Vm_algebra_SameTerm fvo_S_term_S_term_to_b at h
  split at h
  · simp only [Option.bind_eq_some_iff, Option.some.injEq, Prod.mk.injEq] at h
    obtain ⟨a, e0, b, e1, rfl, rfl⟩ := h
    simp only [List.map_cons, List.map_nil]
    rw [dS_eq e0]
    rw [dS_eq e1]
    refine Contract.data (h_algebra_SameTerm _ [4 * a.ht + 1 < m] _ _ (?_ : Fm_algebra_SameTerm m _ = some _) (fun p hp => by rw [List.mem_singleton.1 hp]; simpa using hob _ List.mem_cons_self)).1
    unfold Fm_algebra_SameTerm
    simp only [dSk_mk]
    rfl
  · simp at h
def Vm_algebra_sameAgg (m : Nat) : FV Un := fvo_S_agg_S_agg_to_b (fun a b => (4 * a.ht + 2 < m)) (fun a b => algebra_sameAgg a b)
theorem okVm_algebra_sameAgg (m : Nat) (h_algebra_sameAgg : FnOK 90 (Fm_algebra_sameAgg m)) : FvOK 90 (Vm_algebra_sameAgg m) := by
  refine ⟨hasBody_of Tryz.func90 (by kernel_rfl) (by kernel_rfl), fun args ob rs h hob => ?_⟩
  unfold Vm_algebra_sameAgg fvo_S_agg_S_agg_to_b at h
  split at h
  · simp only [Option.bind_eq_some_iff, Option.some.injEq, Prod.mk.injEq] at h
    obtain ⟨a, e0, b, e1, rfl, rfl⟩ := h
    simp only [List.map_cons, List.map_nil]
    rw [dS_eq e0]
    rw [dS_eq e1]
    refine Contract.data (h_algebra_sameAgg _ [4 * a.ht + 2 < m] _ _ (?_ : Fm_algebra_sameAgg m _ = some _) (fun p hp => by rw [List.mem_singleton.1 hp]; simpa using hob _ List.mem_cons_self)).1
    unfold Fm_algebra_sameAgg
    simp only [dSk_mk]
    rfl
  · simp at h
def Vm_algebra_SameRel (m : Nat) : FV Un := fvo_S_rel_S_rel_to_b (fun a b => (4 * a.ht + 3 < m)) (fun a b => algebra_SameRel a b)
theorem okVm_algebra_SameRel (m : Nat) (h_algebra_SameRel : FnOK 55 (Fm_algebra_SameRel m)) : FvOK 55 (Vm_algebra_SameRel m) := by
  refine ⟨hasBody_of Tryz.func55 (by kernel_rfl) (by kernel_rfl), fun args ob rs h hob => ?_⟩
  unfold Vm_algebra_SameRel fvo_S_rel_S_rel_to_b at h
  split at h
  · simp only [Option.bind_eq_some_iff, Option.some.injEq, Prod.mk.injEq] at h
    obtain ⟨a, e0, b, e1, rfl, rfl⟩ := h
    simp only [List.map_cons, List.map_nil]
    rw [dS_eq e0]
    rw [dS_eq e1]
    refine Contract.data (h_algebra_SameRel _ [4 * a.ht + 3 < m] _ _ (?_ : Fm_algebra_SameRel m _ = some _) (fun p hp => by rw [List.mem_singleton.1 hp]; simpa using hob _ List.mem_cons_self)).1
    unfold Fm_algebra_SameRel
    simp only [dSk_mk]
    rfl
  · simp at h
theorem vmo_SameTerm (m : Nat) : po_S_term_S_term_to_b (Vm_algebra_SameTerm m) = fun a _ => 4 * a.ht + 1 < m := by unfold Vm_algebra_SameTerm; exact pofvo_S_term_S_term_to_b _ _
theorem vmf_SameTerm (m : Nat) : pf_S_term_S_term_to_b (Vm_algebra_SameTerm m) = deq := by unfold Vm_algebra_SameTerm; rw [pffvo_S_term_S_term_to_b]; unfold algebra_SameTerm; rfl
theorem vmv_SameTerm (m : Nat) : Vm_algebra_SameTerm m = fvo_S_term_S_term_to_b (po_S_term_S_term_to_b (Vm_algebra_SameTerm m)) (pf_S_term_S_term_to_b (Vm_algebra_SameTerm m)) := by unfold Vm_algebra_SameTerm; rw [pofvo_S_term_S_term_to_b, pffvo_S_term_S_term_to_b]
theorem vmo_sameAgg (m : Nat) : po_S_agg_S_agg_to_b (Vm_algebra_sameAgg m) = fun a _ => 4 * a.ht + 2 < m := by unfold Vm_algebra_sameAgg; exact pofvo_S_agg_S_agg_to_b _ _
theorem vmf_sameAgg (m : Nat) : pf_S_agg_S_agg_to_b (Vm_algebra_sameAgg m) = deq := by unfold Vm_algebra_sameAgg; rw [pffvo_S_agg_S_agg_to_b]; unfold algebra_sameAgg; rfl
theorem vmv_sameAgg (m : Nat) : Vm_algebra_sameAgg m = fvo_S_agg_S_agg_to_b (po_S_agg_S_agg_to_b (Vm_algebra_sameAgg m)) (pf_S_agg_S_agg_to_b (Vm_algebra_sameAgg m)) := by unfold Vm_algebra_sameAgg; rw [pofvo_S_agg_S_agg_to_b, pffvo_S_agg_S_agg_to_b]
theorem vmo_SameRel (m : Nat) : po_S_rel_S_rel_to_b (Vm_algebra_SameRel m) = fun a _ => 4 * a.ht + 3 < m := by unfold Vm_algebra_SameRel; exact pofvo_S_rel_S_rel_to_b _ _
theorem vmf_SameRel (m : Nat) : pf_S_rel_S_rel_to_b (Vm_algebra_SameRel m) = deq := by unfold Vm_algebra_SameRel; rw [pffvo_S_rel_S_rel_to_b]; unfold algebra_SameRel; rfl
theorem vmv_SameRel (m : Nat) : Vm_algebra_SameRel m = fvo_S_rel_S_rel_to_b (po_S_rel_S_rel_to_b (Vm_algebra_SameRel m)) (pf_S_rel_S_rel_to_b (Vm_algebra_SameRel m)) := by unfold Vm_algebra_SameRel; rw [pofvo_S_rel_S_rel_to_b, pffvo_S_rel_S_rel_to_b]
theorem vo_sameRow : po_L_val_L_val_to_b V_algebra_sameRow = fun _ _ => True := by unfold V_algebra_sameRow; exact pofvo_L_val_L_val_to_b _ _
theorem vf_sameRow : pf_L_val_L_val_to_b V_algebra_sameRow = deq := by unfold V_algebra_sameRow; rw [pffvo_L_val_L_val_to_b]; unfold algebra_sameRow eql_val; rfl
theorem vv_sameRow : V_algebra_sameRow = fvo_L_val_L_val_to_b (po_L_val_L_val_to_b V_algebra_sameRow) (pf_L_val_L_val_to_b V_algebra_sameRow) := by unfold V_algebra_sameRow; rw [pofvo_L_val_L_val_to_b, pffvo_L_val_L_val_to_b]
def M_algebra_SameTerm (m : Nat) : Mc Un := mach (tbl [(53, F_eqf_term), (54, F_eqf_rel)]) (tbl [(18, Vm_algebra_SameTerm m), (55, Vm_algebra_SameRel m)]) (tbl []) (tbl []) (tbl [])
def R_algebra_SameTerm (r : Bool) : RF Un := (A_algebra_SameTerm r, O_algebra_SameTerm r)
def N_algebra_SameTerm : Nat → NS := fun l => (look l []).getD ⟨[], [], [], [], [], false⟩
def algebra_SameTerm_fn (m : Nat) (a : Term) (b : Term) : Option (RF Un) := awf (M_algebra_SameTerm m) N_algebra_SameTerm (bodyOf Tryz.f18) (entry Tryz.f18.ntmps 0 [.d (.agg (enc Ty.term a)), .d (.agg (enc Ty.term b))]) (retF (M_algebra_SameTerm m) Tryz.f18.results.toList [.d])
theorem algebra_SameTerm_in (m : Nat) (a : Term) (b : Term) : algebra_SameTerm_fn m a b =
 cndO (a.op == b.op)
  (cndO (andB [EK.int IntKind.i64, EK.str] (a.v.kind == b.v.kind) (andB [EK.str] (a.v.n == b.v.n) (andB [] (a.v.s.toList == b.v.s.toList) true)))
   (cndO (a.depth == b.depth)
    (cndO (a.at_ == b.at_)
     (cndO (a.name.toList == b.name.toList)
      (cndO (a.type == b.type)
       (obO (Vm_algebra_SameTerm m = fvo_S_term_S_term_to_b (po_S_term_S_term_to_b (Vm_algebra_SameTerm m)) (pf_S_term_S_term_to_b (Vm_algebra_SameTerm m)))
        (obO (eqfO_term (po_S_term_S_term_to_b (Vm_algebra_SameTerm m)) a.kids b.kids)
         (cndO (eqf_term a.kids b.kids (po_S_term_S_term_to_b (Vm_algebra_SameTerm m)) (pf_S_term_S_term_to_b (Vm_algebra_SameTerm m)))
          (obO (Vm_algebra_SameRel m = fvo_S_rel_S_rel_to_b (po_S_rel_S_rel_to_b (Vm_algebra_SameRel m)) (pf_S_rel_S_rel_to_b (Vm_algebra_SameRel m)))
           (obO (eqfO_rel (po_S_rel_S_rel_to_b (Vm_algebra_SameRel m)) a.sub b.sub)
            (some (R_algebra_SameTerm (eqf_rel a.sub b.sub (po_S_rel_S_rel_to_b (Vm_algebra_SameRel m)) (pf_S_rel_S_rel_to_b (Vm_algebra_SameRel m)))))))
          (some (R_algebra_SameTerm (false))))))
       (some (R_algebra_SameTerm (false))))
      (some (R_algebra_SameTerm (false))))
     (some (R_algebra_SameTerm (false))))
    (some (R_algebra_SameTerm (false))))
   (some (R_algebra_SameTerm (false))))
  (some (R_algebra_SameTerm (false))) := by kernel_rfl
theorem algebra_SameTerm_spec (m : Nat) (a b : Term) (_ha : WS .term a) (_hb : WS .term b) (h : 4 * a.ht + 1 < m + 1) : algebra_SameTerm_fn m a b = some (R_algebra_SameTerm (algebra_SameTerm a b)) := by
  have o1 : eqfO_term (po_S_term_S_term_to_b (Vm_algebra_SameTerm m)) a.kids b.kids := by
    rw [vmo_SameTerm]
    intro _ i hi
    have := Term.ht_kid (getD_mem (d := zeroTerm) hi)
    show 4 * _ + 1 < m
    omega
  have o2 : eqfO_rel (po_S_rel_S_rel_to_b (Vm_algebra_SameRel m)) a.sub b.sub := by
    rw [vmo_SameRel]
    intro _ i hi
    have := Term.ht_sub (getD_mem (d := zeroRel) hi)
    show 4 * _ + 3 < m
    omega
  rw [algebra_SameTerm_in, eqVal, obO_pos (vmv_SameTerm m), obO_pos o1, obO_pos (vmv_SameRel m), obO_pos o2]
  simp only [cndO_and R_algebra_SameTerm, vmf_SameTerm, vmf_SameRel]
  congr 2
  unfold algebra_SameTerm eqf_term eqf_rel
  rw [eqfA_deq, eqfA_deq, Bool.eq_iff_iff, term_deq]
  simp only [Bool.and_eq_true, beq_iff_eq, name_eq, deq_iff]
theorem okm_algebra_SameTerm (m : Nat) (h_algebra_SameTerm : FnOK 18 (Fm_algebra_SameTerm m)) (h_algebra_sameAgg : FnOK 90 (Fm_algebra_sameAgg m)) (h_algebra_SameRel : FnOK 55 (Fm_algebra_SameRel m)) : FnOK 18 (Fm_algebra_SameTerm (m + 1)) := by
  intro args ob rs os h hob
  unfold Fm_algebra_SameTerm at h
  split at h
  · simp only [Option.bind_eq_some_iff, Option.some.injEq, Prod.mk.injEq] at h
    obtain ⟨a, e0, b, e1, rfl, rfl, rfl⟩ := h
    obtain rfl := dS_eq e0
    obtain rfl := dS_eq e1
    exact ⟨fn_contractF (M := (M_algebra_SameTerm m)) rfl (tbl_ok (l1 := [(53, F_eqf_term), (54, F_eqf_rel)]) (l2 := [(18, Vm_algebra_SameTerm m), (55, Vm_algebra_SameRel m)]) (l3 := []) (l4 := []) (l5 := []) ⟨ok_eqf_term, ok_eqf_rel, trivial⟩ ⟨(okVm_algebra_SameTerm m h_algebra_SameTerm), (okVm_algebra_SameRel m h_algebra_SameRel), trivial⟩ trivial trivial trivial) Tryz.func18 (by kernel_rfl) N_algebra_SameTerm 0 [.d] (fun hwf => (algebra_SameTerm_spec m a b (wfArg hwf (a := .d (.agg (enc Ty.term a))) (List.mem_of_getElem? (i := 0) rfl)) (wfArg hwf (a := .d (.agg (enc Ty.term b))) (List.mem_of_getElem? (i := 1) rfl)) (hob _ (List.mem_of_getElem? (i := 0) rfl)))), hasBody_of Tryz.func18 (by kernel_rfl) (by kernel_rfl)⟩
  · simp at h
def M_algebra_sameAgg (m : Nat) : Mc Un := mach (tbl [(53, F_eqf_term)]) (tbl [(18, Vm_algebra_SameTerm m)]) (tbl []) (tbl []) (tbl [])
def R_algebra_sameAgg (r : Bool) : RF Un := (A_algebra_sameAgg r, O_algebra_sameAgg r)
def N_algebra_sameAgg : Nat → NS := fun l => (look l []).getD ⟨[], [], [], [], [], false⟩
def algebra_sameAgg_fn (m : Nat) (a : Agg) (b : Agg) : Option (RF Un) := awf (M_algebra_sameAgg m) N_algebra_sameAgg (bodyOf Tryz.f90) (entry Tryz.f90.ntmps 0 [.d (.agg (enc Ty.agg a)), .d (.agg (enc Ty.agg b))]) (retF (M_algebra_sameAgg m) Tryz.f90.results.toList [.d])
theorem algebra_sameAgg_in (m : Nat) (a : Agg) (b : Agg) : algebra_sameAgg_fn m a b =
 cndO (a.name.toList == b.name.toList)
  (cndO (a.distinct == b.distinct)
   (obO (Vm_algebra_SameTerm m = fvo_S_term_S_term_to_b (po_S_term_S_term_to_b (Vm_algebra_SameTerm m)) (pf_S_term_S_term_to_b (Vm_algebra_SameTerm m)))
    (obO (eqfO_term (po_S_term_S_term_to_b (Vm_algebra_SameTerm m)) a.t b.t)
     (some (R_algebra_sameAgg (eqf_term a.t b.t (po_S_term_S_term_to_b (Vm_algebra_SameTerm m)) (pf_S_term_S_term_to_b (Vm_algebra_SameTerm m)))))))
   (some (R_algebra_sameAgg (false))))
  (some (R_algebra_sameAgg (false))) := by kernel_rfl
theorem algebra_sameAgg_spec (m : Nat) (a b : Agg) (_ha : WS .agg a) (_hb : WS .agg b) (h : 4 * a.ht + 2 < m + 1) : algebra_sameAgg_fn m a b = some (R_algebra_sameAgg (algebra_sameAgg a b)) := by
  have o1 : eqfO_term (po_S_term_S_term_to_b (Vm_algebra_SameTerm m)) a.t b.t := by
    rw [vmo_SameTerm]
    intro _ i hi
    have := Agg.ht_t (getD_mem (d := zeroTerm) hi)
    show 4 * _ + 1 < m
    omega
  rw [algebra_sameAgg_in, obO_pos (vmv_SameTerm m), obO_pos o1]
  simp only [cndO_and R_algebra_sameAgg, vmf_SameTerm]
  congr 2
  unfold algebra_sameAgg eqf_term
  rw [eqfA_deq, Bool.eq_iff_iff, agg_deq]
  simp only [Bool.and_eq_true, beq_iff_eq, name_eq, deq_iff]
theorem okm_algebra_sameAgg (m : Nat) (h_algebra_SameTerm : FnOK 18 (Fm_algebra_SameTerm m)) (h_algebra_sameAgg : FnOK 90 (Fm_algebra_sameAgg m)) (h_algebra_SameRel : FnOK 55 (Fm_algebra_SameRel m)) : FnOK 90 (Fm_algebra_sameAgg (m + 1)) := by
  intro args ob rs os h hob
  unfold Fm_algebra_sameAgg at h
  split at h
  · simp only [Option.bind_eq_some_iff, Option.some.injEq, Prod.mk.injEq] at h
    obtain ⟨a, e0, b, e1, rfl, rfl, rfl⟩ := h
    obtain rfl := dS_eq e0
    obtain rfl := dS_eq e1
    exact ⟨fn_contractF (M := (M_algebra_sameAgg m)) rfl (tbl_ok (l1 := [(53, F_eqf_term)]) (l2 := [(18, Vm_algebra_SameTerm m)]) (l3 := []) (l4 := []) (l5 := []) ⟨ok_eqf_term, trivial⟩ ⟨(okVm_algebra_SameTerm m h_algebra_SameTerm), trivial⟩ trivial trivial trivial) Tryz.func90 (by kernel_rfl) N_algebra_sameAgg 0 [.d] (fun hwf => (algebra_sameAgg_spec m a b (wfArg hwf (a := .d (.agg (enc Ty.agg a))) (List.mem_of_getElem? (i := 0) rfl)) (wfArg hwf (a := .d (.agg (enc Ty.agg b))) (List.mem_of_getElem? (i := 1) rfl)) (hob _ (List.mem_of_getElem? (i := 0) rfl)))), hasBody_of Tryz.func90 (by kernel_rfl) (by kernel_rfl)⟩
  · simp at h
def M_algebra_SameRel (m : Nat) : Mc Un := mach (tbl [(85, F_eql_col), (86, F_eql_by), (87, F_eqf_row), (53, F_eqf_term), (89, F_eqf_agg), (54, F_eqf_rel)]) (tbl [(88, V_algebra_sameRow), (18, Vm_algebra_SameTerm m), (90, Vm_algebra_sameAgg m), (55, Vm_algebra_SameRel m)]) (tbl []) (tbl []) (tbl [])
def R_algebra_SameRel (r : Bool) : RF Un := (A_algebra_SameRel r, O_algebra_SameRel r)
def N_algebra_SameRel : Nat → NS := fun l => (look l []).getD ⟨[], [], [], [], [], false⟩
def algebra_SameRel_fn (m : Nat) (a : Rel) (b : Rel) : Option (RF Un) := awf (M_algebra_SameRel m) N_algebra_SameRel (bodyOf Tryz.f55) (entry Tryz.f55.ntmps 0 [.d (.agg (enc Ty.rel a)), .d (.agg (enc Ty.rel b))]) (retF (M_algebra_SameRel m) Tryz.f55.results.toList [.d])
theorem algebra_SameRel_in (m : Nat) (a : Rel) (b : Rel) : algebra_SameRel_fn m a b =
 cndO (a.op == b.op)
  (cndO (a.table.toList == b.table.toList)
   (cndO (a.limit == b.limit)
    (cndO (a.skip == b.skip)
     (cndO (a.all == b.all)
      (cndO (eql_col a.cols b.cols)
       (cndO (eql_by a.keys b.keys)
        (obO (V_algebra_sameRow = fvo_L_val_L_val_to_b (po_L_val_L_val_to_b V_algebra_sameRow) (pf_L_val_L_val_to_b V_algebra_sameRow))
         (obO (eqfO_row (po_L_val_L_val_to_b V_algebra_sameRow) a.rows b.rows)
          (cndO (eqf_row a.rows b.rows (po_L_val_L_val_to_b V_algebra_sameRow) (pf_L_val_L_val_to_b V_algebra_sameRow))
           (obO (Vm_algebra_SameTerm m = fvo_S_term_S_term_to_b (po_S_term_S_term_to_b (Vm_algebra_SameTerm m)) (pf_S_term_S_term_to_b (Vm_algebra_SameTerm m)))
            (obO (eqfO_term (po_S_term_S_term_to_b (Vm_algebra_SameTerm m)) a.terms b.terms)
             (cndO (eqf_term a.terms b.terms (po_S_term_S_term_to_b (Vm_algebra_SameTerm m)) (pf_S_term_S_term_to_b (Vm_algebra_SameTerm m)))
              (obO (Vm_algebra_sameAgg m = fvo_S_agg_S_agg_to_b (po_S_agg_S_agg_to_b (Vm_algebra_sameAgg m)) (pf_S_agg_S_agg_to_b (Vm_algebra_sameAgg m)))
               (obO (eqfO_agg (po_S_agg_S_agg_to_b (Vm_algebra_sameAgg m)) a.aggs b.aggs)
                (cndO (eqf_agg a.aggs b.aggs (po_S_agg_S_agg_to_b (Vm_algebra_sameAgg m)) (pf_S_agg_S_agg_to_b (Vm_algebra_sameAgg m)))
                 (obO (Vm_algebra_SameRel m = fvo_S_rel_S_rel_to_b (po_S_rel_S_rel_to_b (Vm_algebra_SameRel m)) (pf_S_rel_S_rel_to_b (Vm_algebra_SameRel m)))
                  (obO (eqfO_rel (po_S_rel_S_rel_to_b (Vm_algebra_SameRel m)) a.kids b.kids)
                   (some (R_algebra_SameRel (eqf_rel a.kids b.kids (po_S_rel_S_rel_to_b (Vm_algebra_SameRel m)) (pf_S_rel_S_rel_to_b (Vm_algebra_SameRel m)))))))
                 (some (R_algebra_SameRel (false))))))
              (some (R_algebra_SameRel (false))))))
           (some (R_algebra_SameRel (false))))))
        (some (R_algebra_SameRel (false))))
       (some (R_algebra_SameRel (false))))
      (some (R_algebra_SameRel (false))))
     (some (R_algebra_SameRel (false))))
    (some (R_algebra_SameRel (false))))
   (some (R_algebra_SameRel (false))))
  (some (R_algebra_SameRel (false))) := by kernel_rfl
theorem algebra_SameRel_spec (m : Nat) (a b : Rel) (_ha : WS .rel a) (_hb : WS .rel b) (h : 4 * a.ht + 3 < m + 1) : algebra_SameRel_fn m a b = some (R_algebra_SameRel (algebra_SameRel a b)) := by
  have o0 : eqfO_row (po_L_val_L_val_to_b V_algebra_sameRow) a.rows b.rows := by
    rw [vo_sameRow]
    intro _ i hi
    trivial
  have o1 : eqfO_term (po_S_term_S_term_to_b (Vm_algebra_SameTerm m)) a.terms b.terms := by
    rw [vmo_SameTerm]
    intro _ i hi
    have := Rel.ht_term (getD_mem (d := zeroTerm) hi)
    show 4 * _ + 1 < m
    omega
  have o2 : eqfO_agg (po_S_agg_S_agg_to_b (Vm_algebra_sameAgg m)) a.aggs b.aggs := by
    rw [vmo_sameAgg]
    intro _ i hi
    have := Rel.ht_agg (getD_mem (d := zeroAgg) hi)
    show 4 * _ + 2 < m
    omega
  have o3 : eqfO_rel (po_S_rel_S_rel_to_b (Vm_algebra_SameRel m)) a.kids b.kids := by
    rw [vmo_SameRel]
    intro _ i hi
    have := Rel.ht_kid (getD_mem (d := zeroRel) hi)
    show 4 * _ + 3 < m
    omega
  rw [algebra_SameRel_in, obO_pos vv_sameRow, obO_pos o0, obO_pos (vmv_SameTerm m), obO_pos o1, obO_pos (vmv_sameAgg m), obO_pos o2, obO_pos (vmv_SameRel m), obO_pos o3]
  simp only [cndO_and R_algebra_SameRel, vmf_SameTerm, vmf_SameRel, vmf_sameAgg, vf_sameRow]
  congr 2
  unfold algebra_SameRel eqf_term eqf_rel eqf_agg eqf_row eql_col eql_by
  rw [eqfA_deq, eqfA_deq, eqfA_deq, eqfA_deq, Bool.eq_iff_iff, rel_deq]
  simp only [Bool.and_eq_true, beq_iff_eq, name_eq, deq_iff]
theorem okm_algebra_SameRel (m : Nat) (h_algebra_SameTerm : FnOK 18 (Fm_algebra_SameTerm m)) (h_algebra_sameAgg : FnOK 90 (Fm_algebra_sameAgg m)) (h_algebra_SameRel : FnOK 55 (Fm_algebra_SameRel m)) : FnOK 55 (Fm_algebra_SameRel (m + 1)) := by
  intro args ob rs os h hob
  unfold Fm_algebra_SameRel at h
  split at h
  · simp only [Option.bind_eq_some_iff, Option.some.injEq, Prod.mk.injEq] at h
    obtain ⟨a, e0, b, e1, rfl, rfl, rfl⟩ := h
    obtain rfl := dS_eq e0
    obtain rfl := dS_eq e1
    exact ⟨fn_contractF (M := (M_algebra_SameRel m)) rfl (tbl_ok (l1 := [(85, F_eql_col), (86, F_eql_by), (87, F_eqf_row), (53, F_eqf_term), (89, F_eqf_agg), (54, F_eqf_rel)]) (l2 := [(88, V_algebra_sameRow), (18, Vm_algebra_SameTerm m), (90, Vm_algebra_sameAgg m), (55, Vm_algebra_SameRel m)]) (l3 := []) (l4 := []) (l5 := []) ⟨ok_eql_col, ok_eql_by, ok_eqf_row, ok_eqf_term, ok_eqf_agg, ok_eqf_rel, trivial⟩ ⟨okV_algebra_sameRow, (okVm_algebra_SameTerm m h_algebra_SameTerm), (okVm_algebra_sameAgg m h_algebra_sameAgg), (okVm_algebra_SameRel m h_algebra_SameRel), trivial⟩ trivial trivial trivial) Tryz.func55 (by kernel_rfl) N_algebra_SameRel 0 [.d] (fun hwf => (algebra_SameRel_spec m a b (wfArg hwf (a := .d (.agg (enc Ty.rel a))) (List.mem_of_getElem? (i := 0) rfl)) (wfArg hwf (a := .d (.agg (enc Ty.rel b))) (List.mem_of_getElem? (i := 1) rfl)) (hob _ (List.mem_of_getElem? (i := 0) rfl)))), hasBody_of Tryz.func55 (by kernel_rfl) (by kernel_rfl)⟩
  · simp at h
theorem okAll_sameG : ∀ m, FnOK 18 (Fm_algebra_SameTerm m) ∧ FnOK 90 (Fm_algebra_sameAgg m) ∧ FnOK 55 (Fm_algebra_SameRel m)
  | 0 => by
    refine ⟨?_, ?_, ?_⟩
    · intro args ob rs os h hob
      unfold Fm_algebra_SameTerm at h
      split at h
      · simp only [Option.bind_eq_some_iff, Option.some.injEq, Prod.mk.injEq] at h
        obtain ⟨_, _, _, _, rfl, _, _⟩ := h
        exact absurd (hob _ (List.mem_of_getElem? (i := 0) rfl)) (Nat.not_lt_zero _)
      · simp at h
    · intro args ob rs os h hob
      unfold Fm_algebra_sameAgg at h
      split at h
      · simp only [Option.bind_eq_some_iff, Option.some.injEq, Prod.mk.injEq] at h
        obtain ⟨_, _, _, _, rfl, _, _⟩ := h
        exact absurd (hob _ (List.mem_of_getElem? (i := 0) rfl)) (Nat.not_lt_zero _)
      · simp at h
    · intro args ob rs os h hob
      unfold Fm_algebra_SameRel at h
      split at h
      · simp only [Option.bind_eq_some_iff, Option.some.injEq, Prod.mk.injEq] at h
        obtain ⟨_, _, _, _, rfl, _, _⟩ := h
        exact absurd (hob _ (List.mem_of_getElem? (i := 0) rfl)) (Nat.not_lt_zero _)
      · simp at h
  | m + 1 => by
    have ih := okAll_sameG m
    exact ⟨okm_algebra_SameTerm m ih.1 ih.2.1 ih.2.2, okm_algebra_sameAgg m ih.1 ih.2.1 ih.2.2, okm_algebra_SameRel m ih.1 ih.2.1 ih.2.2⟩
def F_algebra_SameTerm : FnC Un := fun args => match args with
  | [x0, x1] => (dS .term x0).bind fun a => (dS .term x1).bind fun b => some ([], A_algebra_SameTerm (algebra_SameTerm a b), O_algebra_SameTerm (algebra_SameTerm a b))
  | _ => none
theorem ok_algebra_SameTerm : FnOK 18 F_algebra_SameTerm := by
  intro args ob rs os h hob
  unfold F_algebra_SameTerm at h
  split at h
  · simp only [Option.bind_eq_some_iff, Option.some.injEq, Prod.mk.injEq] at h
    obtain ⟨a, e0, b, e1, rfl, rfl, rfl⟩ := h
    refine ((okAll_sameG (4 * a.ht + 1 + 1)).1) _ [4 * a.ht + 1 < 4 * a.ht + 1 + 1] _ _ (?_ : Fm_algebra_SameTerm (4 * a.ht + 1 + 1) _ = some _) ?_
    · unfold Fm_algebra_SameTerm
      simp only [e0, e1, Option.bind_some]
    · intro p hp
      simp only [List.mem_cons, List.not_mem_nil, or_false] at hp
      subst hp
      exact Nat.lt_succ_self _
  · simp at h
end
end Go.Proofs.YtjmpnpkcgkhagaaGreat.B
namespace Go.Proofs.YtjmpnpkcgkhagaaGreat.B
open Go Go.RowKit
set_option maxRecDepth 100000
noncomputable section
attribute [local irreducible] awp ctxK itersK iterK retQ retGQ awf ctxF loopF
def M_idxf_term : Mc Un := mach (tbl []) (tbl []) (tbl []) (tbl []) (tbl [])
def A_idxf_term (r : Int) : List (A Un) := [.c (.s (.int .i64 r))]
def O_idxf_term (_r : Int) : List (Ob Un) := []
def R_idxf_term (r : Int) : RF Un := (A_idxf_term r, O_idxf_term r)
def N_idxf_term : Nat → NS := fun l => (look l [(2, { ts := bl 19 403, bs := bl 19 0, nm := [] })]).getD ⟨[], [], [], [], [], false⟩
def idxf_term_s2 (s : List Term) (f_o : Term → Prop) (f : Term → Bool) (v0 : Int) : S Un := (st 19 19 76 0 [(0, al .term s), (1, AV.one (A.c (C.fv (fvo_S_term_to_b f_o f)))), (4, ai (0 : Int)), (7, ai (↑s.length : Int)), (8, ai v0)] [] [])
def idxf_term_e2_ret (s : List Term) (f_o : Term → Prop) (f : Term → Bool) (v0 : Int) (v1 : Int) : S Un := (st 19 19 76 0 [(0, al .term s), (1, AV.one (A.c (C.fv (fvo_S_term_to_b f_o f)))), (4, ai v1), (7, ai (↑s.length : Int)), (8, ai v0)] [] [])
def idxf_term_B2 : Code := sub (bodyOf Tryz.f93) [1, 0, 1, 2, 2]
def idxf_term_L2 : S Un → Option (EX Un) := loopF (N_idxf_term 2) (fun s Q => awf M_idxf_term N_idxf_term idxf_term_B2 s Q)
def idxf_term_C2 : Exit → S Un → Option (RF Un) := ctxF M_idxf_term N_idxf_term (bodyOf Tryz.f93) [1, 0, 1, 2] (retF M_idxf_term Tryz.f93.results.toList [.d])
def idxf_term_fn (s : List Term) (f_o : Term → Prop) (f : Term → Bool) : Option (RF Un) := awf M_idxf_term N_idxf_term (bodyOf Tryz.f93) (entry Tryz.f93.ntmps 0 [.d (.v (.dat (U := Un) Ty.term s)), .fn (fvo_S_term_to_b f_o f)]) (retF M_idxf_term Tryz.f93.results.toList [.d])
theorem idxf_term_in (s : List Term) (f_o : Term → Prop) (f : Term → Bool) : idxf_term_fn s f_o f =
 (idxf_term_L2 (idxf_term_s2 s f_o f (0 : Int))).bind (thenX idxf_term_C2) := by kernel_rfl
theorem idxf_term_l2 (s : List Term) (f_o : Term → Prop) (f : Term → Bool) (v0 : Int) : idxf_term_L2 (idxf_term_s2 s f_o f v0) =
 cndO (decide (v0 < (↑s.length : Int)))
  (obO (0 ≤ v0 ∧ v0 < (↑s.length : Int))
   (obO (f_o (Term.ids (s.getD v0.toNat zeroTerm)))
    (cndO (f (Term.ids (s.getD v0.toNat zeroTerm)))
     (some (.ret, (idxf_term_e2_ret s f_o f v0 v0)))
     (idxf_term_L2 (idxf_term_s2 s f_o f (IntKind.i64.wrap (v0 + 1)))))))
  (some (.exit 0, (idxf_term_s2 s f_o f v0))) := (loopF_eq (N_idxf_term 2) idxf_term_B2 _).trans (by kernel_rfl)
theorem idxf_term_a2_ret (s : List Term) (f_o : Term → Prop) (f : Term → Bool) (v0 : Int) (v1 : Int) : idxf_term_C2 .ret (idxf_term_e2_ret s f_o f v0 v1) =
 some (R_idxf_term (v1)) := by kernel_rfl
theorem idxf_term_a2_x0 (s : List Term) (f_o : Term → Prop) (f : Term → Bool) (v0 : Int) : idxf_term_C2 (.exit 0) (idxf_term_s2 s f_o f v0) =
 some (R_idxf_term ((-1 : Int))) := by kernel_rfl
def allO_term (o : Term → Prop) (s : List Term) : Prop := ∀ x ∈ s, o x
def idxf_term (s : List Term) (_o : Term → Prop) (f : Term → Bool) : Int := match s.findIdx? f with | some i => (i : Int) | none => -1
theorem idxf_term_nonneg (s : List Term) (o : Term → Prop) (f : Term → Bool) : 0 ≤ idxf_term s o f ↔ s.any f = true := by
  unfold idxf_term
  cases h : s.findIdx? f with
  | none =>
    have := List.findIdx?_eq_none_iff.1 h
    simp only [List.any_eq_true]
    constructor
    · intro h1; exact absurd h1 (by decide)
    · rintro ⟨x, hx, hf⟩; rw [this x hx] at hf; simp at hf
  | some i =>
    obtain ⟨h1, h2, _⟩ := List.findIdx?_eq_some_iff_getElem.1 h
    simp only [List.any_eq_true]
    exact ⟨fun _ => ⟨s[i], List.getElem_mem h1, h2⟩, fun _ => by omega⟩
theorem idxf_term_spec (s : List Term) (o : Term → Prop) (f : Term → Bool) (hs : WL .term s) (ho : allO_term o s) : idxf_term_fn s o f = some (R_idxf_term (idxf_term s o f)) := by
  have key : ∀ (r : List Term) (i : Nat), s.drop i = r → i ≤ s.length → (idxf_term_L2 (idxf_term_s2 s o f i)).bind (thenX idxf_term_C2) = some (R_idxf_term (match r.findIdx? f with | some k => ((i + k : Nat) : Int) | none => -1)) := by
    intro r
    induction r with
    | nil =>
      intro i hr hi
      have : s.length ≤ i := by rw [← List.drop_eq_nil_iff]; exact hr
      have e : idxf_term_L2 (idxf_term_s2 s o f i) = some (.exit 0, idxf_term_s2 s o f i) := by rw [idxf_term_l2, cndO_eq, if_neg (by simp; omega)]
      rw [loop_end e, idxf_term_a2_x0]; rfl
    | cons x r ih =>
      intro i hr hi
      obtain ⟨a1, a2, a3, hm⟩ := drop_cons hr
      have hx : s.getD i zeroTerm = x := a2 zeroTerm
      by_cases hf : f x = true
      · have e : idxf_term_L2 (idxf_term_s2 s o f i) = some (.ret, idxf_term_e2_ret s o f i i) := by
          rw [idxf_term_l2, cndO_eq, if_pos (by simp; omega), obO_pos (by omega), Int.toNat_natCast, hx, Term.ids_eq, obO_pos (ho x hm), cndO_eq, if_pos hf]
        rw [loop_end e, idxf_term_a2_ret]
        simp [List.findIdx?_cons, hf]
      · have e : idxf_term_L2 (idxf_term_s2 s o f i) = idxf_term_L2 (idxf_term_s2 s o f ((i + 1 : Nat) : Int)) := by
          rw [idxf_term_l2, cndO_eq, if_pos (by simp; omega), obO_pos (by omega), Int.toNat_natCast, hx, Term.ids_eq, obO_pos (ho x hm), cndO_eq, if_neg hf, wrap_next a1 hs.len]
        rw [e, ih (i + 1) a3 (by omega)]
        congr 2
        simp only [List.findIdx?_cons, hf]
        cases r.findIdx? f with
        | none => rfl
        | some k => simp; omega
  rw [idxf_term_in]
  have := key s 0 rfl (Nat.zero_le _)
  refine Eq.trans this ?_
  unfold idxf_term
  cases s.findIdx? f <;> simp
def F_idxf_term : FnC Un := fun args => match args with
  | [x0, x1] => (dL .term x0).bind fun s => (dF x1).bind fun f => some ([f = (fvo_S_term_to_b (po_S_term_to_b f) (pf_S_term_to_b f)), allO_term (po_S_term_to_b f) s], A_idxf_term (idxf_term s (po_S_term_to_b f) (pf_S_term_to_b f)), O_idxf_term (idxf_term s (po_S_term_to_b f) (pf_S_term_to_b f)))
  | _ => none
theorem ok_idxf_term : FnOK 93 F_idxf_term := by
  intro args ob rs os h hob
  unfold F_idxf_term at h
  split at h
  · simp only [Option.bind_eq_some_iff, Option.some.injEq, Prod.mk.injEq] at h
    obtain ⟨s, e0, f, e1, rfl, rfl, rfl⟩ := h
    obtain rfl := dL_eq e0
    obtain rfl := dF_eq e1
    have hfv0 := hob _ (List.mem_of_getElem? (i := 0) rfl)
    generalize pf_S_term_to_b f = pp0 at *
    generalize po_S_term_to_b f = qq0 at *
    subst hfv0
    exact ⟨fn_contractF (M := M_idxf_term) rfl (tbl_ok (l1 := []) (l2 := []) (l3 := []) (l4 := []) (l5 := []) trivial trivial trivial trivial trivial) Tryz.func93 (by kernel_rfl) N_idxf_term 0 [.d] (fun hwf => (idxf_term_spec s qq0 pp0 (wfArg hwf (a := .d (.v (.dat (U := Un) Ty.term s))) (List.mem_of_getElem? (i := 0) rfl)) (hob _ (List.mem_of_getElem? (i := 1) rfl)))), hasBody_of Tryz.func93 (by kernel_rfl) (by kernel_rfl)⟩
  · simp at h
def M_conf_term : Mc Un := mach (tbl [(93, F_idxf_term)]) (tbl []) (tbl []) (tbl []) (tbl [])
def A_conf_term (r : Bool) : List (A Un) := [.c (.s (.bool r))]
def O_conf_term (_r : Bool) : List (Ob Un) := []
def R_conf_term (r : Bool) : RF Un := (A_conf_term r, O_conf_term r)
def N_conf_term : Nat → NS := fun l => (look l []).getD ⟨[], [], [], [], [], false⟩
def conf_term_fn (s : List Term) (f_o : Term → Prop) (f : Term → Bool) : Option (RF Un) := awf M_conf_term N_conf_term (bodyOf Tryz.f58) (entry Tryz.f58.ntmps 0 [.d (.v (.dat (U := Un) Ty.term s)), .fn (fvo_S_term_to_b f_o f)]) (retF M_conf_term Tryz.f58.results.toList [.d])
theorem conf_term_in (s : List Term) (f_o : Term → Prop) (f : Term → Bool) : conf_term_fn s f_o f =
 obO (fvo_S_term_to_b f_o f = fvo_S_term_to_b (po_S_term_to_b (fvo_S_term_to_b f_o f)) (pf_S_term_to_b (fvo_S_term_to_b f_o f)))
  (obO (allO_term (po_S_term_to_b (fvo_S_term_to_b f_o f)) s)
   (some (R_conf_term (decide (idxf_term s (po_S_term_to_b (fvo_S_term_to_b f_o f)) (pf_S_term_to_b (fvo_S_term_to_b f_o f)) ≥ 0))))) := by kernel_rfl
def conf_term (s : List Term) (_o : Term → Prop) (f : Term → Bool) : Bool := s.any f
theorem conf_term_spec (s : List Term) (o : Term → Prop) (f : Term → Bool) (_hs : WL .term s) (ho : allO_term o s) : conf_term_fn s o f = some (R_conf_term (conf_term s o f)) := by
  rw [conf_term_in]
  simp only [pofvo_S_term_to_b, pffvo_S_term_to_b]
  rw [obO_pos trivial, obO_pos ho]
  unfold conf_term
  congr 2
  have := idxf_term_nonneg s o f
  cases h : s.any f with
  | true => simp; exact this.2 h
  | false =>
    have : ¬ 0 ≤ idxf_term s o f := fun e => by rw [this.1 e] at h; simp at h
    simpa using this
def F_conf_term : FnC Un := fun args => match args with
  | [x0, x1] => (dL .term x0).bind fun s => (dF x1).bind fun f => some ([f = (fvo_S_term_to_b (po_S_term_to_b f) (pf_S_term_to_b f)), allO_term (po_S_term_to_b f) s], A_conf_term (conf_term s (po_S_term_to_b f) (pf_S_term_to_b f)), O_conf_term (conf_term s (po_S_term_to_b f) (pf_S_term_to_b f)))
  | _ => none
theorem ok_conf_term : FnOK 58 F_conf_term := by
  intro args ob rs os h hob
  unfold F_conf_term at h
  split at h
  · simp only [Option.bind_eq_some_iff, Option.some.injEq, Prod.mk.injEq] at h
    obtain ⟨s, e0, f, e1, rfl, rfl, rfl⟩ := h
    obtain rfl := dL_eq e0
    obtain rfl := dF_eq e1
    have hfv0 := hob _ (List.mem_of_getElem? (i := 0) rfl)
    generalize pf_S_term_to_b f = pp0 at *
    generalize po_S_term_to_b f = qq0 at *
    subst hfv0
    exact ⟨fn_contractF (M := M_conf_term) rfl (tbl_ok (l1 := [(93, F_idxf_term)]) (l2 := []) (l3 := []) (l4 := []) (l5 := []) ⟨ok_idxf_term, trivial⟩ trivial trivial trivial trivial) Tryz.func58 (by kernel_rfl) N_conf_term 0 [.d] (fun hwf => (conf_term_spec s qq0 pp0 (wfArg hwf (a := .d (.v (.dat (U := Un) Ty.term s))) (List.mem_of_getElem? (i := 0) rfl)) (hob _ (List.mem_of_getElem? (i := 1) rfl)))), hasBody_of Tryz.func58 (by kernel_rfl) (by kernel_rfl)⟩
  · simp at h
end
end Go.Proofs.YtjmpnpkcgkhagaaGreat.B
