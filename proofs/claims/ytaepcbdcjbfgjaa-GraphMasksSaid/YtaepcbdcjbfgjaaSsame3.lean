/- Functions: same3. (Printed by wip/tools/mkfn.py out of wip/src/same3.src.) -/
import Derived.Test.YtaepcbdcjbfgjaaBAwf
import Derived.Test.YtaepcbdcjbfgjaaSspec
import Derived.Test.YtaepcbdcjbfgjaaSterms
import Derived.Test.YtaepcbdcjbfgjaaStermsz
import Derived.Test.YtaepcbdcjbfgjaaSsame
import Derived.Test.YtaepcbdcjbfgjaaSsame2
namespace Go.Proofs.Ytaepcbdcjbfgjaa.B
open Go Go.RowKit
set_option maxRecDepth 100000
noncomputable section
attribute [local irreducible] awp ctxK itersK iterK retQ retGQ awf ctxF loopF

/-- Are they the same? -/
noncomputable def deq {α : Type} (a b : α) : Bool := @decide (a = b) (Classical.propDecidable _)
theorem deq_iff {α : Type} {a b : α} : deq a b = true ↔ a = b := by unfold deq; exact @decide_eq_true_iff _ (Classical.propDecidable _)
theorem deq_of {α : Type} {a b : α} {x : Bool} (h : x = true ↔ a = b) : x = deq a b := by
  rw [Bool.eq_iff_iff, h, deq_iff]
theorem name_deq (a b : ByteArray) : (a.toList == b.toList) = true ↔ a = b := by
  rw [beq_iff_eq]
  exact ⟨fun h => by
    have e : ∀ x : ByteArray, x.toList = x.data.toList := fun x => ByteArray.toList_eq x
    rw [e, e] at h
    obtain ⟨⟨a⟩⟩ := a
    obtain ⟨⟨b⟩⟩ := b
    simp at h
    subst h; rfl, fun h => by rw [h]⟩
theorem eqBy (x y : By) : andB [EK.bool] (x.at_ == y.at_) (andB [] (x.down == y.down) true) = deq x y := by
  refine deq_of ?_
  obtain ⟨a, b⟩ := x
  obtain ⟨a', b'⟩ := y
  show ((a == a') && (b == b')) = true ↔ _
  rw [Bool.and_eq_true, beq_iff_eq, beq_iff_eq]
  exact ⟨fun h => by rw [h.1, h.2], fun h => by cases h; exact ⟨rfl, rfl⟩⟩
theorem eqCol (x y : Col) : andB [EK.str, EK.int IntKind.i64] (x.table.toList == y.table.toList) (andB [EK.int IntKind.i64] (x.name.toList == y.name.toList) (andB [] (x.type == y.type) true)) = deq x y := by
  refine deq_of ?_
  obtain ⟨a, b, c⟩ := x
  obtain ⟨a', b', c'⟩ := y
  show ((a.toList == a'.toList) && ((b.toList == b'.toList) && (c == c'))) = true ↔ _
  rw [Bool.and_eq_true, Bool.and_eq_true, name_deq, name_deq, beq_iff_eq]
  exact ⟨fun h => by rw [h.1, h.2.1, h.2.2], fun h => by cases h; exact ⟨rfl, rfl, rfl⟩⟩
theorem eqVal (x y : Val) : andB [EK.int IntKind.i64, EK.str] (x.kind == y.kind) (andB [EK.str] (x.n == y.n) (andB [] (x.s.toList == y.s.toList) true)) = deq x y := by
  refine deq_of ?_
  obtain ⟨a, b, c⟩ := x
  obtain ⟨a', b', c'⟩ := y
  show ((a == a') && ((b == b') && (c.toList == c'.toList))) = true ↔ _
  rw [Bool.and_eq_true, Bool.and_eq_true, name_deq, beq_iff_eq, beq_iff_eq]
  exact ⟨fun h => by rw [h.1, h.2.1, h.2.2], fun h => by cases h; exact ⟨rfl, rfl, rfl⟩⟩
theorem eqfA_deq {α : Type} {a b : List α} : eqfA deq a b = deq a b := deq_of (eqfA_iff fun _ _ => deq_iff)

/-! ### slices.Equal[[]api.By,api.By] -/
def M_eql_by : Mc Un := mach (tbl []) (tbl []) (tbl []) (tbl []) (tbl [])
def A_eql_by (r : Bool) : List (A Un) := [.c (.s (.bool r))]
def O_eql_by (_r : Bool) : List (Ob Un) := []
def R_eql_by (r : Bool) : RF Un := (A_eql_by r, O_eql_by r)
def N_eql_by : Nat → NS := fun l => (look l [(4, { ts := bl 26 12307, bs := bl 26 0, nm := [] })]).getD ⟨[], [], [], [], []⟩
def eql_by_s4 (a : List By) (b : List By) (v0 : Int) : S Un := (st 26 26 104 0 [(0, al .by_ a), (1, al .by_ b), (4, ab false), (12, ai (↑a.length : Int)), (13, ai v0)] [] [])
def eql_by_B4 : Code := sub (bodyOf Try.f69) [1, 1, 0, 1, 2, 2]
def eql_by_L4 : S Un → Option (EX Un) := loopF (N_eql_by 4) (fun s Q => awf M_eql_by N_eql_by eql_by_B4 s Q)
def eql_by_C4 : Exit → S Un → Option (RF Un) := ctxF M_eql_by N_eql_by (bodyOf Try.f69) [1, 1, 0, 1, 2] (retF M_eql_by Try.f69.results.toList [.d])
def eql_by_fn (a : List By) (b : List By) : Option (RF Un) := awf M_eql_by N_eql_by (bodyOf Try.f69) (entry Try.f69.ntmps 0 [.d (.v (.dat (U := Un) Ty.by_ a)), .d (.v (.dat (U := Un) Ty.by_ b))]) (retF M_eql_by Try.f69.results.toList [.d])
theorem eql_by_in (a : List By) (b : List By) : eql_by_fn a b =
 cndO ((↑a.length : Int) != (↑b.length : Int))
  (some (R_eql_by (false)))
  ((eql_by_L4 (eql_by_s4 a b (0 : Int))).bind (thenX eql_by_C4)) := by kernel_rfl
theorem eql_by_l4 (a : List By) (b : List By) (v0 : Int) : eql_by_L4 (eql_by_s4 a b v0) =
 cndO (decide (v0 < (↑a.length : Int)))
  (obO (0 ≤ v0 ∧ v0 < (↑a.length : Int))
   (obO (0 ≤ v0 ∧ v0 < (↑b.length : Int))
    (cndO (!andB [EK.bool] ((a.getD v0.toNat zeroBy).at_ == (b.getD v0.toNat zeroBy).at_) (andB [] ((a.getD v0.toNat zeroBy).down == (b.getD v0.toNat zeroBy).down) true))
     (some (.ret, (eql_by_s4 a b v0)))
     (eql_by_L4 (eql_by_s4 a b (IntKind.i64.wrap (v0 + 1)))))))
  (some (.exit 0, (eql_by_s4 a b v0))) := (loopF_eq (N_eql_by 4) eql_by_B4 _).trans (by kernel_rfl)
theorem eql_by_a4_ret (a : List By) (b : List By) (v0 : Int) : eql_by_C4 .ret (eql_by_s4 a b v0) =
 some (R_eql_by (false)) := by kernel_rfl
theorem eql_by_a4_x0 (a : List By) (b : List By) (v0 : Int) : eql_by_C4 (.exit 0) (eql_by_s4 a b v0) =
 some (R_eql_by (true)) := by kernel_rfl

noncomputable def eql_by (a b : List By) : Bool := deq a b
theorem eql_by_spec (a b : List By) (ha : WL .by_ a) (_hb : WL .by_ b) : eql_by_fn a b = some (R_eql_by (eql_by a b)) := by
  rw [eql_by_in, cndO_eq]
  unfold eql_by
  rw [← eqfA_deq]
  by_cases hl : a.length = b.length
  · rw [if_neg (by simp [hl])]
    exact loop_all2 (L := eql_by_L4) (st := fun i => eql_by_s4 a b i) (fun r => some (R_eql_by r)) (d := zeroBy) deq hl ha.len
      (fun i hi => by
        rw [eql_by_l4, eqBy]
        simp only [cndO_eq, Int.toNat_natCast]
        rw [if_pos (by simp; omega), obO_pos (by omega), obO_pos (by omega)]
        cases deq (a.getD i zeroBy) (b.getD i zeroBy) <;> simp)
      (by rw [eql_by_l4]; simp [cndO_eq]) (fun i => eql_by_a4_ret _ _ _) (eql_by_a4_x0 _ _ _)
  · rw [if_pos (by simp; omega), eqfA_len hl]

def F_eql_by : FnC Un := fun args => match args with
  | [x0, x1] => (dL .by_ x0).bind fun a => (dL .by_ x1).bind fun b => some ([], A_eql_by (eql_by a b), O_eql_by (eql_by a b))
  | _ => none

theorem ok_eql_by : FnOK 69 F_eql_by := by
  intro args ob rs os h hob
  unfold F_eql_by at h
  split at h
  · simp only [Option.bind_eq_some_iff, Option.some.injEq, Prod.mk.injEq] at h
    obtain ⟨a, e0, b, e1, rfl, rfl, rfl⟩ := h
    obtain rfl := dL_eq e0
    obtain rfl := dL_eq e1
    exact ⟨fn_contractF (M := M_eql_by) rfl (tbl_ok (l1 := []) (l2 := []) (l3 := []) (l4 := []) (l5 := []) trivial trivial trivial trivial trivial) Try.func69 (by kernel_rfl) N_eql_by 0 [.d] (fun hwf => (eql_by_spec a b (wfArg hwf (a := .d (.v (.dat (U := Un) Ty.by_ a))) (List.mem_of_getElem? (i := 0) rfl)) (wfArg hwf (a := .d (.v (.dat (U := Un) Ty.by_ b))) (List.mem_of_getElem? (i := 1) rfl)))), hasBody_of Try.func69 (by kernel_rfl) (by kernel_rfl)⟩
  · simp at h


/-! ### slices.Equal[[]api.Col,api.Col] -/
def M_eql_col : Mc Un := mach (tbl []) (tbl []) (tbl []) (tbl []) (tbl [])
def A_eql_col (r : Bool) : List (A Un) := [.c (.s (.bool r))]
def O_eql_col (_r : Bool) : List (Ob Un) := []
def R_eql_col (r : Bool) : RF Un := (A_eql_col r, O_eql_col r)
def N_eql_col : Nat → NS := fun l => (look l [(4, { ts := bl 26 12307, bs := bl 26 0, nm := [] })]).getD ⟨[], [], [], [], []⟩
def eql_col_s4 (a : List Col) (b : List Col) (v0 : Int) : S Un := (st 26 26 104 0 [(0, al .col a), (1, al .col b), (4, ab false), (12, ai (↑a.length : Int)), (13, ai v0)] [] [])
def eql_col_B4 : Code := sub (bodyOf Try.f68) [1, 1, 0, 1, 2, 2]
def eql_col_L4 : S Un → Option (EX Un) := loopF (N_eql_col 4) (fun s Q => awf M_eql_col N_eql_col eql_col_B4 s Q)
def eql_col_C4 : Exit → S Un → Option (RF Un) := ctxF M_eql_col N_eql_col (bodyOf Try.f68) [1, 1, 0, 1, 2] (retF M_eql_col Try.f68.results.toList [.d])
def eql_col_fn (a : List Col) (b : List Col) : Option (RF Un) := awf M_eql_col N_eql_col (bodyOf Try.f68) (entry Try.f68.ntmps 0 [.d (.v (.dat (U := Un) Ty.col a)), .d (.v (.dat (U := Un) Ty.col b))]) (retF M_eql_col Try.f68.results.toList [.d])
theorem eql_col_in (a : List Col) (b : List Col) : eql_col_fn a b =
 cndO ((↑a.length : Int) != (↑b.length : Int))
  (some (R_eql_col (false)))
  ((eql_col_L4 (eql_col_s4 a b (0 : Int))).bind (thenX eql_col_C4)) := by kernel_rfl
theorem eql_col_l4 (a : List Col) (b : List Col) (v0 : Int) : eql_col_L4 (eql_col_s4 a b v0) =
 cndO (decide (v0 < (↑a.length : Int)))
  (obO (0 ≤ v0 ∧ v0 < (↑a.length : Int))
   (obO (0 ≤ v0 ∧ v0 < (↑b.length : Int))
    (cndO (!andB [EK.str, EK.int IntKind.i64] ((a.getD v0.toNat zeroCol).table.toList == (b.getD v0.toNat zeroCol).table.toList) (andB [EK.int IntKind.i64] ((a.getD v0.toNat zeroCol).name.toList == (b.getD v0.toNat zeroCol).name.toList) (andB [] ((a.getD v0.toNat zeroCol).type == (b.getD v0.toNat zeroCol).type) true)))
     (some (.ret, (eql_col_s4 a b v0)))
     (eql_col_L4 (eql_col_s4 a b (IntKind.i64.wrap (v0 + 1)))))))
  (some (.exit 0, (eql_col_s4 a b v0))) := (loopF_eq (N_eql_col 4) eql_col_B4 _).trans (by kernel_rfl)
theorem eql_col_a4_ret (a : List Col) (b : List Col) (v0 : Int) : eql_col_C4 .ret (eql_col_s4 a b v0) =
 some (R_eql_col (false)) := by kernel_rfl
theorem eql_col_a4_x0 (a : List Col) (b : List Col) (v0 : Int) : eql_col_C4 (.exit 0) (eql_col_s4 a b v0) =
 some (R_eql_col (true)) := by kernel_rfl

noncomputable def eql_col (a b : List Col) : Bool := deq a b
theorem eql_col_spec (a b : List Col) (ha : WL .col a) (_hb : WL .col b) : eql_col_fn a b = some (R_eql_col (eql_col a b)) := by
  rw [eql_col_in, cndO_eq]
  unfold eql_col
  rw [← eqfA_deq]
  by_cases hl : a.length = b.length
  · rw [if_neg (by simp [hl])]
    exact loop_all2 (L := eql_col_L4) (st := fun i => eql_col_s4 a b i) (fun r => some (R_eql_col r)) (d := zeroCol) deq hl ha.len
      (fun i hi => by
        rw [eql_col_l4, eqCol]
        simp only [cndO_eq, Int.toNat_natCast]
        rw [if_pos (by simp; omega), obO_pos (by omega), obO_pos (by omega)]
        cases deq (a.getD i zeroCol) (b.getD i zeroCol) <;> simp)
      (by rw [eql_col_l4]; simp [cndO_eq]) (fun i => eql_col_a4_ret _ _ _) (eql_col_a4_x0 _ _ _)
  · rw [if_pos (by simp; omega), eqfA_len hl]

def F_eql_col : FnC Un := fun args => match args with
  | [x0, x1] => (dL .col x0).bind fun a => (dL .col x1).bind fun b => some ([], A_eql_col (eql_col a b), O_eql_col (eql_col a b))
  | _ => none

theorem ok_eql_col : FnOK 68 F_eql_col := by
  intro args ob rs os h hob
  unfold F_eql_col at h
  split at h
  · simp only [Option.bind_eq_some_iff, Option.some.injEq, Prod.mk.injEq] at h
    obtain ⟨a, e0, b, e1, rfl, rfl, rfl⟩ := h
    obtain rfl := dL_eq e0
    obtain rfl := dL_eq e1
    exact ⟨fn_contractF (M := M_eql_col) rfl (tbl_ok (l1 := []) (l2 := []) (l3 := []) (l4 := []) (l5 := []) trivial trivial trivial trivial trivial) Try.func68 (by kernel_rfl) N_eql_col 0 [.d] (fun hwf => (eql_col_spec a b (wfArg hwf (a := .d (.v (.dat (U := Un) Ty.col a))) (List.mem_of_getElem? (i := 0) rfl)) (wfArg hwf (a := .d (.v (.dat (U := Un) Ty.col b))) (List.mem_of_getElem? (i := 1) rfl)))), hasBody_of Try.func68 (by kernel_rfl) (by kernel_rfl)⟩
  · simp at h


/-! ### slices.Equal[api.Row,api.Value] -/
def M_eql_val : Mc Un := mach (tbl []) (tbl []) (tbl []) (tbl []) (tbl [])
def A_eql_val (r : Bool) : List (A Un) := [.c (.s (.bool r))]
def O_eql_val (_r : Bool) : List (Ob Un) := []
def R_eql_val (r : Bool) : RF Un := (A_eql_val r, O_eql_val r)
def N_eql_val : Nat → NS := fun l => (look l [(4, { ts := bl 26 12307, bs := bl 26 0, nm := [] })]).getD ⟨[], [], [], [], []⟩
def eql_val_s4 (a : List Val) (b : List Val) (v0 : Int) : S Un := (st 26 26 104 0 [(0, al .val a), (1, al .val b), (4, ab false), (12, ai (↑a.length : Int)), (13, ai v0)] [] [])
def eql_val_B4 : Code := sub (bodyOf Try.f87) [1, 1, 0, 1, 2, 2]
def eql_val_L4 : S Un → Option (EX Un) := loopF (N_eql_val 4) (fun s Q => awf M_eql_val N_eql_val eql_val_B4 s Q)
def eql_val_C4 : Exit → S Un → Option (RF Un) := ctxF M_eql_val N_eql_val (bodyOf Try.f87) [1, 1, 0, 1, 2] (retF M_eql_val Try.f87.results.toList [.d])
def eql_val_fn (a : List Val) (b : List Val) : Option (RF Un) := awf M_eql_val N_eql_val (bodyOf Try.f87) (entry Try.f87.ntmps 0 [.d (.v (.dat (U := Un) Ty.val a)), .d (.v (.dat (U := Un) Ty.val b))]) (retF M_eql_val Try.f87.results.toList [.d])
theorem eql_val_in (a : List Val) (b : List Val) : eql_val_fn a b =
 cndO ((↑a.length : Int) != (↑b.length : Int))
  (some (R_eql_val (false)))
  ((eql_val_L4 (eql_val_s4 a b (0 : Int))).bind (thenX eql_val_C4)) := by kernel_rfl
theorem eql_val_l4 (a : List Val) (b : List Val) (v0 : Int) : eql_val_L4 (eql_val_s4 a b v0) =
 cndO (decide (v0 < (↑a.length : Int)))
  (obO (0 ≤ v0 ∧ v0 < (↑a.length : Int))
   (obO (0 ≤ v0 ∧ v0 < (↑b.length : Int))
    (cndO (!andB [EK.int IntKind.i64, EK.str] ((a.getD v0.toNat zeroVal).kind == (b.getD v0.toNat zeroVal).kind) (andB [EK.str] ((a.getD v0.toNat zeroVal).n == (b.getD v0.toNat zeroVal).n) (andB [] ((a.getD v0.toNat zeroVal).s.toList == (b.getD v0.toNat zeroVal).s.toList) true)))
     (some (.ret, (eql_val_s4 a b v0)))
     (eql_val_L4 (eql_val_s4 a b (IntKind.i64.wrap (v0 + 1)))))))
  (some (.exit 0, (eql_val_s4 a b v0))) := (loopF_eq (N_eql_val 4) eql_val_B4 _).trans (by kernel_rfl)
theorem eql_val_a4_ret (a : List Val) (b : List Val) (v0 : Int) : eql_val_C4 .ret (eql_val_s4 a b v0) =
 some (R_eql_val (false)) := by kernel_rfl
theorem eql_val_a4_x0 (a : List Val) (b : List Val) (v0 : Int) : eql_val_C4 (.exit 0) (eql_val_s4 a b v0) =
 some (R_eql_val (true)) := by kernel_rfl

noncomputable def eql_val (a b : List Val) : Bool := deq a b
theorem eql_val_spec (a b : List Val) (ha : WL .val a) (_hb : WL .val b) : eql_val_fn a b = some (R_eql_val (eql_val a b)) := by
  rw [eql_val_in, cndO_eq]
  unfold eql_val
  rw [← eqfA_deq]
  by_cases hl : a.length = b.length
  · rw [if_neg (by simp [hl])]
    exact loop_all2 (L := eql_val_L4) (st := fun i => eql_val_s4 a b i) (fun r => some (R_eql_val r)) (d := zeroVal) deq hl ha.len
      (fun i hi => by
        rw [eql_val_l4, eqVal]
        simp only [cndO_eq, Int.toNat_natCast]
        rw [if_pos (by simp; omega), obO_pos (by omega), obO_pos (by omega)]
        cases deq (a.getD i zeroVal) (b.getD i zeroVal) <;> simp)
      (by rw [eql_val_l4]; simp [cndO_eq]) (fun i => eql_val_a4_ret _ _ _) (eql_val_a4_x0 _ _ _)
  · rw [if_pos (by simp; omega), eqfA_len hl]

def F_eql_val : FnC Un := fun args => match args with
  | [x0, x1] => (dL .val x0).bind fun a => (dL .val x1).bind fun b => some ([], A_eql_val (eql_val a b), O_eql_val (eql_val a b))
  | _ => none

theorem ok_eql_val : FnOK 87 F_eql_val := by
  intro args ob rs os h hob
  unfold F_eql_val at h
  split at h
  · simp only [Option.bind_eq_some_iff, Option.some.injEq, Prod.mk.injEq] at h
    obtain ⟨a, e0, b, e1, rfl, rfl, rfl⟩ := h
    obtain rfl := dL_eq e0
    obtain rfl := dL_eq e1
    exact ⟨fn_contractF (M := M_eql_val) rfl (tbl_ok (l1 := []) (l2 := []) (l3 := []) (l4 := []) (l5 := []) trivial trivial trivial trivial trivial) Try.func87 (by kernel_rfl) N_eql_val 0 [.d] (fun hwf => (eql_val_spec a b (wfArg hwf (a := .d (.v (.dat (U := Un) Ty.val a))) (List.mem_of_getElem? (i := 0) rfl)) (wfArg hwf (a := .d (.v (.dat (U := Un) Ty.val b))) (List.mem_of_getElem? (i := 1) rfl)))), hasBody_of Try.func87 (by kernel_rfl) (by kernel_rfl)⟩
  · simp at h


end
end Go.Proofs.Ytaepcbdcjbfgjaa.B
