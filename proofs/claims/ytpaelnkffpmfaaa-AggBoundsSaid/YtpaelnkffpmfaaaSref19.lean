/- Functions: ref19. (Printed by wip/tools/mkfn.py out of wip/src/ref19.src.) -/
import Derived.Test.YtpaelnkffpmfaaaBAwf
import Derived.Test.YtpaelnkffpmfaaaSspec
import Derived.Test.YtpaelnkffpmfaaaSref03
import Derived.Test.YtpaelnkffpmfaaaSaggspec
namespace Go.Proofs.Ytpaelnkffpmfaaa.B
open Go Go.RowKit
set_option maxRecDepth 100000
noncomputable section
attribute [local irreducible] awp ctxK itersK iterK retQ retGQ awf ctxF loopF

@[simp] theorem r03_Num_val (n : Int) : r03_Num n = numV n := rfl

/-! ### tabellionref19.rows -/
def M_r19_rows : Mc Un := mach (tbl []) (tbl []) (tbl []) (tbl []) (tbl [])
def A_r19_rows (r : Bool) : List (A Un) := [.c (.s (.bool r))]
def O_r19_rows (_r : Bool) : List (Ob Un) := []
def R_r19_rows (r : Bool) : RF Un := (A_r19_rows r, O_r19_rows r)
def N_r19_rows : Nat → NS := fun l => (look l []).getD ⟨[], [], [], [], []⟩
def r19_rows_fn (a : Agg) : Option (RF Un) := awf M_r19_rows N_r19_rows (bodyOf Try.f32) (entry Try.f32.ntmps 0 [.d (.agg (enc Ty.agg a))]) (retF M_r19_rows Try.f32.results.toList [.d])
theorem r19_rows_in (a : Agg) : r19_rows_fn a =
 cndO (a.name.toList == (ByteArray.mk #[99, 111, 117, 110, 116]).toList)
  (some (R_r19_rows ((↑a.t.length : Int) == (0 : Int))))
  (some (R_r19_rows (false))) := by kernel_rfl
def r19_rows (a : Agg) : Bool :=
  if (a.name.toList == (ByteArray.mk #[(99 : UInt8), (111 : UInt8), (117 : UInt8), (110 : UInt8), (116 : UInt8)]).toList) = true then
   ((↑a.t.length : Int) == (0 : Int))
  else
   (false)
theorem r19_rows_eq (a : Agg) : r19_rows_fn a = some (R_r19_rows (r19_rows a)) := by rw [r19_rows_in]; unfold r19_rows; simp only [cndO_eq]; repeat (first | rfl | split)

def F_r19_rows : FnC Un := fun args => match args with
  | [x0] => (dS .agg x0).bind fun a => some ([], A_r19_rows (r19_rows a), O_r19_rows (r19_rows a))
  | _ => none

theorem ok_r19_rows : FnOK 32 F_r19_rows := by
  intro args ob rs os h hob
  unfold F_r19_rows at h
  split at h
  · simp only [Option.bind_eq_some_iff, Option.some.injEq, Prod.mk.injEq] at h
    obtain ⟨a, e0, rfl, rfl, rfl⟩ := h
    obtain rfl := dS_eq e0
    exact ⟨fn_contractF (M := M_r19_rows) rfl (tbl_ok (l1 := []) (l2 := []) (l3 := []) (l4 := []) (l5 := []) trivial trivial trivial trivial trivial) Try.func32 (by kernel_rfl) N_r19_rows 0 [.d] (fun hwf => (r19_rows_eq a)), hasBody_of Try.func32 (by kernel_rfl) (by kernel_rfl)⟩
  · simp at h

open Classical in
def rowsA (a : Agg) : Bool := decide (a.name = nmCount ∧ a.t = [])
theorem r19_rows_spec (a : Agg) : r19_rows a = rowsA a := by
  unfold r19_rows rowsA
  simp only [nm_count, name_beq, decide_eq_true_eq]
  by_cases h : a.name = nmCount
  · by_cases h2 : a.t = []
    · simp [h, h2]
    · have : ¬ a.t.length = 0 := fun e => h2 (List.eq_nil_of_length_eq_zero e)
      simp [h, h2]
  · simp [h]
open Classical in
def cntStep (a : Agg) (out : List Val) (v : Val) : List Val := if cntV a.name v = true ∧ (a.distinct = true → ¬ v ∈ out) then out ++ [v] else out
def cntd (a : Agg) (l : List Val) : List Val := if rowsA a = true then l else l.foldl (cntStep a) []


/-! ### tabellionref19.counted -/
def M_r19_counted : Mc Un := mach (tbl [(32, F_r19_rows), (33, F_r03_Right), (20, F_r03_Order)]) (tbl []) (tbl []) (tbl []) (tbl [])
def A_r19_counted (r : List Val) : List (A Un) := [.c (.sl (U := Un) Ty.val r false)]
def O_r19_counted (_r : List Val) : List (Ob Un) := []
def R_r19_counted (r : List Val) : RF Un := (A_r19_counted r, O_r19_counted r)
def N_r19_counted : Nat → NS := fun l => (look l [(5, { ts := bl 76 102, bs := bl 76 4, nm := [(.sl 5, 304)] }), (9, { ts := bl 76 486, bs := bl 76 4, nm := [(.sl 5, 305)] })]).getD ⟨[], [], [], [], []⟩
def r19_counted_s5 (a : Agg) (l : List Val) (v0 : Int) (v1 : List Val) : S Un := (st 76 76 306 0 [(1, al .val l), (2, ax 2), (5, ao 304), (6, ai v0)] [(2, bg .agg a)] [(304, some ⟨(0 : Nat), Ty.val, v1, some (0 : Nat), true⟩)])
def r19_counted_s9 (a : Agg) (l : List Val) (v0 : Int) (v1 : List Val) (v2 : Bool) (v3 : Int) : S Un := (st 76 76 306 0 [(1, al .val l), (2, ax 2), (5, ao 305), (6, ai v0), (7, ab v2), (8, ai v3)] [(2, bg .agg a)] [(305, some ⟨(0 : Nat), Ty.val, v1, some (0 : Nat), true⟩)])
def r19_counted_B5 : Code := sub (bodyOf Try.f17) [1, 1, 1, 0, 1, 2, 2]
def r19_counted_L5 : S Un → Option (EX Un) := loopF (N_r19_counted 5) (fun s Q => awf M_r19_counted N_r19_counted r19_counted_B5 s Q)
def r19_counted_B9 : Code := sub (sub (bodyOf Try.f17) [1, 1, 1, 0, 1, 2, 2]) [1, 0, 2, 1, 0, 1, 2, 2]
def r19_counted_L9 : S Un → Option (EX Un) := loopF (N_r19_counted 9) (fun s Q => awf M_r19_counted N_r19_counted r19_counted_B9 s Q)
def r19_counted_C5 : Exit → S Un → Option (RF Un) := ctxF M_r19_counted N_r19_counted (bodyOf Try.f17) [1, 1, 1, 0, 1, 2] (retF M_r19_counted Try.f17.results.toList [.d])
def r19_counted_C9 : Exit → S Un → Option (EX Un) := ctxF M_r19_counted N_r19_counted r19_counted_B5 [1, 0, 2, 1, 0, 1, 2] (roundF (N_r19_counted 5) r19_counted_L5)
def r19_counted_fn (a : Agg) (l : List Val) : Option (RF Un) := awf M_r19_counted N_r19_counted (bodyOf Try.f17) (entry Try.f17.ntmps 2 [.d (.agg (enc Ty.agg a)), .d (.v (.dat (U := Un) Ty.val l))]) (retF M_r19_counted Try.f17.results.toList [.d])
theorem r19_counted_in (a : Agg) (l : List Val) : r19_counted_fn a l =
 cndO (r19_rows (Agg.ids a))
  (some (R_r19_counted (l)))
  ((r19_counted_L5 (r19_counted_s5 a l (0 : Int) ([]))).bind (thenX r19_counted_C5)) := by kernel_rfl
theorem r19_counted_l5 (a : Agg) (l : List Val) (v0 : Int) (v1 : List Val) : r19_counted_L5 (r19_counted_s5 a l v0 v1) =
 cndO (decide (v0 < (↑l.length : Int)))
  (obO (0 ≤ v0 ∧ v0 < (↑l.length : Int))
   (cndO (r03_Right (l.getD v0.toNat zeroVal))
    (obO (0 ≤ v0 ∧ v0 < (↑l.length : Int))
     (cndO ((l.getD v0.toNat zeroVal).kind != 0)
      (cndO (!a.name.toList == (ByteArray.mk #[115, 117, 109]).toList)
       ((r19_counted_L9 (r19_counted_s9 a l v0 v1 true (0 : Int))).bind (thenX r19_counted_C9))
       (obO (0 ≤ v0 ∧ v0 < (↑l.length : Int))
        ((r19_counted_L9 (r19_counted_s9 a l v0 v1 ((l.getD v0.toNat zeroVal).kind == 2) (0 : Int))).bind (thenX r19_counted_C9))))
      ((r19_counted_L9 (r19_counted_s9 a l v0 v1 false (0 : Int))).bind (thenX r19_counted_C9))))
    ((r19_counted_L9 (r19_counted_s9 a l v0 v1 false (0 : Int))).bind (thenX r19_counted_C9))))
  (some (.exit 0, (r19_counted_s5 a l v0 v1))) := (loopF_eq (N_r19_counted 5) r19_counted_B5 _).trans (by kernel_rfl)
theorem r19_counted_a5_x0 (a : Agg) (l : List Val) (v0 : Int) (v1 : List Val) : r19_counted_C5 (.exit 0) (r19_counted_s5 a l v0 v1) =
 some (R_r19_counted (v1)) := by kernel_rfl
theorem r19_counted_l9 (a : Agg) (l : List Val) (v0 : Int) (v1 : List Val) (v2 : Bool) (v3 : Int) : r19_counted_L9 (r19_counted_s9 a l v0 v1 v2 v3) =
 cndO (decide (v3 < (↑v1.length : Int)))
  (cndO (a.distinct)
   (cndO (v2)
    (obO (0 ≤ v3 ∧ v3 < (↑v1.length : Int))
     (obO (0 ≤ v0 ∧ v0 < (↑l.length : Int))
      (r19_counted_L9 (r19_counted_s9 a l v0 v1 (r03_Order (v1.getD v3.toNat zeroVal) (l.getD v0.toNat zeroVal) != 0) (IntKind.i64.wrap (v3 + 1))))))
    (r19_counted_L9 (r19_counted_s9 a l v0 v1 false (IntKind.i64.wrap (v3 + 1)))))
   (some (.exit 2, (r19_counted_s9 a l v0 v1 v2 v3))))
  (some (.exit 2, (r19_counted_s9 a l v0 v1 v2 v3))) := (loopF_eq (N_r19_counted 9) r19_counted_B9 _).trans (by kernel_rfl)
theorem r19_counted_a9_x2 (a : Agg) (l : List Val) (v0 : Int) (v1 : List Val) (v2 : Bool) (v3 : Int) : r19_counted_C9 (.exit 2) (r19_counted_s9 a l v0 v1 v2 v3) =
 cndO (v2)
  (obO (0 ≤ v0 ∧ v0 < (↑l.length : Int))
   (obO ((v1.length + [(l.getD v0.toNat zeroVal)].length) * (32 : Nat) ≤ roomB)
    (r19_counted_L5 (r19_counted_s5 a l (IntKind.i64.wrap (v0 + 1)) (v1 ++ [(l.getD v0.toNat zeroVal)])))))
  (r19_counted_L5 (r19_counted_s5 a l (IntKind.i64.wrap (v0 + 1)) v1)) := by kernel_rfl

def r19_counted (a : Agg) (l : List Val) : List Val := cntd a l
@[simp] theorem r19_counted_eq (a : Agg) (l : List Val) : r19_counted a l = cntd a l := by unfold r19_counted; rfl
open Classical in
theorem r19_inner (a : Agg) (l out : List Val) (i : Nat) (ok : Bool) (hi : i < l.length) (hl : out.length ≤ 9223372036854775807) :
    ∃ j, r19_counted_L9 (r19_counted_s9 a l i out ok (0 : Int)) = some (.exit 2, r19_counted_s9 a l i out (decide (ok = true ∧ (a.distinct = true → ¬ l.getD i zeroVal ∈ out))) j) := by
  obtain ⟨v, hv⟩ : ∃ v, v = l.getD i zeroVal := ⟨_, rfl⟩
  rw [← hv]
  by_cases hd : a.distinct = true
  · obtain ⟨h, _⟩ := loop_fold (e := .exit 2) (L := r19_counted_L9) (st := fun b k => r19_counted_s9 a l i out b k) (l := out) (d := zeroVal) (g := fun b x => if b = true then ordV x v != 0 else false) (fun _ _ => True) hl
      (fun b k x hk hx _ => ⟨trivial, by
        rw [r19_counted_l9]
        simp only [cndO_eq, hk, hd, decide_true, if_true, and_true, Int.toNat_natCast, hx, ← hv, r03_Order_eq]
        cases b
        · rfl
        · simp only [if_true]; rw [obO_pos (by omega), obO_pos (by omega)]⟩)
      (fun b _ => by rw [r19_counted_l9]; simp [cndO_eq]) ok trivial
    refine ⟨out.length, h.trans ?_⟩
    congr 3
    rw [hd]
    simp only [true_imp_iff]
    have key : ∀ (r : List Val) (b : Bool), r.foldl (fun b x => if b = true then ordV x v != 0 else false) b = decide (b = true ∧ ¬ v ∈ r) := by
      intro r
      induction r with
      | nil => intro b; simp
      | cons x r ih =>
        intro b
        rw [List.foldl_cons, ih]
        by_cases hx : ordV x v = 0
        · have := ordV_zero.1 hx
          subst this
          simp [ordV_self]
        · have : ¬ v = x := fun e => hx (by rw [e]; exact ordV_self x)
          cases b <;> simp [hx, this]
    exact key out ok
  · refine ⟨0, ?_⟩
    rw [r19_counted_l9]
    simp only [cndO_eq, hd, if_false, Bool.false_eq_true, false_imp_iff, and_true, Bool.decide_eq_true, ite_self]
open Classical in
theorem r19_counted_spec (a : Agg) (l : List Val) (_ha : WS .agg a) (_hl : WL .val l) (h : l.length ≤ 1000000) : r19_counted_fn a l = some (R_r19_counted (r19_counted a l)) := by
  rw [r19_counted_in, Agg.ids_eq, cndO_eq, r19_rows_spec]
  unfold r19_counted cntd
  by_cases hr : rowsA a = true
  · rw [if_pos hr, if_pos hr]
  · rw [if_neg hr, if_neg hr]
    obtain ⟨hl, _⟩ := loop_fold (e := .exit 0) (L := r19_counted_L5) (st := fun out i => r19_counted_s5 a l i out) (l := l) (d := zeroVal) (g := cntStep a) (fun i out => out.length ≤ i) (by omega)
      (fun out i v hi hv hI => by
        have hil : i < l.length := by omega
        have hI' : out.length ≤ i := hI
        refine ⟨by
          show (cntStep a out v).length ≤ i + 1
          unfold cntStep; split
          · rw [List.length_append]; simp only [List.length_singleton]; omega
          · omega, ?_⟩
        rw [r19_counted_l5]
        have key : ∀ b, (r19_counted_L9 (r19_counted_s9 a l i out b (0 : Int))).bind (thenX r19_counted_C9) = r19_counted_L5 (r19_counted_s5 a l (IntKind.i64.wrap ((i : Int) + 1)) (if b = true ∧ (a.distinct = true → ¬ v ∈ out) then out ++ [v] else out)) := by
          intro b
          obtain ⟨j, hj⟩ := r19_inner a l out i b hil (by omega)
          rw [loop_end hj, r19_counted_a9_x2]
          simp only [cndO_eq, hi, and_true, Int.toNat_natCast, hv, decide_eq_true_eq]
          have hroom : (out.length + [v].length) * 32 ≤ roomB := by unfold roomB; simp; omega
          rw [obO_pos (by omega), obO_pos hroom]
          split <;> rfl
        simp only [cndO_eq, hi, decide_true, if_true, and_true, Int.toNat_natCast, hv, r03_Right_eq, nm_sum, name_beq, key]
        rw [obO_pos (by omega), obO_pos (by omega), obO_pos (by omega)]
        unfold cntStep cntV
        by_cases c1 : rightV v = true
        · by_cases c2 : v.kind = 0
          · simp [c1, c2]
          · by_cases c3 : a.name = nmSum
            · simp [c1, c2, c3]
            · simp [c1, c2, c3]
        · simp [c1])
      (fun out _ => by rw [r19_counted_l5]; simp [cndO_eq]) [] (Nat.le_refl _)
    rw [loop_end hl, r19_counted_a5_x0]

def F_r19_counted : FnC Un := fun args => match args with
  | [x0, x1] => (dS .agg x0).bind fun a => (dL .val x1).bind fun l => some ([l.length ≤ 1000000], A_r19_counted (r19_counted a l), O_r19_counted (r19_counted a l))
  | _ => none

theorem ok_r19_counted : FnOK 17 F_r19_counted := by
  intro args ob rs os h hob
  unfold F_r19_counted at h
  split at h
  · simp only [Option.bind_eq_some_iff, Option.some.injEq, Prod.mk.injEq] at h
    obtain ⟨a, e0, l, e1, rfl, rfl, rfl⟩ := h
    obtain rfl := dS_eq e0
    obtain rfl := dL_eq e1
    exact ⟨fn_contractF (M := M_r19_counted) rfl (tbl_ok (l1 := [(32, F_r19_rows), (33, F_r03_Right), (20, F_r03_Order)]) (l2 := []) (l3 := []) (l4 := []) (l5 := []) ⟨ok_r19_rows, ok_r03_Right, ok_r03_Order, trivial⟩ trivial trivial trivial trivial) Try.func17 (by kernel_rfl) N_r19_counted 2 [.d] (fun hwf => (r19_counted_spec a l (wfArg hwf (a := .d (.agg (enc Ty.agg a))) (List.mem_of_getElem? (i := 0) rfl)) (wfArg hwf (a := .d (.v (.dat (U := Un) Ty.val l))) (List.mem_of_getElem? (i := 1) rfl)) (hob _ (List.mem_of_getElem? (i := 0) rfl)))), hasBody_of Try.func17 (by kernel_rfl) (by kernel_rfl)⟩
  · simp at h


/-! ### tabellionref19.sum -/
def M_r19_sum : Mc Un := mach (tbl []) (tbl []) (tbl []) (tbl []) (tbl [])
def A_r19_sum (r : Int × Int) : List (A Un) := [.c (.s (.int .i64 r.1)), .c (.s (.int .i64 r.2))]
def O_r19_sum (_r : Int × Int) : List (Ob Un) := []
def R_r19_sum (r : Int × Int) : RF Un := (A_r19_sum r, O_r19_sum r)
def N_r19_sum : Nat → NS := fun l => (look l [(3, { ts := bl 34 113, bs := bl 34 0, nm := [] }), (6, { ts := bl 34 113, bs := bl 34 0, nm := [] }), (9, { ts := bl 34 113, bs := bl 34 0, nm := [] })]).getD ⟨[], [], [], [], []⟩
def r19_sum_s3 (l : List Val) (v0 : Int) (v1 : Int) (v2 : Int) : S Un := (st 34 34 136 0 [(0, al .val l), (4, ai v0), (5, ai v1), (6, ai v2)] [] [])
def r19_sum_s6 (l : List Val) (v0 : Int) (v1 : Int) (v2 : Int) (v3 : Int) : S Un := (st 34 34 136 0 [(0, al .val l), (4, ai v0), (5, ai v3), (6, ai v2)] [] [])
def r19_sum_s9 (l : List Val) (v0 : Int) (v3 : Int) (v2 : Int) : S Un := (st 34 34 136 0 [(0, al .val l), (4, ai v0), (5, ai v3), (6, ai v2)] [] [])
def r19_sum_B3 : Code := sub (bodyOf Try.f34) [1, 1, 0, 1, 2, 2]
def r19_sum_L3 : S Un → Option (EX Un) := loopF (N_r19_sum 3) (fun s Q => awf M_r19_sum N_r19_sum r19_sum_B3 s Q)
def r19_sum_B6 : Code := sub (sub (bodyOf Try.f34) [1, 1, 0, 1, 2, 2]) [1, 0, 2, 1, 0, 2, 2]
def r19_sum_L6 : S Un → Option (EX Un) := loopF (N_r19_sum 6) (fun s Q => awf M_r19_sum N_r19_sum r19_sum_B6 s Q)
def r19_sum_B9 : Code := sub (sub (bodyOf Try.f34) [1, 1, 0, 1, 2, 2]) [1, 0, 2, 1, 1, 2, 2]
def r19_sum_L9 : S Un → Option (EX Un) := loopF (N_r19_sum 9) (fun s Q => awf M_r19_sum N_r19_sum r19_sum_B9 s Q)
def r19_sum_C3 : Exit → S Un → Option (RF Un) := ctxF M_r19_sum N_r19_sum (bodyOf Try.f34) [1, 1, 0, 1, 2] (retF M_r19_sum Try.f34.results.toList [.d, .d])
def r19_sum_C6 : Exit → S Un → Option (EX Un) := ctxF M_r19_sum N_r19_sum r19_sum_B3 [1, 0, 2, 1, 0, 2] (roundF (N_r19_sum 3) r19_sum_L3)
def r19_sum_C9 : Exit → S Un → Option (EX Un) := ctxF M_r19_sum N_r19_sum r19_sum_B3 [1, 0, 2, 1, 1, 2] (roundF (N_r19_sum 3) r19_sum_L3)
def r19_sum_fn (l : List Val) : Option (RF Un) := awf M_r19_sum N_r19_sum (bodyOf Try.f34) (entry Try.f34.ntmps 0 [.d (.v (.dat (U := Un) Ty.val l))]) (retF M_r19_sum Try.f34.results.toList [.d, .d])
theorem r19_sum_in (l : List Val) : r19_sum_fn l =
 (r19_sum_L3 (r19_sum_s3 l (0 : Int) (0 : Int) (0 : Int))).bind (thenX r19_sum_C3) := by kernel_rfl
theorem r19_sum_l3 (l : List Val) (v0 : Int) (v1 : Int) (v2 : Int) : r19_sum_L3 (r19_sum_s3 l v0 v1 v2) =
 cndO (decide (v2 < (↑l.length : Int)))
  (obO (0 ≤ v2 ∧ v2 < (↑l.length : Int))
   ((r19_sum_L6 (r19_sum_s6 l v0 default v2 (IntKind.i64.wrap (v1 + (l.getD v2.toNat zeroVal).n)))).bind (thenX r19_sum_C6)))
  (some (.exit 0, (r19_sum_s3 l v0 v1 v2))) := (loopF_eq (N_r19_sum 3) r19_sum_B3 _).trans (by kernel_rfl)
theorem r19_sum_a3_x0 (l : List Val) (v0 : Int) (v1 : Int) (v2 : Int) : r19_sum_C3 (.exit 0) (r19_sum_s3 l v0 v1 v2) =
 some (R_r19_sum (v0, v1)) := by kernel_rfl
theorem r19_sum_l6 (l : List Val) (v0 : Int) (v1 : Int) (v2 : Int) (v3 : Int) : r19_sum_L6 (r19_sum_s6 l v0 v1 v2 v3) =
 cndO (decide (v3 < 0))
  (r19_sum_L6 (r19_sum_s6 l (IntKind.i64.wrap (v0 - 1)) default v2 (IntKind.i64.wrap (v3 + 1000000000000000))))
  (some (.exit 2, (r19_sum_s6 l v0 default v2 v3))) := (loopF_eq (N_r19_sum 6) r19_sum_B6 _).trans (by kernel_rfl)
theorem r19_sum_a6_x2 (l : List Val) (v0 : Int) (v1 : Int) (v2 : Int) (v3 : Int) : r19_sum_C6 (.exit 2) (r19_sum_s6 l v0 v1 v2 v3) =
 (r19_sum_L9 (r19_sum_s9 l v0 v3 v2)).bind (thenX r19_sum_C9) := by kernel_rfl
theorem r19_sum_l9 (l : List Val) (v0 : Int) (v3 : Int) (v2 : Int) : r19_sum_L9 (r19_sum_s9 l v0 v3 v2) =
 cndO (decide (v3 ≥ 1000000000000000))
  (r19_sum_L9 (r19_sum_s9 l (IntKind.i64.wrap (v0 + 1)) (IntKind.i64.wrap (v3 - 1000000000000000)) v2))
  (some (.exit 4, (r19_sum_s9 l v0 v3 v2))) := (loopF_eq (N_r19_sum 9) r19_sum_B9 _).trans (by kernel_rfl)
theorem r19_sum_a9_x4 (l : List Val) (v0 : Int) (v3 : Int) (v2 : Int) : r19_sum_C9 (.exit 4) (r19_sum_s9 l v0 v3 v2) =
 r19_sum_L3 (r19_sum_s3 l v0 v3 (IntKind.i64.wrap (v2 + 1))) := by kernel_rfl

/-- Numbers within the bounds. -/
def sumOK (l : List Val) : Prop := l.length ≤ 1000000 ∧ ∀ v ∈ l, -bigM ≤ v.n ∧ v.n ≤ bigM
def r19_sum (l : List Val) : Int × Int := (sumZ l / bigM, sumZ l % bigM)
def sumStep (s : Int × Int) (v : Val) : Int × Int := (s.1 + (s.2 + v.n) / bigM, (s.2 + v.n) % bigM)
theorem sumStep_eq : ∀ (l : List Val) (s : Int × Int), l.foldl sumStep s = (s.1 + (s.2 + sumZ l) / bigM - s.2 / bigM, (s.2 + sumZ l) % bigM) ∨ ¬ (0 ≤ s.2 ∧ s.2 < bigM) := by
  intro l
  induction l with
  | nil =>
    intro s
    by_cases h : 0 ≤ s.2 ∧ s.2 < bigM
    · refine .inl ?_
      have e : sumZ [] = 0 := rfl
      have hb : bigM = 1000000000000000 := rfl
      rw [e, List.foldl_nil]
      obtain ⟨a, b⟩ := s
      rw [hb] at h ⊢
      simp only [Prod.mk.injEq] at h ⊢
      omega
    · exact .inr h
  | cons v l ih =>
    intro s
    by_cases h : 0 ≤ s.2 ∧ s.2 < bigM
    · refine .inl ?_
      have hb : bigM = 1000000000000000 := rfl
      have e : sumZ (v :: l) = v.n + sumZ l := rfl
      rw [List.foldl_cons, e]
      rcases ih (sumStep s v) with g | g
      · rw [g]
        unfold sumStep
        obtain ⟨a, b⟩ := s
        rw [hb] at h ⊢
        simp only [Prod.mk.injEq] at h ⊢
        omega
      · exfalso; apply g; unfold sumStep; rw [hb]; simp only; omega
    · exact .inr h
theorem r19_sum_spec (l : List Val) (_hl : WL .val l) (h : sumOK l) : r19_sum_fn l = some (R_r19_sum (r19_sum l)) := by
  obtain ⟨h1, h2⟩ := h
  have hb : bigM = 1000000000000000 := rfl
  obtain ⟨hl, _⟩ := loop_fold (e := .exit 0) (L := r19_sum_L3) (st := fun (s : Int × Int) i => r19_sum_s3 l s.1 s.2 i) (l := l) (d := zeroVal) (g := sumStep) (fun i s => (-(i : Int) ≤ s.1 ∧ s.1 ≤ i) ∧ 0 ≤ s.2 ∧ s.2 < bigM) (by omega)
    (fun s i v hi hv hI => by
      obtain ⟨p, q⟩ := s
      simp only at hI ⊢
      have hv2 := h2 v (by
        have : i < l.length := by omega
        rw [← hv, List.getD_eq_getElem?_getD, List.getElem?_eq_getElem this]; exact List.getElem_mem this)
      rw [hb] at hI hv2
      unfold sumStep
      rw [hb]
      refine ⟨by simp only; omega, ?_⟩
      rw [r19_sum_l3]
      simp only [cndO_eq, hi, decide_true, if_true, and_true, Int.toNat_natCast, hv]
      rw [obO_pos (by omega), wrap_id (n := q + v.n) (by omega)]
      have k9 : ∀ (p0 x : Int), (-2000000 ≤ p0 ∧ p0 ≤ 2000000) → 0 ≤ x → x < 2000000000000000 → r19_sum_L9 (r19_sum_s9 l p0 x i) = some (.exit 4, r19_sum_s9 l (p0 + x / 1000000000000000) (x % 1000000000000000) i) := by
        intro p0 x hp hx0 hx1
        rw [r19_sum_l9, cndO_eq]
        by_cases hx : x ≥ 1000000000000000
        · rw [if_pos (by simpa using hx), wrap_id (n := p0 + 1) (by omega), wrap_id (n := x - 1000000000000000) (by omega), r19_sum_l9, cndO_eq, if_neg (by simp; omega)]
          have e1 : p0 + 1 = p0 + x / 1000000000000000 := by omega
          have e2 : x - 1000000000000000 = x % 1000000000000000 := by omega
          rw [e1, e2]
        · rw [if_neg (by simpa using hx)]
          have e1 : p0 = p0 + x / 1000000000000000 := by omega
          have e2 : x = x % 1000000000000000 := by omega
          rw [← e1, ← e2]
      have k6 : ∀ (p0 x : Int), (-1000001 ≤ p0 ∧ p0 ≤ 1000001) → -1000000000000000 ≤ x → x < 2000000000000000 → (r19_sum_L6 (r19_sum_s6 l p0 default i x)).bind (thenX r19_sum_C6) = r19_sum_L3 (r19_sum_s3 l (p0 + x / 1000000000000000) (x % 1000000000000000) (IntKind.i64.wrap ((i : Int) + 1))) := by
        intro p0 x hp hx0 hx1
        by_cases hx : x < 0
        · have e : r19_sum_L6 (r19_sum_s6 l p0 default i x) = some (.exit 2, r19_sum_s6 l (p0 - 1) default i (x + 1000000000000000)) := by
            rw [r19_sum_l6, cndO_eq, if_pos (by simpa using hx), wrap_id (n := p0 - 1) (by omega), wrap_id (n := x + 1000000000000000) (by omega), r19_sum_l6, cndO_eq, if_neg (by simp; omega)]
          rw [loop_end e, r19_sum_a6_x2, loop_end (k9 _ _ (by omega) (by omega) (by omega)), r19_sum_a9_x4]
          have e1 : p0 - 1 + (x + 1000000000000000) / 1000000000000000 = p0 + x / 1000000000000000 := by omega
          have e2 : (x + 1000000000000000) % 1000000000000000 = x % 1000000000000000 := by omega
          rw [e1, e2]
        · have e : r19_sum_L6 (r19_sum_s6 l p0 default i x) = some (.exit 2, r19_sum_s6 l p0 default i x) := by
            rw [r19_sum_l6, cndO_eq, if_neg (by simpa using hx)]
          rw [loop_end e, r19_sum_a6_x2, loop_end (k9 _ _ (by omega) (by omega) (by omega)), r19_sum_a9_x4]
      exact k6 p (q + v.n) (by omega) (by omega) (by omega))
    (fun s _ => by rw [r19_sum_l3]; simp [cndO_eq]) (0, 0) ⟨by simp, by show (0 : Int) ≤ 0 ∧ (0 : Int) < bigM; decide⟩
  rw [r19_sum_in, loop_end hl, r19_sum_a3_x0]
  unfold r19_sum
  rcases sumStep_eq l (0, 0) with g | g
  · rw [g, hb]; simp
  · exact (g (by show (0 : Int) ≤ 0 ∧ (0 : Int) < bigM; decide)).elim

def F_r19_sum : FnC Un := fun args => match args with
  | [x0] => (dL .val x0).bind fun l => some ([sumOK l], A_r19_sum (r19_sum l), O_r19_sum (r19_sum l))
  | _ => none

theorem ok_r19_sum : FnOK 34 F_r19_sum := by
  intro args ob rs os h hob
  unfold F_r19_sum at h
  split at h
  · simp only [Option.bind_eq_some_iff, Option.some.injEq, Prod.mk.injEq] at h
    obtain ⟨l, e0, rfl, rfl, rfl⟩ := h
    obtain rfl := dL_eq e0
    exact ⟨fn_contractF (M := M_r19_sum) rfl (tbl_ok (l1 := []) (l2 := []) (l3 := []) (l4 := []) (l5 := []) trivial trivial trivial trivial trivial) Try.func34 (by kernel_rfl) N_r19_sum 0 [.d, .d] (fun hwf => (r19_sum_spec l (wfArg hwf (a := .d (.v (.dat (U := Un) Ty.val l))) (List.mem_of_getElem? (i := 0) rfl)) (hob _ (List.mem_of_getElem? (i := 0) rfl)))), hasBody_of Try.func34 (by kernel_rfl) (by kernel_rfl)⟩
  · simp at h


/-! ### tabellionref19.total -/
def M_r19_total : Mc Un := mach (tbl [(34, F_r19_sum), (35, F_r02_In), (18, F_r03_Num)]) (tbl []) (tbl []) (tbl []) (tbl [])
def A_r19_total (r : Val) : List (A Un) := [.agg (encC Ty.val r)]
def O_r19_total (_r : Val) : List (Ob Un) := []
def R_r19_total (r : Val) : RF Un := (A_r19_total r, O_r19_total r)
def N_r19_total : Nat → NS := fun l => (look l []).getD ⟨[], [], [], [], []⟩
def r19_total_fn (l : List Val) : Option (RF Un) := awf M_r19_total N_r19_total (bodyOf Try.f19) (entry Try.f19.ntmps 0 [.d (.v (.dat (U := Un) Ty.val l))]) (retF M_r19_total Try.f19.results.toList [.d])
theorem r19_total_in (l : List Val) : r19_total_fn l =
 obO (sumOK l)
  (cndO (decide ((r19_sum l).fst < (-2 : Int)))
   (some (R_r19_total (zeroVal)))
   (cndO (decide ((r19_sum l).fst > 1))
    (some (R_r19_total (zeroVal)))
    (cndO (!r02_In (IntKind.i64.wrap (IntKind.i64.wrap ((r19_sum l).fst * 1000000000000000) + (r19_sum l).snd)))
     (some (R_r19_total (zeroVal)))
     (some (R_r19_total (r03_Num (IntKind.i64.wrap (IntKind.i64.wrap ((r19_sum l).fst * 1000000000000000) + (r19_sum l).snd)))))))) := by kernel_rfl

def r19_total (l : List Val) : Val := totV (sumZ l)
theorem r19_total_spec (l : List Val) (_hl : WL .val l) (h : sumOK l) : r19_total_fn l = some (R_r19_total (r19_total l)) := by
  have hb : bigM = 1000000000000000 := rfl
  have hz := sumZ_bound h.2
  have hl := h.1
  rw [hb] at hz
  rw [r19_total_in, obO_pos h]
  unfold r19_total r19_sum totV
  simp only [hb, cndO_eq, decide_eq_true_eq, r02_In_spec, r03_Num_val]
  generalize sumZ l = n at *
  have hw : IntKind.i64.wrap (IntKind.i64.wrap (n / 1000000000000000 * 1000000000000000) + n % 1000000000000000) = n ∨ (n / 1000000000000000 < -2 ∨ n / 1000000000000000 > 1) := by
    by_cases h1 : n / 1000000000000000 < -2
    · exact .inr (.inl h1)
    · by_cases h2 : n / 1000000000000000 > 1
      · exact .inr (.inr h2)
      · refine .inl ?_
        rw [wrap_id (n := n / 1000000000000000 * 1000000000000000) (by omega), wrap_id (by omega)]; omega
  by_cases h1 : n / 1000000000000000 < -2
  · rw [if_pos h1, if_neg (by unfold inN; simp; omega)]
  · by_cases h2 : n / 1000000000000000 > 1
    · rw [if_neg h1, if_pos h2, if_neg (by unfold inN; simp; omega)]
    · rw [if_neg h1, if_neg h2]
      rcases hw with hw | hw | hw
      · rw [hw]; cases inN n <;> simp
      · exact (h1 hw).elim
      · exact (h2 hw).elim

def F_r19_total : FnC Un := fun args => match args with
  | [x0] => (dL .val x0).bind fun l => some ([sumOK l], A_r19_total (r19_total l), O_r19_total (r19_total l))
  | _ => none

theorem ok_r19_total : FnOK 19 F_r19_total := by
  intro args ob rs os h hob
  unfold F_r19_total at h
  split at h
  · simp only [Option.bind_eq_some_iff, Option.some.injEq, Prod.mk.injEq] at h
    obtain ⟨l, e0, rfl, rfl, rfl⟩ := h
    obtain rfl := dL_eq e0
    exact ⟨fn_contractF (M := M_r19_total) rfl (tbl_ok (l1 := [(34, F_r19_sum), (35, F_r02_In), (18, F_r03_Num)]) (l2 := []) (l3 := []) (l4 := []) (l5 := []) ⟨ok_r19_sum, ok_r02_In, ok_r03_Num, trivial⟩ trivial trivial trivial trivial) Try.func19 (by kernel_rfl) N_r19_total 0 [.d] (fun hwf => (r19_total_spec l (wfArg hwf (a := .d (.v (.dat (U := Un) Ty.val l))) (List.mem_of_getElem? (i := 0) rfl)) (hob _ (List.mem_of_getElem? (i := 0) rfl)))), hasBody_of Try.func19 (by kernel_rfl) (by kernel_rfl)⟩
  · simp at h


/-! ### tabellionref19.Run -/
def M_r19_Run : Mc Un := mach (tbl [(17, F_r19_counted), (18, F_r03_Num), (19, F_r19_total), (20, F_r03_Order)]) (tbl []) (tbl []) (tbl []) (tbl [])
def A_r19_Run (r : Val) : List (A Un) := [.agg (encC Ty.val r)]
def O_r19_Run (_r : Val) : List (Ob Un) := []
def R_r19_Run (r : Val) : RF Un := (A_r19_Run r, O_r19_Run r)
def N_r19_Run : Nat → NS := fun l => (look l [(12, { ts := bl 72 244, bs := bl 72 84, nm := [], gb := [6] })]).getD ⟨[], [], [], [], []⟩
def r19_Run_s12 (a : Agg) (l : List Val) (b6 : Val) (v0 : Int) : S Un := (st 72 72 288 0 [(2, ax 2), (4, ax 4), (5, al .val (r19_counted (Agg.ids a) l)), (6, ax 6), (7, ai v0)] [(2, bg .agg a), (4, bg .val zeroVal), (6, bg .val b6)] [])
def r19_Run_B12 : Code := sub (bodyOf Try.f8) [1, 1, 1, 1, 1, 1, 1, 0, 1, 2, 2]
def r19_Run_L12 : S Un → Option (EX Un) := loopF (N_r19_Run 12) (fun s Q => awf M_r19_Run N_r19_Run r19_Run_B12 s Q)
def r19_Run_C12 : Exit → S Un → Option (RF Un) := ctxF M_r19_Run N_r19_Run (bodyOf Try.f8) [1, 1, 1, 1, 1, 1, 1, 0, 1, 2] (retF M_r19_Run Try.f8.results.toList [.d])
def r19_Run_fn (a : Agg) (l : List Val) : Option (RF Un) := awf M_r19_Run N_r19_Run (bodyOf Try.f8) (entry Try.f8.ntmps 0 [.d (.agg (enc Ty.agg a)), .d (.v (.dat (U := Un) Ty.val l))]) (retF M_r19_Run Try.f8.results.toList [.d])
def r19_Run_t1 (a : Agg) (l : List Val) : Option (RF Un) :=
 obO ((0 : Int) ≤ (0 : Int) ∧ (0 : Int) < (↑(r19_counted (Agg.ids a) l).length : Int))
  ((r19_Run_L12 (r19_Run_s12 a l ((r19_counted (Agg.ids a) l).getD 0 zeroVal) (0 : Int))).bind (thenX r19_Run_C12))
theorem r19_Run_in (a : Agg) (l : List Val) : r19_Run_fn a l =
 obO (l.length ≤ (1000000 : Nat))
  (cndO (a.name.toList == (ByteArray.mk #[99, 111, 117, 110, 116]).toList)
   (some (R_r19_Run (r03_Num (↑(r19_counted (Agg.ids a) l).length : Int))))
   (cndO ((↑(r19_counted (Agg.ids a) l).length : Int) == (0 : Int))
    (some (R_r19_Run (zeroVal)))
    (cndO (a.name.toList == (ByteArray.mk #[115, 117, 109]).toList)
     (obO (sumOK (r19_counted (Agg.ids a) l))
      (some (R_r19_Run (r19_total (r19_counted (Agg.ids a) l)))))
     (cndO (!a.name.toList == (ByteArray.mk #[109, 105, 110]).toList)
      (cndO (!a.name.toList == (ByteArray.mk #[109, 97, 120]).toList)
       (some (R_r19_Run (zeroVal)))
       (r19_Run_t1 a l))
      (r19_Run_t1 a l))))) := by kernel_rfl
def r19_Run_t2 (a : Agg) (l : List Val) (v0 : Int) : Option (EX Un) :=
 obO (0 ≤ v0 ∧ v0 < (↑(r19_counted (Agg.ids a) l).length : Int))
  (r19_Run_L12 (r19_Run_s12 a l ((r19_counted (Agg.ids a) l).getD v0.toNat zeroVal) (IntKind.i64.wrap (v0 + 1))))
def r19_Run_t3 (a : Agg) (l : List Val) (b6 : Val) (v0 : Int) : Option (EX Un) :=
 cndO (a.name.toList == (ByteArray.mk #[109, 97, 120]).toList)
  (cndO (decide (r03_Order ((r19_counted (Agg.ids a) l).getD v0.toNat zeroVal) b6 > 0))
   (r19_Run_t2 a l v0)
   (r19_Run_L12 (r19_Run_s12 a l b6 (IntKind.i64.wrap (v0 + 1)))))
  (r19_Run_L12 (r19_Run_s12 a l b6 (IntKind.i64.wrap (v0 + 1))))
theorem r19_Run_l12 (a : Agg) (l : List Val) (b6 : Val) (v0 : Int) : r19_Run_L12 (r19_Run_s12 a l b6 v0) =
 cndO (decide (v0 < (↑(r19_counted (Agg.ids a) l).length : Int)))
  (obO (0 ≤ v0 ∧ v0 < (↑(r19_counted (Agg.ids a) l).length : Int))
   (cndO (a.name.toList == (ByteArray.mk #[109, 105, 110]).toList)
    (cndO (decide (r03_Order ((r19_counted (Agg.ids a) l).getD v0.toNat zeroVal) b6 < 0))
     (r19_Run_t2 a l v0)
     (r19_Run_t3 a l b6 v0))
    (r19_Run_t3 a l b6 v0)))
  (some (.exit 0, (r19_Run_s12 a l b6 v0))) := (loopF_eq (N_r19_Run 12) r19_Run_B12 _).trans (by kernel_rfl)
theorem r19_Run_a12_x0 (a : Agg) (l : List Val) (b6 : Val) (v0 : Int) : r19_Run_C12 (.exit 0) (r19_Run_s12 a l b6 v0) =
 some (R_r19_Run (b6)) := by kernel_rfl

def r19_Run (a : Agg) (l : List Val) : Val := runA a l
@[simp] theorem r19_Run_eq (a : Agg) (l : List Val) : r19_Run a l = runA a l := by unfold r19_Run; rfl
open Classical in
theorem cnt_fold (a : Agg) : ∀ (l out : List Val), l.foldl (cntStep a) out = if a.distinct = true then (l.filter (cntV a.name)).foldl addU out else out ++ l.filter (cntV a.name) := by
  intro l
  induction l with
  | nil => intro out; split <;> simp
  | cons v l ih =>
    intro out
    rw [List.foldl_cons, ih]
    unfold cntStep
    by_cases h1 : cntV a.name v = true
    · rw [List.filter_cons_of_pos h1]
      by_cases hd : a.distinct = true
      · rw [if_pos hd, if_pos hd, List.foldl_cons]
        unfold addU
        by_cases hm : v ∈ out
        · rw [if_neg (fun h => h.2 hd hm), if_pos hm]
        · rw [if_pos ⟨h1, fun _ => hm⟩, if_neg hm]
      · rw [if_neg hd, if_neg hd, if_pos ⟨h1, fun h => (hd h).elim⟩]; simp
    · rw [List.filter_cons_of_neg h1, if_neg (show ¬ (cntV a.name v = true ∧ (a.distinct = true → ¬ v ∈ out)) from fun h => h1 h.1)]
theorem cntd_eq {a : Agg} (h : rowsA a = false) (l : List Val) : cntd a l = if a.distinct = true then dedupV (l.filter (cntV a.name)) else l.filter (cntV a.name) := by
  unfold cntd
  rw [if_neg (by rw [h]; simp), cnt_fold]
  split <;> simp [dedupV]
theorem cntd_rows {a : Agg} (h : rowsA a = true) (l : List Val) : cntd a l = l := by unfold cntd; rw [if_pos h]
theorem rowsA_not {a : Agg} (h : a.name ≠ nmCount) : rowsA a = false := by unfold rowsA; exact decide_eq_false (fun e => h e.1)
theorem gotA_of {a : Agg} {nm : ByteArray} (h : (startA a).name = nm) (hr : nm ≠ nmRows) (l : List Val) : gotA a l = l.filter (cntV nm) := by
  unfold gotA
  congr 1
  funext v
  unfold countsA
  rw [h, decide_eq_false hr, Bool.false_or]
/-- What runA is, by the counted values. -/
theorem runA_named {a : Agg} (h : (startA a).name = a.name) (hd : (startA a).distinct = a.distinct) (hr : a.name ≠ nmRows) (hro : rowsA a = false) (l : List Val) : runA a l = tellV a.name (cntd a l) := by
  rw [runA_eq, gotA_of h hr, cntd_eq hro]
  unfold tellA
  rw [h, hd]
theorem start_named {a : Agg} (h : a.name = nmSum ∨ a.name = nmMin ∨ a.name = nmMax ∨ (a.name = nmCount ∧ a.t ≠ [])) : (startA a).name = a.name ∧ (startA a).distinct = a.distinct ∧ a.name ≠ nmRows ∧ rowsA a = false := by
  have n := nm_ne
  unfold startA
  rcases h with h | h | h | ⟨h, ht⟩
  · refine ⟨?_, ?_, by rw [h]; exact n.2.2.2.2.2.2.1, rowsA_not (by rw [h]; exact Ne.symm n.1)⟩ <;> rw [if_neg (by rw [h]; exact Ne.symm n.1), if_pos (.inl h)]
  · refine ⟨?_, ?_, by rw [h]; exact n.2.2.2.2.2.2.2.2.1, rowsA_not (by rw [h]; exact Ne.symm n.2.1)⟩ <;> rw [if_neg (by rw [h]; exact Ne.symm n.2.1), if_pos (.inr (.inl h))]
  · refine ⟨?_, ?_, by rw [h]; exact n.2.2.2.2.2.2.2.2.2.1, rowsA_not (by rw [h]; exact Ne.symm n.2.2.1)⟩ <;> rw [if_neg (by rw [h]; exact Ne.symm n.2.2.1), if_pos (.inr (.inr h))]
  · refine ⟨?_, ?_, by rw [h]; exact n.2.2.2.1, by unfold rowsA; exact decide_eq_false (fun e => ht e.2)⟩ <;> rw [if_pos h, if_neg ht]
theorem start_rows {a : Agg} (h : a.name = nmCount) (ht : a.t = []) (l : List Val) : runA a l = numV l.length := by
  rw [runA_eq]
  have e : (startA a).name = nmRows ∧ (startA a).distinct = false := by unfold startA; rw [if_pos h, if_pos ht]; exact ⟨rfl, rfl⟩
  have g : gotA a l = l := by
    unfold gotA
    rw [List.filter_eq_self]
    intro v _
    unfold countsA
    rw [e.1, decide_eq_true rfl, Bool.true_or]
  unfold tellA
  rw [g, e.1, e.2]
  simp [tellV]
theorem start_none {a : Agg} (h1 : a.name ≠ nmCount) (h2 : a.name ≠ nmSum) (h3 : a.name ≠ nmMin) (h4 : a.name ≠ nmMax) (l : List Val) : runA a l = zeroVal := by
  have n := nm_ne
  rw [runA_eq]
  have e : (startA a).name = nmNone := by unfold startA; rw [if_neg h1, if_neg (by rintro (h | h | h); exact h2 h; exact h3 h; exact h4 h)]
  unfold tellA tellV
  rw [e]
  generalize (if (startA a).distinct = true then dedupV (gotA a l) else gotA a l) = c
  rw [if_neg (by rintro (h | h); exact n.2.2.2.2.2.2.2.2.2.2.1 h; exact n.2.2.2.2.2.2.2.2.2.2.2.2.2.2 h)]
  split
  · rfl
  · rw [if_neg n.2.2.2.2.2.2.2.2.2.2.2.1, if_neg n.2.2.2.2.2.2.2.2.2.2.2.2.1, if_neg n.2.2.2.2.2.2.2.2.2.2.2.2.2.1]
theorem cntd_len (a : Agg) (l : List Val) : (cntd a l).length ≤ l.length := by
  cases h : rowsA a with
  | true => rw [cntd_rows h]; exact Nat.le_refl _
  | false =>
    rw [cntd_eq h]
    have := List.length_filter_le (cntV a.name) l
    split
    · have := dedupV_len (l.filter (cntV a.name)); omega
    · exact this
theorem cntd_cnt {a : Agg} (h : rowsA a = false) (l : List Val) : ∀ v ∈ cntd a l, cntV a.name v = true := by
  intro v hv
  rw [cntd_eq h] at hv
  split at hv
  · rw [dedupV_mem] at hv; exact (List.mem_filter.1 hv).2
  · exact (List.mem_filter.1 hv).2
theorem r19_best (a : Agg) (l : List Val) (g : Val → Val → Val) (hn : (cntd a l).length ≤ 1000000) (hg : (a.name = nmMin ∧ g = fun b v => if ordV v b < 0 then v else b) ∨ (a.name = nmMax ∧ g = fun b v => if ordV v b > 0 then v else b)) (b0 : Val) :
    (r19_Run_L12 (r19_Run_s12 a l b0 (0 : Int))).bind (thenX r19_Run_C12) = some (R_r19_Run ((cntd a l).foldl g b0)) := by
  have hmm : ¬ nmMin = nmMax := nm_ne.2.2.2.2.2.2.2.1
  obtain ⟨hl, _⟩ := loop_fold (e := .exit 0) (L := r19_Run_L12) (st := fun b i => r19_Run_s12 a l b i) (l := cntd a l) (d := zeroVal) (g := g) (fun _ _ => True) (by omega)
    (fun b i v hi hv _ => ⟨trivial, by
      rw [r19_Run_l12]
      simp only [r19_Run_t2, r19_Run_t3, Agg.ids_eq, r19_counted_eq, cndO_eq, hi, decide_true, if_true, and_true, Int.toNat_natCast, hv, nm_min, nm_max, name_beq, r03_Order_eq, decide_eq_true_eq]
      rw [obO_pos (by omega)]
      rcases hg with ⟨hm, rfl⟩ | ⟨hm, rfl⟩
      · rw [if_pos hm]
        by_cases ho : ordV v b < 0
        · rw [if_pos ho]; simp only [if_pos ho]
          exact obO_pos (by omega)
        · rw [if_neg ho, if_neg (by rw [hm]; exact hmm)]; simp only [if_neg ho]
      · rw [if_neg (by rw [hm]; exact Ne.symm hmm), if_pos hm]
        by_cases ho : ordV v b > 0
        · rw [if_pos ho]; simp only [if_pos ho]
          exact obO_pos (by omega)
        · rw [if_neg ho]; simp only [if_neg ho]⟩)
    (fun b _ => by rw [r19_Run_l12]; simp [cndO_eq, Agg.ids_eq]) b0 trivial
  rw [loop_end hl, r19_Run_a12_x0]
theorem r19_Run_spec (a : Agg) (l : List Val) (_ha : WS .agg a) (_hl : WL .val l) (h : l.length ≤ 1000000) : r19_Run_fn a l = some (R_r19_Run (r19_Run a l)) := by
  have n := nm_ne
  have hcl := cntd_len a l
  rw [r19_Run_in]
  unfold r19_Run r19_Run_t1
  simp only [obO_pos h, Agg.ids_eq, r19_counted_eq, cndO_eq, nm_count, nm_sum, nm_min, nm_max, name_beq, decide_eq_true_eq, r03_Num_val, beq_iff_eq, Bool.not_eq_true', decide_eq_false_iff_not]
  by_cases h1 : a.name = nmCount
  · rw [if_pos h1]
    by_cases ht : a.t = []
    · rw [start_rows h1 ht, cntd_rows (by unfold rowsA; exact decide_eq_true ⟨h1, ht⟩)]
    · obtain ⟨e1, e2, e3, e4⟩ := start_named (a := a) (.inr (.inr (.inr ⟨h1, ht⟩)))
      rw [runA_named e1 e2 e3 e4]
      unfold tellV
      rw [if_pos (.inl h1)]
  · rw [if_neg h1]
    have hro := rowsA_not h1
    have hcount : ∀ nm, a.name = nm → nm ≠ nmRows → ¬ (a.name = nmCount ∨ a.name = nmRows) := fun nm e1 e2 => by
      rintro (h | h)
      · exact h1 h
      · exact e2 (e1.symm.trans h)
    by_cases hs : a.name = nmSum
    · obtain ⟨e1, e2, e3, e4⟩ := start_named (a := a) (.inl hs)
      rw [runA_named e1 e2 e3 e4]
      unfold tellV
      rw [if_neg (hcount _ hs n.2.2.2.2.2.2.1)]
      by_cases hc : cntd a l = []
      · rw [if_pos (by rw [hc]; rfl), if_pos hc]
      · rw [if_neg (fun e => hc (List.eq_nil_of_length_eq_zero (by omega))), if_neg hc, if_pos hs, if_pos hs]
        exact obO_pos ⟨by omega, fun v hv => by have := cntd_cnt hro l v hv; rw [hs] at this; exact cntV_sum this⟩
    · by_cases hm : a.name = nmMin
      · obtain ⟨e1, e2, e3, e4⟩ := start_named (a := a) (.inr (.inl hm))
        rw [runA_named e1 e2 e3 e4]
        unfold tellV
        rw [if_neg (hcount _ hm n.2.2.2.2.2.2.2.2.1)]
        by_cases hc : cntd a l = []
        · rw [if_pos (by rw [hc]; rfl), if_pos hc]
        · have hpos : 0 < (cntd a l).length := List.length_pos_iff.2 hc
          rw [if_neg (fun e => hc (List.eq_nil_of_length_eq_zero (by omega))), if_neg hc, if_neg hs, if_neg hs, if_neg (fun h => h hm), if_pos hm, obO_pos (by omega), r19_best a l _ (by omega) (.inl ⟨hm, rfl⟩)]
          unfold minFrom
          cases hcc : cntd a l with
          | nil => exact (hc hcc).elim
          | cons v r => rfl
      · by_cases hx : a.name = nmMax
        · obtain ⟨e1, e2, e3, e4⟩ := start_named (a := a) (.inr (.inr (.inl hx)))
          rw [runA_named e1 e2 e3 e4]
          unfold tellV
          rw [if_neg (hcount _ hx n.2.2.2.2.2.2.2.2.2.1)]
          by_cases hc : cntd a l = []
          · rw [if_pos (by rw [hc]; rfl), if_pos hc]
          · have hpos : 0 < (cntd a l).length := List.length_pos_iff.2 hc
            rw [if_neg (fun e => hc (List.eq_nil_of_length_eq_zero (by omega))), if_neg hc, if_neg hs, if_neg hs, if_pos hm, if_neg (fun h => h hx), if_neg hm, if_pos hx, obO_pos (by omega), r19_best a l _ (by omega) (.inr ⟨hx, rfl⟩)]
            unfold maxFrom
            cases hcc : cntd a l with
            | nil => exact (hc hcc).elim
            | cons v r => rfl
        · rw [start_none h1 hs hm hx]
          by_cases hc : ((cntd a l).length : Int) = 0
          · rw [if_pos hc]
          · rw [if_neg hc, if_neg hs, if_pos hm, if_pos hx]

def F_r19_Run : FnC Un := fun args => match args with
  | [x0, x1] => (dS .agg x0).bind fun a => (dL .val x1).bind fun l => some ([l.length ≤ 1000000], A_r19_Run (r19_Run a l), O_r19_Run (r19_Run a l))
  | _ => none

theorem ok_r19_Run : FnOK 8 F_r19_Run := by
  intro args ob rs os h hob
  unfold F_r19_Run at h
  split at h
  · simp only [Option.bind_eq_some_iff, Option.some.injEq, Prod.mk.injEq] at h
    obtain ⟨a, e0, l, e1, rfl, rfl, rfl⟩ := h
    obtain rfl := dS_eq e0
    obtain rfl := dL_eq e1
    exact ⟨fn_contractF (M := M_r19_Run) rfl (tbl_ok (l1 := [(17, F_r19_counted), (18, F_r03_Num), (19, F_r19_total), (20, F_r03_Order)]) (l2 := []) (l3 := []) (l4 := []) (l5 := []) ⟨ok_r19_counted, ok_r03_Num, ok_r19_total, ok_r03_Order, trivial⟩ trivial trivial trivial trivial) Try.func8 (by kernel_rfl) N_r19_Run 0 [.d] (fun hwf => (r19_Run_spec a l (wfArg hwf (a := .d (.agg (enc Ty.agg a))) (List.mem_of_getElem? (i := 0) rfl)) (wfArg hwf (a := .d (.v (.dat (U := Un) Ty.val l))) (List.mem_of_getElem? (i := 1) rfl)) (hob _ (List.mem_of_getElem? (i := 0) rfl)))), hasBody_of Try.func8 (by kernel_rfl) (by kernel_rfl)⟩
  · simp at h


end
end Go.Proofs.Ytpaelnkffpmfaaa.B
