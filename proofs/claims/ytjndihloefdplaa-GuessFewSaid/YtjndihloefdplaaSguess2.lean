/- Functions: guess2. (Printed by wip/tools/mkfn.py out of wip/src/guess2.src.) -/
import Derived.Test.YtjndihloefdplaaBLib
import Derived.Test.YtjndihloefdplaaSspec
import Derived.Test.YtjndihloefdplaaSlcmp
import Derived.Test.YtjndihloefdplaaSvcmp
import Derived.Test.YtjndihloefdplaaSbits
import Derived.Test.YtjndihloefdplaaSguess1
namespace Go.Proofs.Ytjndihloefdplaa.B
open Go Go.RowKit
set_option maxRecDepth 100000
noncomputable section
attribute [local irreducible] awp ctxK itersK iterK retQ retGQ

/-- How many ends stand so to a value. -/
def standN (p : Int → Bool) (w : Val) (l : List Val) : Nat := (l.filter fun e => (cmpV e w).2 && p (cmpV e w).1).length
def besideA (all nulls : Int) (p : Int → Bool) (w : Val) (ends : List Val) : Int := if ends = [] then 333333 else by4 (shareA all (max (all - nulls) 0)) (standN p w ends) ends.length 1000000
/-- The column that a term is. -/
def colOf (t : Term) (l : List ColStat) : Option ColStat := if t.op = 2 ∧ t.depth = 0 ∧ 0 ≤ t.at_ ∧ t.at_ < l.length then some (l.getD t.at_.toNat zeroColStat) else none

theorem shareA_range {all n : Int} (h : 0 ≤ n) (ha : 0 ≤ all) : 0 ≤ shareA all n ∧ shareA all n ≤ 1000000 := by
  unfold shareA
  split
  · omega
  · have : 0 ≤ n * 1000000 / all := Int.ediv_nonneg (by omega) ha
    omega
theorem standN_le (p : Int → Bool) (w : Val) (l : List Val) : standN p w l ≤ l.length := List.length_filter_le _ _

/-! ### (guess.column).beside -/
def M_column_beside : Mc Un := mach (tbl [(46, F_value_Compare), (23, F_column_share), (30, F_guess_by)]) (tbl []) (tbl []) (tbl [])
def N_column_beside : Nat → NS := fun l => (look l [(5, { ts := [false, false, true, true, true, false, false, true, false, false, false, false, false, false, false, false, false, false, false, true, true, true, false, false, false, false, false, false, false, false, false, false, false, false, false, false, false, false, false, false, false, false, false, false, false, false, false, false, false, false, false, false, false, false], bs := [false, false, false, true, true, false, false, false, false, false, false, false, false, false, false, false, false, false, false, false, false, false, false, false, false, false, false, false, false, false, false, false, false, false, false, false, false, false, false, false, false, false, false, false, false, false, false, false, false, false, false, false, false, false], nm := [], gb := [], gs := [] })]).getD ⟨[], [], [], [], []⟩
def A_column_beside (r : Int) : List (A Un) := [.c (.s (.int .i64 r))]
def O_column_beside (_r : Int) : List (Ob Un) := []
def column_beside_s5 (c : Column) (w : Val) (p : Int → Bool) (v0 : Int) (v1 : Int) : S Un := (st 54 54 216 0 [(2, AV.one (A.c (C.fv (fv_i_i64_to_b p)))), (3, AV.one (A.c (C.bx (3 : Nat) (0 : Nat)))), (4, AV.one (A.c (C.bx (4 : Nat) (0 : Nat)))), (7, AV.one (A.c (C.s (Value.int IntKind.i64 v0)))), (19, AV.one (A.c (C.sl Ty.val c.c.ends false))), (20, AV.one (A.c (C.s (Value.int IntKind.i64 (↑c.c.ends.length : Int))))), (21, AV.one (A.c (C.s (Value.int IntKind.i64 v1))))] [(3, some (false, encC Ty.column (c))), (4, some (false, encC Ty.val (w)))] [])
theorem column_beside_in (c : Column) (w : Val) (p : Int → Bool) (K : List (A Un) → List (Ob Un) → Prop) :
    awp M_column_beside N_column_beside (bodyOf Try.f35) (entry Try.f35.ntmps 0 [.d (.agg (enc Ty.column c)), .d (.agg (enc Ty.val w)), .fn (fv_i_i64_to_b p)]) (retQ M_column_beside Try.f35.results.toList [.d] K) =
(cnd ((↑c.c.ends.length : Int) == (0 : Int))
 (K (A_column_beside ((333333 : Int))) (O_column_beside ((333333 : Int))))
 (itersK (N_column_beside 5) (awp M_column_beside N_column_beside (sub (bodyOf Try.f35) [1, 1, 1, 0, 1, 2, 2])) (ctxK M_column_beside N_column_beside (bodyOf Try.f35) [1, 1, 1, 0, 1, 2] (retQ M_column_beside Try.f35.results.toList [.d] K)) (column_beside_s5 c w p (0 : Int) (0 : Int)))) := by kernel_rfl
theorem column_beside_l5 (c : Column) (w : Val) (p : Int → Bool) (v0 : Int) (v1 : Int) (k : Nat) (Q : Exit → S Un → Prop) :
    iterK (N_column_beside 5) (awp M_column_beside N_column_beside (sub (bodyOf Try.f35) [1, 1, 1, 0, 1, 2, 2])) Q (k + 1) (column_beside_s5 c w p v0 v1) =
(cnd (decide (v1 < (↑c.c.ends.length : Int)))
 (((0 : Int) ≤ v1 ∧ v1 < (↑c.c.ends.length : Int)) ∧
 (cnd ((value_Compare (c.c.ends.getD v1.toNat zeroVal) w).snd)
  (cnd (p (value_Compare (c.c.ends.getD v1.toNat zeroVal) w).fst)
   (iterK (N_column_beside 5) (awp M_column_beside N_column_beside (sub (bodyOf Try.f35) [1, 1, 1, 0, 1, 2, 2])) Q k (column_beside_s5 c w p (IntKind.i64.wrap (v0 + (1 : Int))) (IntKind.i64.wrap (v1 + (1 : Int)))))
   (iterK (N_column_beside 5) (awp M_column_beside N_column_beside (sub (bodyOf Try.f35) [1, 1, 1, 0, 1, 2, 2])) Q k (column_beside_s5 c w p v0 (IntKind.i64.wrap (v1 + (1 : Int))))))
  (iterK (N_column_beside 5) (awp M_column_beside N_column_beside (sub (bodyOf Try.f35) [1, 1, 1, 0, 1, 2, 2])) Q k (column_beside_s5 c w p v0 (IntKind.i64.wrap (v1 + (1 : Int)))))))
 (Q (.exit 0) (column_beside_s5 c w p v0 v1))) := by kernel_rfl
theorem column_beside_a5_x0 (c : Column) (w : Val) (p : Int → Bool) (v0 : Int) (v1 : Int) (K : List (A Un) → List (Ob Un) → Prop) :
    ctxK M_column_beside N_column_beside (bodyOf Try.f35) [1, 1, 1, 0, 1, 2] (retQ M_column_beside Try.f35.results.toList [.d] K) (.exit 0) (column_beside_s5 c w p v0 v1) =
(((0 : Int) ≤ List.foldl (fun a b => if a < b then b else a) (IntKind.i64.wrap (c.all - c.nulls)) [(0 : Int)] ∧ (0 : Int) ≤ c.all) ∧
(((0 : Int) ≤ column_share c (List.foldl (fun a b => if a < b then b else a) (IntKind.i64.wrap (c.all - c.nulls)) [(0 : Int)]) ∧ (0 : Int) ≤ v0 ∧ (0 : Int) ≤ (↑c.c.ends.length : Int) ∧ (0 : Int) ≤ (1000000 : Int)) ∧
(K (A_column_beside (guess_by (column_share c (List.foldl (fun a b => if a < b then b else a) (IntKind.i64.wrap (c.all - c.nulls)) [(0 : Int)])) v0 (↑c.c.ends.length : Int) (1000000 : Int))) (O_column_beside (guess_by (column_share c (List.foldl (fun a b => if a < b then b else a) (IntKind.i64.wrap (c.all - c.nulls)) [(0 : Int)])) v0 (↑c.c.ends.length : Int) (1000000 : Int)))))) := by kernel_rfl
def column_beside_S5 (c : Column) (w : Val) (p : Int → Bool) (v : Int × Int) : Option ((Int × Int) ⊕ (Int × Int)) :=
  if (decide (v.2 < (↑c.c.ends.length : Int))) = true then
   if (0 : Int) ≤ v.2 ∧ v.2 < (↑c.c.ends.length : Int) then
    if ((value_Compare (c.c.ends.getD v.2.toNat zeroVal) w).snd) = true then
     if (p (value_Compare (c.c.ends.getD v.2.toNat zeroVal) w).fst) = true then
      some (.inl ((IntKind.i64.wrap (v.1 + (1 : Int))), (IntKind.i64.wrap (v.2 + (1 : Int)))))
     else
      some (.inl (v.1, (IntKind.i64.wrap (v.2 + (1 : Int)))))
    else
     some (.inl (v.1, (IntKind.i64.wrap (v.2 + (1 : Int)))))
   else none
  else
   some (.inr (v.1, v.2))
def column_beside_L5 (c : Column) (w : Val) (p : Int → Bool) (v : Int × Int) : Option (Int × Int) := loopO (column_beside_S5 c w p) v
theorem column_beside_L5_eq (c : Column) (w : Val) (p : Int → Bool) (v : Int × Int) : column_beside_L5 c w p v = stepB (column_beside_L5 c w p) (column_beside_S5 c w p v) := loopO_eq _ _
def column_beside_Q5 (c : Column) (w : Val) (p : Int → Bool) (r : Int × Int) (Q : Exit → S Un → Prop) : Prop := Q (.exit 0) (column_beside_s5 c w p r.1 r.2)
theorem column_beside_Q5_x0 {c : Column} {w : Val} {p : Int → Bool} {r : Int × Int} {Q : Exit → S Un → Prop} (h : Q (.exit 0) (column_beside_s5 c w p r.1 r.2)) : column_beside_Q5 c w p r Q := h
theorem column_beside_L5_run {c : Column} {w : Val} {p : Int → Bool} {v : Int × Int} {r : Int × Int} (h : column_beside_L5 c w p v = some r) (Q : Exit → S Un → Prop) (hQ : column_beside_Q5 c w p r Q) : itersK (N_column_beside 5) (awp M_column_beside N_column_beside (sub (bodyOf Try.f35) [1, 1, 1, 0, 1, 2, 2])) Q (column_beside_s5 c w p v.1 v.2) := by
  refine @loop_run _ _ (column_beside_S5 c w p) (fun v => itersK (N_column_beside 5) (awp M_column_beside N_column_beside (sub (bodyOf Try.f35) [1, 1, 1, 0, 1, 2, 2])) Q (column_beside_s5 c w p v.1 v.2)) (fun r => column_beside_Q5 c w p r Q) ?_ v r h hQ
  intro v o h hI
  unfold column_beside_S5 at h
  rcases ite_some h with ⟨c1, h2⟩ | ⟨c1, h2⟩
  · obtain ⟨c3, h4⟩ := ob_some h2
    rcases ite_some h4 with ⟨c5, h6⟩ | ⟨c5, h6⟩
    · rcases ite_some h6 with ⟨c7, h8⟩ | ⟨c7, h8⟩
      · cases h8
        obtain ⟨k9, hk10⟩ := itersK_get hI
        exact itersK_mk (k9 + 1) (mpr (column_beside_l5 c w p v.1 v.2 k9 Q) (cnd_t c1 (And.intro c3 (cnd_t c5 (cnd_t c7 hk10)))))
      · cases h8
        obtain ⟨k11, hk12⟩ := itersK_get hI
        exact itersK_mk (k11 + 1) (mpr (column_beside_l5 c w p v.1 v.2 k11 Q) (cnd_t c1 (And.intro c3 (cnd_t c5 (cnd_f (bfalse c7) hk12)))))
    · cases h6
      obtain ⟨k13, hk14⟩ := itersK_get hI
      exact itersK_mk (k13 + 1) (mpr (column_beside_l5 c w p v.1 v.2 k13 Q) (cnd_t c1 (And.intro c3 (cnd_f (bfalse c5) hk14))))
  · cases h2
    exact itersK_mk 1 (mpr (column_beside_l5 c w p v.1 v.2 0 Q) (cnd_f (bfalse c1) hI))
def column_beside_fn (c : Column) (w : Val) (p : Int → Bool) : Option (Int) :=
  if ((↑c.c.ends.length : Int) == (0 : Int)) = true then
   some ((333333 : Int))
  else
   (column_beside_L5 c w p ((0 : Int), (0 : Int))) >>= fun o15 =>
    if (0 : Int) ≤ List.foldl (fun a b => if a < b then b else a) (IntKind.i64.wrap (c.all - c.nulls)) [(0 : Int)] ∧ (0 : Int) ≤ c.all then
     if (0 : Int) ≤ column_share c (List.foldl (fun a b => if a < b then b else a) (IntKind.i64.wrap (c.all - c.nulls)) [(0 : Int)]) ∧ (0 : Int) ≤ o15.1 ∧ (0 : Int) ≤ (↑c.c.ends.length : Int) ∧ (0 : Int) ≤ (1000000 : Int) then
      some (guess_by (column_share c (List.foldl (fun a b => if a < b then b else a) (IntKind.i64.wrap (c.all - c.nulls)) [(0 : Int)])) o15.1 (↑c.c.ends.length : Int) (1000000 : Int))
     else none
    else none
theorem column_beside_run {c : Column} {w : Val} {p : Int → Bool} {r : Int} (h : column_beside_fn c w p = some r) : Runs (awp M_column_beside N_column_beside (bodyOf Try.f35) (entry Try.f35.ntmps 0 [.d (.agg (enc Ty.column c)), .d (.agg (enc Ty.val w)), .fn (fv_i_i64_to_b p)]) (retQ M_column_beside Try.f35.results.toList [.d] fun rs os => rs = A_column_beside r ∧ os = O_column_beside r)) := by
  constructor
  rw [column_beside_in c w p (fun rs os => rs = A_column_beside r ∧ os = O_column_beside r)]
  unfold column_beside_fn at h
  rcases ite_some h with ⟨c16, h17⟩ | ⟨c16, h17⟩
  · cases h17
    exact (cnd_t c16 ⟨rfl, rfl⟩)
  · obtain ⟨o18, ho19, h20⟩ := bind_some h17
    obtain ⟨c21, h22⟩ := ob_some h20
    obtain ⟨c23, h24⟩ := ob_some h22
    cases h24
    exact (cnd_f (bfalse c16) (column_beside_L5_run ho19 _ (column_beside_Q5_x0 (mpr (column_beside_a5_x0 c w p o18.1 o18.2 _) (And.intro c21 (And.intro c23 ⟨rfl, rfl⟩))))))

def column_beside (c : Column) (w : Val) (p : Int → Bool) : Int := besideA c.all c.nulls p w c.c.ends

@[simp] theorem column_beside_eq (c : Column) (w : Val) (p : Int → Bool) : column_beside c w p = besideA c.all c.nulls p w c.c.ends := by unfold column_beside; rfl
theorem column_beside_loop (c : Column) (w : Val) (p : Int → Bool) (hc : c.c.ends.length ≤ 9223372036854775807) : ∀ (r : List Val) (i n : Nat), c.c.ends.drop i = r → i ≤ c.c.ends.length → n ≤ i →
    column_beside_L5 c w p ((n : Int), (i : Int)) = some (((n + standN p w r : Nat) : Int), (c.c.ends.length : Int)) := by
  intro r
  induction r with
  | nil =>
    intro i n h1 h2 h3
    have e1 := drop_nil h1
    have hn : ¬ ((i : Int) < c.c.ends.length) := by omega
    have : i = c.c.ends.length := by omega
    subst this
    rw [column_beside_L5_eq, column_beside_S5]; simp [standN]
  | cons x r ih =>
    intro i n h1 h2 h3
    obtain ⟨a1, a2, a3, _⟩ := drop_cons h1
    have hp : (i : Int) < c.c.ends.length := by omega
    have hi : (0 : Int) ≤ i := by omega
    rw [column_beside_L5_eq, column_beside_S5]
    simp only [hp, hi, decide_true, if_true, and_self, Int.toNat_natCast, a2, value_Compare_eq]
    by_cases h : ((cmpV x w).2 && p (cmpV x w).1) = true
    · have hs : standN p w (x :: r) = 1 + standN p w r := by unfold standN; rw [List.filter_cons_of_pos (by exact h), List.length_cons]; omega
      rw [Bool.and_eq_true] at h
      rw [if_pos h.1, if_pos h.2, wrap_succ a1 hc, wrap_succ (n := c.c.ends.length) (by omega) hc, stepB_inl, ih (i + 1) (n + 1) a3 (by omega) (by omega), hs]
      congr 2; congr 1; omega
    · have hs : standN p w (x :: r) = standN p w r := by unfold standN; rw [List.filter_cons_of_neg (by exact h)]
      have e : ∀ (a b : Option ((Int × Int) ⊕ (Int × Int))), (if (cmpV x w).2 = true then (if p (cmpV x w).1 = true then a else b) else b) = b := by
        intro a b
        split
        · split
          · rename_i h1 h2; simp [h1, h2] at h
          · rfl
        · rfl
      rw [e, wrap_succ a1 hc, stepB_inl, ih (i + 1) n a3 (by omega) (by omega), hs]
theorem column_beside_spec (c : Column) (w : Val) (p : Int → Bool) (hc : WS .column c) (_hw : WS .val w) (h : (0 ≤ c.all ∧ c.all ≤ 1000000000000) ∧ 0 ≤ c.nulls ∧ c.nulls ≤ 1000000000000) : column_beside_fn c w p = some (column_beside c w p) := by
  have hl := ((hc.column_c).colStat_ends).len
  unfold column_beside_fn column_beside besideA
  by_cases he : c.c.ends = []
  · rw [if_pos (by simp [he]), if_pos he]
  · have hpos : 0 < c.c.ends.length := List.length_pos_iff.2 he
    have hm : List.foldl (fun a b => if a < b then b else a) (IntKind.i64.wrap (c.all - c.nulls)) [(0 : Int)] = max (c.all - c.nulls) 0 := by
      rw [wrap_id (by omega)]; simp only [List.foldl]; split <;> omega
    have hl5 := column_beside_loop c w p hl c.c.ends 0 0 rfl (by omega) (by omega)
    rw [if_neg (by simp; omega), if_neg he]
    simp only [Nat.zero_add] at hl5
    erw [hl5]
    have hs := shareA_range (all := c.all) (n := max (c.all - c.nulls) 0) (by omega) h.1.1
    simp only [Option.bind_eq_bind, Option.bind_some, hm, column_share_eq, guess_by_eq]
    rw [if_pos (by omega), if_pos (by omega)]

def F_column_beside : FnC Un := fun args => match args with
  | [x0, x1, x2] => (dS .column x0).bind fun c => (dS .val x1).bind fun w => (dF x2).bind fun p => some ([p = (fv_i_i64_to_b (pf_i_i64_to_b p)), (0 ≤ c.all ∧ c.all ≤ 1000000000000) ∧ 0 ≤ c.nulls ∧ c.nulls ≤ 1000000000000], A_column_beside (column_beside c w (pf_i_i64_to_b p)), O_column_beside (column_beside c w (pf_i_i64_to_b p)))
  | _ => none

theorem ok_column_beside : FnOK 35 F_column_beside := by
  intro args ob rs os h hob
  unfold F_column_beside at h
  split at h
  · simp only [Option.bind_eq_some_iff, Option.some.injEq, Prod.mk.injEq] at h
    obtain ⟨c, e0, w, e1, p, e2, rfl, rfl, rfl⟩ := h
    obtain rfl := dS_eq e0
    obtain rfl := dS_eq e1
    obtain rfl := dF_eq e2
    have hfv0 := hob _ (List.mem_of_getElem? (i := 0) rfl)
    generalize pf_i_i64_to_b p = pp0 at *
    subst hfv0
    exact ⟨fn_contract (M := M_column_beside) rfl (tbl_ok (l1 := [(46, F_value_Compare), (23, F_column_share), (30, F_guess_by)]) (l2 := []) (l3 := []) (l4 := []) ⟨ok_value_Compare, ok_column_share, ok_guess_by, trivial⟩ trivial trivial trivial) Try.func35 (by kernel_rfl) N_column_beside 0 [.d] (fun hwf => column_beside_run (column_beside_spec c w pp0 (wfArg hwf (a := .d (.agg (enc Ty.column c))) (List.mem_of_getElem? (i := 0) rfl)) (wfArg hwf (a := .d (.agg (enc Ty.val w))) (List.mem_of_getElem? (i := 1) rfl)) (hob _ (List.mem_of_getElem? (i := 1) rfl)))), hasBody_of Try.func35 (by kernel_rfl) (by kernel_rfl)⟩
  · simp at h


/-! ### guess.find -/
def M_guess_find : Mc Un := mach (tbl [(33, F_guess_known)]) (tbl []) (tbl []) (tbl [])
def N_guess_find : Nat → NS := fun l => (look l []).getD ⟨[], [], [], [], []⟩
def A_guess_find (r : Column × Bool) : List (A Un) := [.agg (encC Ty.column r.1), .c (.s (.bool r.2))]
def O_guess_find (_r : Column × Bool) : List (Ob Un) := []
theorem guess_find_in (t : Term) (l : List ColStat) (K : List (A Un) → List (Ob Un) → Prop) :
    awp M_guess_find N_guess_find (bodyOf Try.f22) (entry Try.f22.ntmps 0 [.d (.agg (enc Ty.term t)), .d (.v (.dat (U := Un) Ty.colStat l))]) (retQ M_guess_find Try.f22.results.toList [.d, .d] K) =
(cnd (t.op != (2 : Int))
 (K (A_guess_find (zeroColumn, false)) (O_guess_find (zeroColumn, false)))
 (cnd (t.depth != (0 : Int))
  (K (A_guess_find (zeroColumn, false)) (O_guess_find (zeroColumn, false)))
  (cnd (decide (t.at_ < (0 : Int)))
   (K (A_guess_find (zeroColumn, false)) (O_guess_find (zeroColumn, false)))
   (cnd (decide (t.at_ ≥ (↑l.length : Int)))
    (K (A_guess_find (zeroColumn, false)) (O_guess_find (zeroColumn, false)))
    (((0 : Int) ≤ t.at_ ∧ t.at_ < (↑l.length : Int)) ∧
    (K (A_guess_find ((guess_known (l.getD t.at_.toNat zeroColStat)), true)) (O_guess_find ((guess_known (l.getD t.at_.toNat zeroColStat)), true)))))))) := by kernel_rfl
def guess_find_fn (t : Term) (l : List ColStat) : Option (Column × Bool) :=
  if (t.op != (2 : Int)) = true then
   some (zeroColumn, false)
  else
   if (t.depth != (0 : Int)) = true then
    some (zeroColumn, false)
   else
    if (decide (t.at_ < (0 : Int))) = true then
     some (zeroColumn, false)
    else
     if (decide (t.at_ ≥ (↑l.length : Int))) = true then
      some (zeroColumn, false)
     else
      if (0 : Int) ≤ t.at_ ∧ t.at_ < (↑l.length : Int) then
       some ((guess_known (l.getD t.at_.toNat zeroColStat)), true)
      else none
theorem guess_find_run {t : Term} {l : List ColStat} {r : Column × Bool} (h : guess_find_fn t l = some r) : Runs (awp M_guess_find N_guess_find (bodyOf Try.f22) (entry Try.f22.ntmps 0 [.d (.agg (enc Ty.term t)), .d (.v (.dat (U := Un) Ty.colStat l))]) (retQ M_guess_find Try.f22.results.toList [.d, .d] fun rs os => rs = A_guess_find r ∧ os = O_guess_find r)) := by
  constructor
  rw [guess_find_in t l (fun rs os => rs = A_guess_find r ∧ os = O_guess_find r)]
  unfold guess_find_fn at h
  rcases ite_some h with ⟨c1, h2⟩ | ⟨c1, h2⟩
  · cases h2
    exact (cnd_t c1 ⟨rfl, rfl⟩)
  · rcases ite_some h2 with ⟨c3, h4⟩ | ⟨c3, h4⟩
    · cases h4
      exact (cnd_f (bfalse c1) (cnd_t c3 ⟨rfl, rfl⟩))
    · rcases ite_some h4 with ⟨c5, h6⟩ | ⟨c5, h6⟩
      · cases h6
        exact (cnd_f (bfalse c1) (cnd_f (bfalse c3) (cnd_t c5 ⟨rfl, rfl⟩)))
      · rcases ite_some h6 with ⟨c7, h8⟩ | ⟨c7, h8⟩
        · cases h8
          exact (cnd_f (bfalse c1) (cnd_f (bfalse c3) (cnd_f (bfalse c5) (cnd_t c7 ⟨rfl, rfl⟩))))
        · obtain ⟨c9, h10⟩ := ob_some h8
          cases h10
          exact (cnd_f (bfalse c1) (cnd_f (bfalse c3) (cnd_f (bfalse c5) (cnd_f (bfalse c7) (And.intro c9 ⟨rfl, rfl⟩)))))

def guess_find (t : Term) (l : List ColStat) : Column × Bool := match colOf t l with | some c => (knownC c, true) | none => (zeroColumn, false)

theorem guess_find_spec (t : Term) (l : List ColStat) (_ht : WS .term t) (_hl : WL .colStat l) : guess_find_fn t l = some (guess_find t l) := by
  unfold guess_find_fn guess_find colOf
  simp only [bne_iff_ne, ne_eq, ite_not, decide_eq_true_eq, guess_known_eq]
  by_cases h1 : t.op = 2
  · by_cases h2 : t.depth = 0
    · by_cases h3 : t.at_ < 0
      · have : ¬ (0 ≤ t.at_) := by omega
        simp [h1, h2, h3, this]
      · by_cases h4 : t.at_ ≥ (l.length : Int)
        · have : ¬ (t.at_ < (l.length : Int)) := by omega
          simp [h1, h2, h3, h4, this]
        · have g1 : 0 ≤ t.at_ := by omega
          have g2 : t.at_ < (l.length : Int) := by omega
          simp [h1, h2, h3, h4, g1, g2]
    · simp [h1, h2]
  · simp [h1]

def F_guess_find : FnC Un := fun args => match args with
  | [x0, x1] => (dS .term x0).bind fun t => (dL .colStat x1).bind fun l => some ([], A_guess_find (guess_find t l), O_guess_find (guess_find t l))
  | _ => none

theorem ok_guess_find : FnOK 22 F_guess_find := by
  intro args ob rs os h hob
  unfold F_guess_find at h
  split at h
  · simp only [Option.bind_eq_some_iff, Option.some.injEq, Prod.mk.injEq] at h
    obtain ⟨t, e0, l, e1, rfl, rfl, rfl⟩ := h
    obtain rfl := dS_eq e0
    obtain rfl := dL_eq e1
    exact ⟨fn_contract (M := M_guess_find) rfl (tbl_ok (l1 := [(33, F_guess_known)]) (l2 := []) (l3 := []) (l4 := []) ⟨ok_guess_known, trivial⟩ trivial trivial trivial) Try.func22 (by kernel_rfl) N_guess_find 0 [.d, .d] (fun hwf => guess_find_run (guess_find_spec t l (wfArg hwf (a := .d (.agg (enc Ty.term t))) (List.mem_of_getElem? (i := 0) rfl)) (wfArg hwf (a := .d (.v (.dat (U := Un) Ty.colStat l))) (List.mem_of_getElem? (i := 1) rfl)))), hasBody_of Try.func22 (by kernel_rfl) (by kernel_rfl)⟩
  · simp at h


end
end Go.Proofs.Ytjndihloefdplaa.B
