/- Functions: ref21. (Printed by wip/tools/mkfn.py out of wip/src/ref21.src.) -/
import Derived.Test.YtaepcbdcjbfgjaaBAwf
import Derived.Test.YtaepcbdcjbfgjaaSspec
import Derived.Test.YtaepcbdcjbfgjaaSterms
import Derived.Test.YtaepcbdcjbfgjaaStermsz
import Derived.Test.YtaepcbdcjbfgjaaSconjspec
import Derived.Test.YtaepcbdcjbfgjaaSsorted
import Derived.Test.YtaepcbdcjbfgjaaSconjU
import Derived.Test.YtaepcbdcjbfgjaaSconj2
import Derived.Test.YtaepcbdcjbfgjaaSconj3
import Derived.Test.YtaepcbdcjbfgjaaSconj4
import Derived.Test.YtaepcbdcjbfgjaaSsame
import Derived.Test.YtaepcbdcjbfgjaaSsame2
import Derived.Test.YtaepcbdcjbfgjaaSsame3
import Derived.Test.YtaepcbdcjbfgjaaSsame4
import Derived.Test.YtaepcbdcjbfgjaaSsame5
import Derived.Test.YtaepcbdcjbfgjaaSref03
import Derived.Test.YtaepcbdcjbfgjaaSref15
import Derived.Test.YtaepcbdcjbfgjaaSref15b
namespace Go.Proofs.Ytaepcbdcjbfgjaa.B
open Go Go.RowKit
set_option maxRecDepth 100000
noncomputable section
attribute [local irreducible] awp ctxK itersK iterK retQ retGQ awf ctxF loopF

def r21_Split (t : Term) : List Term := splitT t
@[simp] theorem r21_Split_eq (t : Term) : r21_Split t = splitT t := by unfold r21_Split; rfl

def A_r21_Split (r : List Term) : List (A Un) := [.c (.ob 0 0)]
def O_r21_Split (r : List Term) : List (Ob Un) := [⟨0, Ty.term, r, none, true⟩]

def Fm_r21_Split (m : Nat) : FnC Un := fun args => match args with
  | [x0] => (dS .term x0).bind fun t => some ([t.ht < m, t.sz ≤ 1000000], A_r21_Split (r21_Split t), O_r21_Split (r21_Split t))
  | _ => none

/-! ### tabellionref21.Split -/
def M_r21_Split (m : Nat) : Mc Un := mach (tbl [(12, Fm_r21_Split m)]) (tbl []) (tbl []) (tbl []) (tbl [])
def R_r21_Split (r : List Term) : RF Un := (A_r21_Split r, O_r21_Split r)
def N_r21_Split : Nat → NS := fun l => (look l []).getD ⟨[], [], [], [], []⟩
def r21_Split_fn (m : Nat) (t : Term) : Option (RF Un) := awf (M_r21_Split m) N_r21_Split (bodyOf Try.f12) (entry Try.f12.ntmps 0 [.d (.agg (enc Ty.term t))]) (retF (M_r21_Split m) Try.f12.results.toList [.o])
theorem r21_Split_in (m : Nat) (t : Term) : r21_Split_fn m t =
 cndO (t.op != 17)
  (some (R_r21_Split ([(Term.ids t)])))
  (cndO ((↑t.kids.length : Int) != (2 : Int))
   (some (R_r21_Split ([(Term.ids t)])))
   (obO ((0 : Int) ≤ (0 : Int) ∧ (0 : Int) < (↑t.kids.length : Int))
    (obO ((Term.ids (t.kids.getD 0 zeroTerm)).ht < m)
     (obO ((Term.ids (t.kids.getD 0 zeroTerm)).sz ≤ (1000000 : Nat))
      (obO ((0 + (r21_Split (Term.ids (t.kids.getD 0 zeroTerm))).length) * (128 : Nat) ≤ roomB)
       (obO ((0 : Int) ≤ (1 : Int) ∧ (1 : Int) < (↑t.kids.length : Int))
        (obO ((Term.ids (t.kids.getD 1 zeroTerm)).ht < m)
         (obO ((Term.ids (t.kids.getD 1 zeroTerm)).sz ≤ (1000000 : Nat))
          (obO (((r21_Split (Term.ids (t.kids.getD 0 zeroTerm))).length + (r21_Split (Term.ids (t.kids.getD 1 zeroTerm))).length) * (128 : Nat) ≤ roomB)
           (some (R_r21_Split (r21_Split (Term.ids (t.kids.getD 0 zeroTerm)) ++ r21_Split (Term.ids (t.kids.getD 1 zeroTerm)))))))))))))) := by kernel_rfl

theorem r21_Split_spec (m : Nat) (t : Term) (_ht : WS .term t) (hm : t.ht < m + 1) (h : t.sz ≤ 1000000) : r21_Split_fn m t = some (R_r21_Split (r21_Split t)) := by
  rw [r21_Split_in]
  simp only [r21_Split_eq, Term.ids_eq, cndO_eq]
  conv => rhs; rw [splitT_eq]
  by_cases h1 : t.op = 17
  · by_cases h2 : t.kids.length = 2
    · obtain ⟨a, b, hab⟩ : ∃ a b, t.kids = [a, b] := by
        match hk : t.kids, h2 with
        | [a, b], _ => exact ⟨a, b, rfl⟩
      have ha : a ∈ t.kids := by rw [hab]; simp
      have hb : b ∈ t.kids := by rw [hab]; simp
      have hta := Term.ht_kid ha
      have htb := Term.ht_kid hb
      have hsz := t.sz_eq
      have hs : szTs t.kids = a.sz + b.sz := by rw [hab]; simp [szTs]
      have la := splitT_len a
      have lb := splitT_len b
      rw [if_neg (by simp [h1]), if_neg (by simp [h2]), if_pos ⟨h1, h2⟩, hab]
      have e0 : [a, b].getD 0 zeroTerm = a := rfl
      have e1 : [a, b].getD 1 zeroTerm = b := rfl
      rw [e0, e1, obO_pos (by simp), obO_pos (by omega), obO_pos (by omega), obO_pos (by unfold roomB; omega), obO_pos (by simp), obO_pos (by omega), obO_pos (by omega), obO_pos (by unfold roomB; omega)]
      simp [splitTs]
    · rw [if_neg (by simp [h1]), if_pos (by simp; omega), if_neg (fun e => h2 e.2)]
  · rw [if_pos (by simpa using h1), if_neg (fun e => h1 e.1)]

theorem okm_r21_Split (m : Nat) (h_r21_Split : FnOK 12 (Fm_r21_Split m)) : FnOK 12 (Fm_r21_Split (m + 1)) := by
  intro args ob rs os h hob
  unfold Fm_r21_Split at h
  split at h
  · simp only [Option.bind_eq_some_iff, Option.some.injEq, Prod.mk.injEq] at h
    obtain ⟨t, e0, rfl, rfl, rfl⟩ := h
    obtain rfl := dS_eq e0
    exact ⟨fn_contractF (M := (M_r21_Split m)) rfl (tbl_ok (l1 := [(12, Fm_r21_Split m)]) (l2 := []) (l3 := []) (l4 := []) (l5 := []) ⟨h_r21_Split, trivial⟩ trivial trivial trivial trivial) Try.func12 (by kernel_rfl) N_r21_Split 0 [.o] (fun hwf => (r21_Split_spec m t (wfArg hwf (a := .d (.agg (enc Ty.term t))) (List.mem_of_getElem? (i := 0) rfl)) (hob _ (List.mem_of_getElem? (i := 0) rfl)) (hob _ (List.mem_of_getElem? (i := 1) rfl)))), hasBody_of Try.func12 (by kernel_rfl) (by kernel_rfl)⟩
  · simp at h


theorem okAll_r21SplitG : ∀ m, FnOK 12 (Fm_r21_Split m)
  | 0 => by
    skip
    intro args ob rs os h hob
    unfold Fm_r21_Split at h
    split at h
    · simp only [Option.bind_eq_some_iff, Option.some.injEq, Prod.mk.injEq] at h
      obtain ⟨_, _, rfl, _, _⟩ := h
      exact absurd (hob _ (List.mem_of_getElem? (i := 0) rfl)) (Nat.not_lt_zero _)
    · simp at h
  | m + 1 => by
    have ih := okAll_r21SplitG m
    exact okm_r21_Split m ih

def F_r21_Split : FnC Un := fun args => match args with
  | [x0] => (dS .term x0).bind fun t => some ([t.sz ≤ 1000000], A_r21_Split (r21_Split t), O_r21_Split (r21_Split t))
  | _ => none

theorem ok_r21_Split : FnOK 12 F_r21_Split := by
  intro args ob rs os h hob
  unfold F_r21_Split at h
  split at h
  · simp only [Option.bind_eq_some_iff, Option.some.injEq, Prod.mk.injEq] at h
    obtain ⟨t, e0, rfl, rfl, rfl⟩ := h
    refine ((okAll_r21SplitG (t.ht + 1))) _ [t.ht < t.ht + 1, t.sz ≤ 1000000] _ _ (?_ : Fm_r21_Split (t.ht + 1) _ = some _) ?_
    · unfold Fm_r21_Split
      simp only [e0, Option.bind_some]
    · intro p hp
      simp only [List.mem_cons, List.not_mem_nil, or_false] at hp
      rcases hp with rfl | rfl
      · exact Nat.lt_succ_self _
      · exact hob _ (List.mem_of_getElem? (i := 0) rfl)
  · simp at h

/-! ### tabellionref03.Bool -/
def M_r03_Bool : Mc Un := mach (tbl []) (tbl []) (tbl []) (tbl []) (tbl [])
def A_r03_Bool (r : Val) : List (A Un) := [.agg (encC Ty.val r)]
def O_r03_Bool (_r : Val) : List (Ob Un) := []
def R_r03_Bool (r : Val) : RF Un := (A_r03_Bool r, O_r03_Bool r)
def N_r03_Bool : Nat → NS := fun l => (look l []).getD ⟨[], [], [], [], []⟩
def r03_Bool_fn (b : Bool) : Option (RF Un) := awf M_r03_Bool N_r03_Bool (bodyOf Try.f40) (entry Try.f40.ntmps 0 [.d (.v (cb b))]) (retF M_r03_Bool Try.f40.results.toList [.d])
theorem r03_Bool_in (b : Bool) : r03_Bool_fn b =
 cndO (b)
  (some (R_r03_Bool ({ kind := (1 : Int), n := (1 : Int), s := (ByteArray.mk #[]) })))
  (some (R_r03_Bool ({ kind := (1 : Int), n := (0 : Int), s := (ByteArray.mk #[]) }))) := by kernel_rfl
def r03_Bool (b : Bool) : Val :=
  if (b) = true then
   ({ kind := (1 : Int), n := (1 : Int), s := (ByteArray.mk #[]) })
  else
   ({ kind := (1 : Int), n := (0 : Int), s := (ByteArray.mk #[]) })
theorem r03_Bool_eq (b : Bool) : r03_Bool_fn b = some (R_r03_Bool (r03_Bool b)) := by rw [r03_Bool_in]; unfold r03_Bool; simp only [cndO_eq]; repeat (first | rfl | split)

def F_r03_Bool : FnC Un := fun args => match args with
  | [x0] => (dB x0).bind fun b => some ([], A_r03_Bool (r03_Bool b), O_r03_Bool (r03_Bool b))
  | _ => none

theorem ok_r03_Bool : FnOK 40 F_r03_Bool := by
  intro args ob rs os h hob
  unfold F_r03_Bool at h
  split at h
  · simp only [Option.bind_eq_some_iff, Option.some.injEq, Prod.mk.injEq] at h
    obtain ⟨b, e0, rfl, rfl, rfl⟩ := h
    obtain rfl := dB_eq e0
    exact ⟨fn_contractF (M := M_r03_Bool) rfl (tbl_ok (l1 := []) (l2 := []) (l3 := []) (l4 := []) (l5 := []) trivial trivial trivial trivial trivial) Try.func40 (by kernel_rfl) N_r03_Bool 0 [.d] (fun hwf => (r03_Bool_eq b)), hasBody_of Try.func40 (by kernel_rfl) (by kernel_rfl)⟩
  · simp at h

@[simp] theorem r03_Bool_spec (b : Bool) : r03_Bool b = boolV b := by unfold r03_Bool boolV; cases b <;> rfl


/-! ### tabellionref21.Join -/
def M_r21_Join : Mc Un := mach (tbl [(40, F_r03_Bool)]) (tbl []) (tbl []) (tbl []) (tbl [])
def A_r21_Join (r : Term) : List (A Un) := [.agg (encC Ty.term r)]
def O_r21_Join (_r : Term) : List (Ob Un) := []
def R_r21_Join (r : Term) : RF Un := (A_r21_Join r, O_r21_Join r)
def N_r21_Join : Nat → NS := fun l => (look l [(5, { ts := bl 27 29, bs := bl 27 12, nm := [], gb := [2, 3] })]).getD ⟨[], [], [], [], []⟩
def r21_Join_s5 (l : List Term) (b2 : Term) (b3 : Term) (v0 : Int) : S Un := (st 27 27 108 0 [(0, al .term l), (2, ax 2), (3, ax 3), (4, ai v0)] [(2, bg .term b2), (3, bg .term b3)] [])
def r21_Join_B5 : Code := sub (bodyOf Try.f15) [1, 1, 1, 0, 1, 2, 2]
def r21_Join_L5 : S Un → Option (EX Un) := loopF (N_r21_Join 5) (fun s Q => awf M_r21_Join N_r21_Join r21_Join_B5 s Q)
def r21_Join_C5 : Exit → S Un → Option (RF Un) := ctxF M_r21_Join N_r21_Join (bodyOf Try.f15) [1, 1, 1, 0, 1, 2] (retF M_r21_Join Try.f15.results.toList [.d])
def r21_Join_fn (l : List Term) : Option (RF Un) := awf M_r21_Join N_r21_Join (bodyOf Try.f15) (entry Try.f15.ntmps 0 [.d (.v (.dat (U := Un) Ty.term l))]) (retF M_r21_Join Try.f15.results.toList [.d])
theorem r21_Join_in (l : List Term) : r21_Join_fn l =
 cndO ((↑l.length : Int) == (0 : Int))
  (some (R_r21_Join (Term.mk (1 : Int) { kind := (1 : Int), n := (1 : Int), s := (r03_Bool true).s } (0 : Int) (0 : Int) (ByteArray.mk #[]) [] [] (1 : Int))))
  (obO ((0 : Int) ≤ (0 : Int) ∧ (0 : Int) < (↑l.length : Int))
   ((r21_Join_L5 (r21_Join_s5 l zeroTerm (l.getD 0 zeroTerm) (1 : Int))).bind (thenX r21_Join_C5))) := by kernel_rfl
theorem r21_Join_l5 (l : List Term) (b2 : Term) (b3 : Term) (v0 : Int) : r21_Join_L5 (r21_Join_s5 l b2 b3 v0) =
 cndO (decide (v0 < (↑l.length : Int)))
  (obO (0 ≤ v0 ∧ v0 < (↑l.length : Int))
   (r21_Join_L5 (r21_Join_s5 l b2 (Term.mk (17 : Int) zeroVal (0 : Int) (0 : Int) (ByteArray.mk #[]) [(Term.ids b3), (Term.ids (l.getD v0.toNat zeroTerm))] [] (1 : Int)) (IntKind.i64.wrap (v0 + 1)))))
  (some (.exit 0, (r21_Join_s5 l b2 b3 v0))) := (loopF_eq (N_r21_Join 5) r21_Join_B5 _).trans (by kernel_rfl)
theorem r21_Join_a5_x0 (l : List Term) (b2 : Term) (b3 : Term) (v0 : Int) : r21_Join_C5 (.exit 0) (r21_Join_s5 l b2 b3 v0) =
 some (R_r21_Join (b3)) := by kernel_rfl

def r21_Join (l : List Term) : Term := joinT l
@[simp] theorem r21_Join_eq (l : List Term) : r21_Join l = joinT l := by unfold r21_Join; rfl
theorem r21_Join_spec (l : List Term) (hl : WL .term l) : r21_Join_fn l = some (R_r21_Join (r21_Join l)) := by
  rw [r21_Join_in]
  unfold r21_Join
  cases l with
  | nil => simp only [cndO_eq, joinT, r03_Bool_spec]; rfl
  | cons x r =>
    have hlen := hl.len
    have hg : (x :: r).getD 0 zeroTerm = x := rfl
    have key : ∀ (r' : List Term) (i : Nat) (b : Term), (x :: r).drop i = r' → r21_Join_L5 (r21_Join_s5 (x :: r) zeroTerm b i) = some (.exit 0, r21_Join_s5 (x :: r) zeroTerm (r'.foldl and2 b) (((x :: r).length : Nat) : Int)) ∨ (x :: r).length < i := by
      intro r'
      induction r' with
      | nil =>
        intro i b hr
        have : (x :: r).length ≤ i := by rw [← List.drop_eq_nil_iff]; exact hr
        rcases Nat.lt_or_ge (x :: r).length i with e | e
        · exact .inr e
        · left
          have e2 : i = (x :: r).length := by omega
          rw [r21_Join_l5, cndO_eq, if_neg (by rw [decide_eq_true_eq]; omega), e2]
          rfl
      | cons y r' ih =>
        intro i b hr
        obtain ⟨a1, a2, a3, _⟩ := drop_cons hr
        left
        rw [r21_Join_l5, cndO_eq, if_pos (by rw [decide_eq_true_eq]; omega), obO_pos (by omega), Int.toNat_natCast, a2, wrap_next a1 hlen, Term.ids_eq, Term.ids_eq]
        rcases ih (i + 1) (and2 b y) a3 with e | e
        · exact e
        · omega
    have lp : r21_Join_L5 (r21_Join_s5 (x :: r) zeroTerm x (1 : Int)) = some (.exit 0, r21_Join_s5 (x :: r) zeroTerm (r.foldl and2 x) (((x :: r).length : Nat) : Int)) := by
      rcases key r 1 x rfl with e | e
      · exact e
      · rw [List.length_cons] at e; omega
    rw [cndO_eq, if_neg (by rw [List.length_cons, beq_iff_eq]; omega), obO_pos (by rw [List.length_cons]; omega), hg, loop_end lp, r21_Join_a5_x0]
    rfl

def F_r21_Join : FnC Un := fun args => match args with
  | [x0] => (dL .term x0).bind fun l => some ([], A_r21_Join (r21_Join l), O_r21_Join (r21_Join l))
  | _ => none

theorem ok_r21_Join : FnOK 15 F_r21_Join := by
  intro args ob rs os h hob
  unfold F_r21_Join at h
  split at h
  · simp only [Option.bind_eq_some_iff, Option.some.injEq, Prod.mk.injEq] at h
    obtain ⟨l, e0, rfl, rfl, rfl⟩ := h
    obtain rfl := dL_eq e0
    exact ⟨fn_contractF (M := M_r21_Join) rfl (tbl_ok (l1 := [(40, F_r03_Bool)]) (l2 := []) (l3 := []) (l4 := []) (l5 := []) ⟨ok_r03_Bool, trivial⟩ trivial trivial trivial trivial) Try.func15 (by kernel_rfl) N_r21_Join 0 [.d] (fun hwf => (r21_Join_spec l (wfArg hwf (a := .d (.v (.dat (U := Un) Ty.term l))) (List.mem_of_getElem? (i := 0) rfl)))), hasBody_of Try.func15 (by kernel_rfl) (by kernel_rfl)⟩
  · simp at h


/-! ### tabellionref21.Terms -/
def M_r21_Terms : Mc Un := mach (tbl []) (tbl []) (tbl []) (tbl []) (tbl [])
def A_r21_Terms (r : List Term) : List (A Un) := [.c (.ob 0 0)]
def O_r21_Terms (r : List Term) : List (Ob Un) := [⟨0, Ty.term, r, none, true⟩]
def R_r21_Terms (r : List Term) : RF Un := (A_r21_Terms r, O_r21_Terms r)
def N_r21_Terms : Nat → NS := fun l => (look l [(3, { ts := bl 25 26, bs := bl 25 2, nm := [(.sl 3, 100)] })]).getD ⟨[], [], [], [], []⟩
def r21_Terms_s3 (r : Rel) (v0 : Int) (v1 : List Term) : S Un := (st 25 25 101 0 [(1, ax 1), (3, ao 100), (4, ai v0)] [(1, bg .rel r)] [(100, some ⟨(0 : Nat), Ty.term, v1, some (0 : Nat), true⟩)])
def r21_Terms_B3 : Code := sub (bodyOf Try.f101) [1, 1, 0, 1, 2, 2]
def r21_Terms_L3 : S Un → Option (EX Un) := loopF (N_r21_Terms 3) (fun s Q => awf M_r21_Terms N_r21_Terms r21_Terms_B3 s Q)
def r21_Terms_C3 : Exit → S Un → Option (RF Un) := ctxF M_r21_Terms N_r21_Terms (bodyOf Try.f101) [1, 1, 0, 1, 2] (retF M_r21_Terms Try.f101.results.toList [.o])
def r21_Terms_fn (r : Rel) : Option (RF Un) := awf M_r21_Terms N_r21_Terms (bodyOf Try.f101) (entry Try.f101.ntmps 1 [.d (.agg (enc Ty.rel r))]) (retF M_r21_Terms Try.f101.results.toList [.o])
theorem r21_Terms_in (r : Rel) : r21_Terms_fn r =
 obO ((0 + r.terms.length) * (128 : Nat) ≤ roomB)
  ((r21_Terms_L3 (r21_Terms_s3 r (0 : Int) r.terms)).bind (thenX r21_Terms_C3)) := by kernel_rfl
theorem r21_Terms_l3 (r : Rel) (v0 : Int) (v1 : List Term) : r21_Terms_L3 (r21_Terms_s3 r v0 v1) =
 cndO (decide (v0 < (↑r.aggs.length : Int)))
  (obO (0 ≤ v0 ∧ v0 < (↑r.aggs.length : Int))
   (obO ((v1.length + (Agg.t (r.aggs.getD v0.toNat zeroAgg)).length) * (128 : Nat) ≤ roomB)
    (r21_Terms_L3 (r21_Terms_s3 r (IntKind.i64.wrap (v0 + 1)) (v1 ++ Agg.t (r.aggs.getD v0.toNat zeroAgg))))))
  (some (.exit 0, (r21_Terms_s3 r v0 v1))) := (loopF_eq (N_r21_Terms 3) r21_Terms_B3 _).trans (by kernel_rfl)
theorem r21_Terms_a3_x0 (r : Rel) (v0 : Int) (v1 : List Term) : r21_Terms_C3 (.exit 0) (r21_Terms_s3 r v0 v1) =
 some (R_r21_Terms (v1)) := by kernel_rfl

def aggTs : List Agg → List Term
  | [] => []
  | a :: r => a.t ++ aggTs r
theorem aggTs_fold : ∀ (l : List Agg) (o : List Term), l.foldl (fun o x => o ++ x.t) o = o ++ aggTs l
  | [], o => by simp [aggTs]
  | x :: l, o => by rw [List.foldl_cons, aggTs_fold l]; simp [aggTs]
theorem aggTs_sz : ∀ l : List Agg, szTs (aggTs l) ≤ szAs l
  | [] => by simp [aggTs, szTs]
  | x :: l => by have := aggTs_sz l; have h := x.sz_eq; simp only [aggTs, szAs, szTs_append]; omega
theorem htTs_append : ∀ (a b : List Term), htTs (a ++ b) = max (htTs a) (htTs b)
  | [], b => by simp [htTs]
  | x :: a, b => by simp only [List.cons_append, htTs, htTs_append a b]; omega
theorem aggTs_ht : ∀ l : List Agg, htTs (aggTs l) ≤ htAs l
  | [] => by simp [aggTs, htTs]
  | x :: l => by
    have := aggTs_ht l
    have hxh : htTs x.t < x.ht := by cases x; simp only [Agg.ht, Agg.t_mk]; omega
    simp only [aggTs, htAs, htTs_append]; omega
def r21_Terms (r : Rel) : List Term := r.terms ++ aggTs r.aggs
theorem r21_Terms_spec (r : Rel) (hr : WS .rel r) (h : r.sz ≤ 1000000) : r21_Terms_fn r = some (R_r21_Terms (r21_Terms r)) := by
  have hsz := r.sz_eq
  have htl := szTs_len r.terms
  have lp := (loop_fold (e := .exit 0) (L := r21_Terms_L3) (st := fun o i => r21_Terms_s3 r i o) (l := r.aggs) (d := zeroAgg) (g := fun o x => o ++ x.t) (fun i o => o.length + szAs (r.aggs.drop i) ≤ 1000000) (hr.rel_aggs).len
    (fun o i x hi hx hI => by
      have hil : i < r.aggs.length := by omega
      have hd := drop_getD (d := zeroAgg) hil
      have hI' : o.length + szAs (r.aggs.drop i) ≤ 1000000 := hI
      have hxs := x.sz_eq
      have hxl := szTs_len x.t
      rw [hd, hx] at hI'
      simp only [szAs] at hI'
      refine ⟨by show (o ++ x.t).length + szAs (r.aggs.drop (i + 1)) ≤ 1000000; rw [List.length_append]; omega, ?_⟩
      rw [r21_Terms_l3]
      simp only [cndO_eq, hi, decide_true, if_true, and_true, Int.toNat_natCast, hx]
      rw [obO_pos (by omega), obO_pos (by unfold roomB; omega)])
    (fun o _ => by rw [r21_Terms_l3]; simp [cndO_eq]) r.terms (by show r.terms.length + szAs (r.aggs.drop 0) ≤ 1000000; rw [List.drop_zero]; omega)).1
  rw [aggTs_fold] at lp
  rw [r21_Terms_in, obO_pos (by unfold roomB; omega), loop_end lp, r21_Terms_a3_x0]
  rfl

def F_r21_Terms : FnC Un := fun args => match args with
  | [x0] => (dS .rel x0).bind fun r => some ([r.sz ≤ 1000000], A_r21_Terms (r21_Terms r), O_r21_Terms (r21_Terms r))
  | _ => none

theorem ok_r21_Terms : FnOK 101 F_r21_Terms := by
  intro args ob rs os h hob
  unfold F_r21_Terms at h
  split at h
  · simp only [Option.bind_eq_some_iff, Option.some.injEq, Prod.mk.injEq] at h
    obtain ⟨r, e0, rfl, rfl, rfl⟩ := h
    obtain rfl := dS_eq e0
    exact ⟨fn_contractF (M := M_r21_Terms) rfl (tbl_ok (l1 := []) (l2 := []) (l3 := []) (l4 := []) (l5 := []) trivial trivial trivial trivial trivial) Try.func101 (by kernel_rfl) N_r21_Terms 1 [.o] (fun hwf => (r21_Terms_spec r (wfArg hwf (a := .d (.agg (enc Ty.rel r))) (List.mem_of_getElem? (i := 0) rfl)) (hob _ (List.mem_of_getElem? (i := 0) rfl)))), hasBody_of Try.func101 (by kernel_rfl) (by kernel_rfl)⟩
  · simp at h


/-! ### tabellionref21.List -/
def M_r21_List : Mc Un := mach (tbl [(36, F_r15_SameTerm)]) (tbl []) (tbl []) (tbl []) (tbl [])
def A_r21_List (r : Bool) : List (A Un) := [.c (.s (.bool r))]
def O_r21_List (_r : Bool) : List (Ob Un) := []
def R_r21_List (r : Bool) : RF Un := (A_r21_List r, O_r21_List r)
def N_r21_List : Nat → NS := fun l => (look l [(2, { ts := bl 33 51, bs := bl 33 0, nm := [] })]).getD ⟨[], [], [], [], []⟩
def r21_List_s2 (a : List Term) (b : List Term) (v0 : Int) : S Un := (st 33 33 132 0 [(0, al .term a), (1, al .term b), (4, ab false), (5, ai v0)] [] [])
def r21_List_B2 : Code := sub (bodyOf Try.f11) [1, 0, 1, 2, 2]
def r21_List_L2 : S Un → Option (EX Un) := loopF (N_r21_List 2) (fun s Q => awf M_r21_List N_r21_List r21_List_B2 s Q)
def r21_List_C2 : Exit → S Un → Option (RF Un) := ctxF M_r21_List N_r21_List (bodyOf Try.f11) [1, 0, 1, 2] (retF M_r21_List Try.f11.results.toList [.d])
def r21_List_fn (a : List Term) (b : List Term) : Option (RF Un) := awf M_r21_List N_r21_List (bodyOf Try.f11) (entry Try.f11.ntmps 0 [.d (.v (.dat (U := Un) Ty.term a)), .d (.v (.dat (U := Un) Ty.term b))]) (retF M_r21_List Try.f11.results.toList [.d])
theorem r21_List_in (a : List Term) (b : List Term) : r21_List_fn a b =
 (r21_List_L2 (r21_List_s2 a b (0 : Int))).bind (thenX r21_List_C2) := by kernel_rfl
theorem r21_List_l2 (a : List Term) (b : List Term) (v0 : Int) : r21_List_L2 (r21_List_s2 a b v0) =
 cndO (decide (v0 < (↑a.length : Int)))
  (cndO (decide (v0 < (↑b.length : Int)))
   (obO (0 ≤ v0 ∧ v0 < (↑a.length : Int))
    (obO (0 ≤ v0 ∧ v0 < (↑b.length : Int))
     (cndO (!r15_SameTerm (Term.ids (a.getD v0.toNat zeroTerm)) (Term.ids (b.getD v0.toNat zeroTerm)))
      (some (.ret, (r21_List_s2 a b v0)))
      (r21_List_L2 (r21_List_s2 a b (IntKind.i64.wrap (v0 + 1)))))))
   (some (.exit 0, (r21_List_s2 a b v0))))
  (some (.exit 0, (r21_List_s2 a b v0))) := (loopF_eq (N_r21_List 2) r21_List_B2 _).trans (by kernel_rfl)
theorem r21_List_a2_ret (a : List Term) (b : List Term) (v0 : Int) : r21_List_C2 .ret (r21_List_s2 a b v0) =
 some (R_r21_List (false)) := by kernel_rfl
theorem r21_List_a2_x0 (a : List Term) (b : List Term) (v0 : Int) : r21_List_C2 (.exit 0) (r21_List_s2 a b v0) =
 some (R_r21_List ((↑a.length : Int) == (↑b.length : Int))) := by kernel_rfl

noncomputable def r21_List (a b : List Term) : Bool := deq a b
theorem r21_List_spec (a b : List Term) (ha : WL .term a) (_hb : WL .term b) : r21_List_fn a b = some (R_r21_List (r21_List a b)) := by
  rw [r21_List_in]
  exact loop_pre (L := r21_List_L2) (st := fun i => r21_List_s2 a b i) (fun r => some (R_r21_List r)) (d := zeroTerm) ha.len
    (fun i hi hj => by
      rw [r21_List_l2]
      simp only [cndO_eq, Int.toNat_natCast, Term.ids_eq, r15_SameTerm]
      rw [if_pos (by simp; omega), if_pos (by simp; omega), obO_pos (by omega), obO_pos (by omega)]
      cases deq (a.getD i zeroTerm) (b.getD i zeroTerm) <;> simp)
    (fun i h => by
      rw [r21_List_l2]
      simp only [cndO_eq, decide_eq_true_eq]
      by_cases h1 : (i : Int) < (a.length : Int)
      · rw [if_pos h1, if_neg (by omega)]
      · rw [if_neg h1])
    (fun i => r21_List_a2_ret _ _ _) (fun i => r21_List_a2_x0 _ _ _)

def F_r21_List : FnC Un := fun args => match args with
  | [x0, x1] => (dL .term x0).bind fun a => (dL .term x1).bind fun b => some ([], A_r21_List (r21_List a b), O_r21_List (r21_List a b))
  | _ => none

theorem ok_r21_List : FnOK 11 F_r21_List := by
  intro args ob rs os h hob
  unfold F_r21_List at h
  split at h
  · simp only [Option.bind_eq_some_iff, Option.some.injEq, Prod.mk.injEq] at h
    obtain ⟨a, e0, b, e1, rfl, rfl, rfl⟩ := h
    obtain rfl := dL_eq e0
    obtain rfl := dL_eq e1
    exact ⟨fn_contractF (M := M_r21_List) rfl (tbl_ok (l1 := [(36, F_r15_SameTerm)]) (l2 := []) (l3 := []) (l4 := []) (l5 := []) ⟨ok_r15_SameTerm, trivial⟩ trivial trivial trivial trivial) Try.func11 (by kernel_rfl) N_r21_List 0 [.d] (fun hwf => (r21_List_spec a b (wfArg hwf (a := .d (.v (.dat (U := Un) Ty.term a))) (List.mem_of_getElem? (i := 0) rfl)) (wfArg hwf (a := .d (.v (.dat (U := Un) Ty.term b))) (List.mem_of_getElem? (i := 1) rfl)))), hasBody_of Try.func11 (by kernel_rfl) (by kernel_rfl)⟩
  · simp at h


end
end Go.Proofs.Ytaepcbdcjbfgjaa.B
