/- Functions: law26a. (Printed by wip/tools/mkfn.py out of wip/src/law26a.src.) -/
import Derived.Test.YtohpgnpjijpedaaBLib
import Derived.Test.YtohpgnpjijpedaaSspec
import Derived.Test.YtohpgnpjijpedaaSvalue
import Derived.Test.YtohpgnpjijpedaaSref03
import Derived.Test.YtohpgnpjijpedaaSspec26
import Derived.Test.YtohpgnpjijpedaaSaccess1
import Derived.Test.YtohpgnpjijpedaaSaccess2
import Derived.Test.YtohpgnpjijpedaaSaccess3
import Derived.Test.YtohpgnpjijpedaaSref26
import Derived.Test.YtohpgnpjijpedaaSref26b
import Derived.Test.YtohpgnpjijpedaaSlaw26
namespace Go.Proofs.Ytohpgnpjijpedaa.B
open Go Go.RowKit
set_option maxRecDepth 100000
noncomputable section
attribute [local irreducible] awp ctxK itersK iterK retQ retGQ

/-! ### tabellionlaw26.AccessRange -/
def M_l26_AccessRange : Mc Un := mach (tbl [(5, F_l26_awake), (6, F_access_Range), (7, F_r26_Range), (8, F_r26_SameBound)]) (tbl []) (tbl []) (tbl [])
def N_l26_AccessRange : Nat → NS := fun l => (look l []).getD ⟨[], [], [], [], []⟩
def A_l26_AccessRange (r : Bool) : List (A Un) := [.c (.s (.bool r))]
def O_l26_AccessRange (_r : Bool) : List (Ob Un) := []
theorem l26_AccessRange_in (terms : List Term) (cols : List Int) (K : List (A Un) → List (Ob Un) → Prop) :
    awp M_l26_AccessRange N_l26_AccessRange (bodyOf Try.f3) (entry Try.f3.ntmps 0 [.d (.v (.dat (U := Un) Ty.term terms)), .d (.v (.dat (U := Un) Ty.int cols))]) (retQ M_l26_AccessRange Try.f3.results.toList [.d] K) =
(cnd (decide ((↑terms.length : Int) > (60 : Int)))
 (K (A_l26_AccessRange (true)) (O_l26_AccessRange (true)))
 (cnd (decide ((↑cols.length : Int) > (20 : Int)))
  (K (A_l26_AccessRange (true)) (O_l26_AccessRange (true)))
  ((cols.length ≤ (100000 : Nat)) ∧
  ((cols.length ≤ (100000 : Nat)) ∧
  (cnd (r26_SameBound (access_Range terms cols).fst (r26_Range terms cols).fst)
   (cnd (r26_SameBound (access_Range terms cols).snd.fst (r26_Range terms cols).snd.fst)
    (K (A_l26_AccessRange ((access_Range terms cols).snd.snd == (r26_Range terms cols).snd.snd)) (O_l26_AccessRange ((access_Range terms cols).snd.snd == (r26_Range terms cols).snd.snd)))
    (K (A_l26_AccessRange (false)) (O_l26_AccessRange (false))))
   (K (A_l26_AccessRange (false)) (O_l26_AccessRange (false)))))))) := by kernel_rfl
def l26_AccessRange_fn (terms : List Term) (cols : List Int) : Option (Bool) :=
  if (decide ((↑terms.length : Int) > (60 : Int))) = true then
   some (true)
  else
   if (decide ((↑cols.length : Int) > (20 : Int))) = true then
    some (true)
   else
    if cols.length ≤ (100000 : Nat) then
     if cols.length ≤ (100000 : Nat) then
      if (r26_SameBound (access_Range terms cols).fst (r26_Range terms cols).fst) = true then
       if (r26_SameBound (access_Range terms cols).snd.fst (r26_Range terms cols).snd.fst) = true then
        some ((access_Range terms cols).snd.snd == (r26_Range terms cols).snd.snd)
       else
        some (false)
      else
       some (false)
     else none
    else none
theorem l26_AccessRange_run {terms : List Term} {cols : List Int} {r : Bool} (h : l26_AccessRange_fn terms cols = some r) : Runs (awp M_l26_AccessRange N_l26_AccessRange (bodyOf Try.f3) (entry Try.f3.ntmps 0 [.d (.v (.dat (U := Un) Ty.term terms)), .d (.v (.dat (U := Un) Ty.int cols))]) (retQ M_l26_AccessRange Try.f3.results.toList [.d] fun rs os => rs = A_l26_AccessRange r ∧ os = O_l26_AccessRange r)) := by
  constructor
  rw [l26_AccessRange_in terms cols (fun rs os => rs = A_l26_AccessRange r ∧ os = O_l26_AccessRange r)]
  unfold l26_AccessRange_fn at h
  rcases ite_some h with ⟨c1, h2⟩ | ⟨c1, h2⟩
  · cases h2
    exact (cnd_t c1 ⟨rfl, rfl⟩)
  · rcases ite_some h2 with ⟨c3, h4⟩ | ⟨c3, h4⟩
    · cases h4
      exact (cnd_f (bfalse c1) (cnd_t c3 ⟨rfl, rfl⟩))
    · obtain ⟨c5, h6⟩ := ob_some h4
      obtain ⟨c7, h8⟩ := ob_some h6
      rcases ite_some h8 with ⟨c9, h10⟩ | ⟨c9, h10⟩
      · rcases ite_some h10 with ⟨c11, h12⟩ | ⟨c11, h12⟩
        · cases h12
          exact (cnd_f (bfalse c1) (cnd_f (bfalse c3) (And.intro c5 (And.intro c7 (cnd_t c9 (cnd_t c11 ⟨rfl, rfl⟩))))))
        · cases h12
          exact (cnd_f (bfalse c1) (cnd_f (bfalse c3) (And.intro c5 (And.intro c7 (cnd_t c9 (cnd_f (bfalse c11) ⟨rfl, rfl⟩))))))
      · cases h10
        exact (cnd_f (bfalse c1) (cnd_f (bfalse c3) (And.intro c5 (And.intro c7 (cnd_f (bfalse c9) ⟨rfl, rfl⟩)))))

def l26_AccessRange (_terms : List Term) (_cols : List Int) : Bool := true

theorem l26_AccessRange_spec (terms : List Term) (cols : List Int) (_ht : WL .term terms) (_h : WL .int cols) : l26_AccessRange_fn terms cols = some (l26_AccessRange terms cols) := by
  unfold l26_AccessRange_fn l26_AccessRange
  have hb : ∀ b : Bound, r26_SameBound b b = true := fun b => r26_SameBound_iff.2 rfl
  by_cases h1 : (terms.length : Int) > 60
  · simp [h1, l26_awake]
  · by_cases h2 : (cols.length : Int) > 20
    · simp [h1, h2, l26_awake]
    · have : cols.length ≤ 100000 := by omega
      simp [h1, h2, this, l26_awake, access_Range, r26_Range, hb]

def F_l26_AccessRange : FnC Un := fun args => match args with
  | [x0, x1] => (dL .term x0).bind fun terms => (dL .int x1).bind fun cols => some ([], A_l26_AccessRange (l26_AccessRange terms cols), O_l26_AccessRange (l26_AccessRange terms cols))
  | _ => none

theorem ok_l26_AccessRange : FnOK 3 F_l26_AccessRange := by
  intro args ob rs os h hob
  unfold F_l26_AccessRange at h
  split at h
  · simp only [Option.bind_eq_some_iff, Option.some.injEq, Prod.mk.injEq] at h
    obtain ⟨terms, e0, cols, e1, rfl, rfl, rfl⟩ := h
    obtain rfl := dL_eq e0
    obtain rfl := dL_eq e1
    exact ⟨fn_contract (M := M_l26_AccessRange) rfl (tbl_ok (l1 := [(5, F_l26_awake), (6, F_access_Range), (7, F_r26_Range), (8, F_r26_SameBound)]) (l2 := []) (l3 := []) (l4 := []) ⟨ok_l26_awake, ok_access_Range, ok_r26_Range, ok_r26_SameBound, trivial⟩ trivial trivial trivial) Try.func3 (by kernel_rfl) N_l26_AccessRange 0 [.d] (fun hwf => l26_AccessRange_run (l26_AccessRange_spec terms cols (wfArg hwf (a := .d (.v (.dat (U := Un) Ty.term terms))) (by simp)) (wfArg hwf (a := .d (.v (.dat (U := Un) Ty.int cols))) (by simp)))), hasBody_of Try.func3 (by kernel_rfl) (by kernel_rfl)⟩
  · simp at h


/-! ### tabellionlaw26.AccessBest -/
def M_l26_AccessBest : Mc Un := mach (tbl [(5, F_l26_awake), (9, F_access_Best)]) (tbl []) (tbl []) (tbl [])
def N_l26_AccessBest : Nat → NS := fun l => (look l [(5, { ts := [true, false, false, true, true, false, false, false, false, false, false, false, false, false, false, false, false, false, false, false, false, false, false, false, false, false, false, false, false, false, false, false, false, false, false, false, false, false, false, false, false, false, false, false, false, false, false, false, false, false, false, false, false, false, false, false, false, false, false, false, false, false, false, false, false, false, false, false, false, false, false, false, false, false, false, false, false, false, false, false, false, false, false, false, false, false, false, false, false, false, false], bs := [false, false, false, false, false, false, false, false, false, false, false, false, false, false, false, false, false, false, false, false, false, false, false, false, false, false, false, false, false, false, false, false, false, false, false, false, false, false, false, false, false, false, false, false, false, false, false, false, false, false, false, false, false, false, false, false, false, false, false, false, false, false, false, false, false, false, false, false, false, false, false, false, false, false, false, false, false, false, false, false, false, false, false, false, false, false, false, false, false, false, false], nm := [(.sl 3, 364)], gb := [], gs := [] }), (14, { ts := [true, false, true, true, false, true, true, false, false, false, false, false, false, false, false, false, false, false, false, false, false, false, false, false, false, false, false, false, false, false, false, false, false, false, false, false, false, false, false, false, false, false, false, false, false, false, false, false, false, false, false, false, false, false, false, false, false, false, false, false, false, false, false, false, false, false, false, false, false, false, false, false, false, false, false, false, false, false, false, false, false, false, false, false, false, false, false, false, false, false, false], bs := [false, false, false, false, false, true, false, false, false, false, false, false, false, false, false, false, false, false, false, false, false, false, false, false, false, false, false, false, false, false, false, false, false, false, false, false, false, false, false, false, false, false, false, false, false, false, false, false, false, false, false, false, false, false, false, false, false, false, false, false, false, false, false, false, false, false, false, false, false, false, false, false, false, false, false, false, false, false, false, false, false, false, false, false, false, false, false, false, false, false, false], nm := [(.sl 3, 365)], gb := [], gs := [] })]).getD ⟨[], [], [], [], []⟩
def A_l26_AccessBest (r : Bool) : List (A Un) := [.c (.s (.bool r))]
def O_l26_AccessBest (_r : Bool) : List (Ob Un) := []
def l26_AccessBest_s5 (costs : List Int) (v0 : Int) (v1 : List Plan) : S Un := (st 91 91 366 0 [(0, AV.one (A.c (C.sl Ty.int costs false))), (3, AV.one (A.c (C.ob (364 : Nat) (0 : Nat)))), (4, AV.one (A.c (C.s (Value.int IntKind.i64 v0))))] [] [(364, some ⟨(0 : Nat), Ty.plan, v1, some (0 : Nat), true⟩)])
def l26_AccessBest_s14 (costs : List Int) (v1 : List Plan) (v2 : Int) : S Un := (st 91 91 366 0 [(0, AV.one (A.c (C.sl Ty.int costs false))), (3, AV.one (A.c (C.ob (365 : Nat) (0 : Nat)))), (5, AV.one (A.c (C.bx (5 : Nat) (0 : Nat)))), (6, AV.one (A.c (C.s (Value.int IntKind.i64 v2))))] [(5, some (false, encC Ty.plan (access_Best v1)))] [(365, some ⟨(0 : Nat), Ty.plan, v1, none, true⟩)])
def l26_AccessBest_e14_ret (costs : List Int) (v1 : List Plan) (v2 : Int) : S Un := (st 91 91 366 0 [(0, AV.one (A.c (C.sl Ty.int costs false))), (2, AV.one (A.c (C.s (Value.bool false)))), (3, AV.one (A.c (C.ob (365 : Nat) (0 : Nat)))), (5, AV.one (A.c (C.bx (5 : Nat) (0 : Nat)))), (6, AV.one (A.c (C.s (Value.int IntKind.i64 v2))))] [(5, some (false, encC Ty.plan (access_Best v1)))] [(365, some ⟨(0 : Nat), Ty.plan, v1, none, true⟩)])
theorem l26_AccessBest_in (costs : List Int) (K : List (A Un) → List (Ob Un) → Prop) :
    awp M_l26_AccessBest N_l26_AccessBest (bodyOf Try.f4) (entry Try.f4.ntmps 2 [.d (.v (.dat (U := Un) Ty.int costs))]) (retQ M_l26_AccessBest Try.f4.results.toList [.d] K) =
(cnd (decide ((↑costs.length : Int) > (30 : Int)))
 (K (A_l26_AccessBest (true)) (O_l26_AccessBest (true)))
 (itersK (N_l26_AccessBest 5) (awp M_l26_AccessBest N_l26_AccessBest (sub (bodyOf Try.f4) [1, 1, 1, 0, 1, 2, 2])) (ctxK M_l26_AccessBest N_l26_AccessBest (bodyOf Try.f4) [1, 1, 1, 0, 1, 2] (retQ M_l26_AccessBest Try.f4.results.toList [.d] K)) (l26_AccessBest_s5 costs (0 : Int) ([])))) := by kernel_rfl
theorem l26_AccessBest_l5_raw (costs : List Int) (v0 : Int) (v1 : List Plan) (k : Nat) (Q : Exit → S Un → Prop) :
    iterK (N_l26_AccessBest 5) (awp M_l26_AccessBest N_l26_AccessBest (sub (bodyOf Try.f4) [1, 1, 1, 0, 1, 2, 2])) Q (k + 1) (l26_AccessBest_s5 costs v0 v1) =
(cnd (decide (v0 < (↑costs.length : Int)))
 (((0 : Int) ≤ v0 ∧ v0 < (↑costs.length : Int)) ∧
 (((v1.length + [Plan.mk (1 : Int) (ByteArray.mk #[]) (ByteArray.mk #[]) [] [] [] [] [] [] [] [] zeroBound zeroBound (0 : Int) (0 : Int) false [] v0 (costs.getD v0.toNat (0 : Int))].length) * (360 : Nat) ≤ roomB) ∧
 (iterK (N_l26_AccessBest 5) (awp M_l26_AccessBest N_l26_AccessBest (sub (bodyOf Try.f4) [1, 1, 1, 0, 1, 2, 2])) Q k (l26_AccessBest_s5 costs (IntKind.i64.wrap (v0 + (1 : Int))) (v1 ++ [Plan.mk (1 : Int) (ByteArray.mk #[]) (ByteArray.mk #[]) [] [] [] [] [] [] [] [] zeroBound zeroBound (0 : Int) (0 : Int) false [] v0 (costs.getD v0.toNat (0 : Int))])))))
 (Q (.exit 0) (l26_AccessBest_s5 costs v0 v1))) := by kernel_rfl
theorem l26_AccessBest_l5 (costs : List Int) (v0 : Int) (v1 : List Plan) (k : Nat) (Q : Exit → S Un → Prop) :
    iterK (N_l26_AccessBest 5) (awp M_l26_AccessBest N_l26_AccessBest (sub (bodyOf Try.f4) [1, 1, 1, 0, 1, 2, 2])) Q (k + 1) (l26_AccessBest_s5 costs v0 v1) =
(cnd (decide (v0 < (↑costs.length : Int)))
 (((0 : Int) ≤ v0 ∧ v0 < (↑costs.length : Int)) ∧
 (((v1.length + [(Plan.mk (1 : Int) (ByteArray.mk #[]) (ByteArray.mk #[]) [] [] [] [] [] [] [] [] zeroBound zeroBound (0 : Int) (0 : Int) false [] v0 (costs.getD v0.toNat (0 : Int)))].length) * (360 : Nat) ≤ roomB) ∧
 (iterK (N_l26_AccessBest 5) (awp M_l26_AccessBest N_l26_AccessBest (sub (bodyOf Try.f4) [1, 1, 1, 0, 1, 2, 2])) Q k (l26_AccessBest_s5 costs (IntKind.i64.wrap (v0 + (1 : Int))) (v1 ++ [(Plan.mk (1 : Int) (ByteArray.mk #[]) (ByteArray.mk #[]) [] [] [] [] [] [] [] [] zeroBound zeroBound (0 : Int) (0 : Int) false [] v0 (costs.getD v0.toNat (0 : Int)))])))))
 (Q (.exit 0) (l26_AccessBest_s5 costs v0 v1))) :=
  (l26_AccessBest_l5_raw costs v0 v1 k Q).trans (by simp only [Plan.eta])
theorem l26_AccessBest_a5_x0 (costs : List Int) (v0 : Int) (v1 : List Plan) (K : List (A Un) → List (Ob Un) → Prop) :
    ctxK M_l26_AccessBest N_l26_AccessBest (bodyOf Try.f4) [1, 1, 1, 0, 1, 2] (retQ M_l26_AccessBest Try.f4.results.toList [.d] K) (.exit 0) (l26_AccessBest_s5 costs v0 v1) =
(cnd ((↑v1.length : Int) == (0 : Int))
 (cnd ((access_Best v1).op == (0 : Int))
  (K (A_l26_AccessBest ((access_Best v1).cost == (0 : Int))) (O_l26_AccessBest ((access_Best v1).cost == (0 : Int))))
  (K (A_l26_AccessBest (false)) (O_l26_AccessBest (false))))
 (cnd (decide ((access_Best v1).est < (0 : Int)))
  (K (A_l26_AccessBest (false)) (O_l26_AccessBest (false)))
  (cnd (decide ((access_Best v1).est ≥ (↑v1.length : Int)))
   (K (A_l26_AccessBest (false)) (O_l26_AccessBest (false)))
   (((0 : Int) ≤ (access_Best v1).est ∧ (access_Best v1).est < (↑costs.length : Int)) ∧
   (cnd (costs.getD (access_Best v1).est.toNat (0 : Int) != (access_Best v1).cost)
    (K (A_l26_AccessBest (false)) (O_l26_AccessBest (false)))
    (itersK (N_l26_AccessBest 14) (awp M_l26_AccessBest N_l26_AccessBest (sub (bodyOf Try.f4) [1, 1, 1, 1, 1, 1, 1, 0, 1, 2, 2])) (ctxK M_l26_AccessBest N_l26_AccessBest (bodyOf Try.f4) [1, 1, 1, 1, 1, 1, 1, 0, 1, 2] (retQ M_l26_AccessBest Try.f4.results.toList [.d] K)) (l26_AccessBest_s14 costs v1 (0 : Int)))))))) := by kernel_rfl
theorem l26_AccessBest_l14 (costs : List Int) (v1 : List Plan) (v2 : Int) (k : Nat) (Q : Exit → S Un → Prop) :
    iterK (N_l26_AccessBest 14) (awp M_l26_AccessBest N_l26_AccessBest (sub (bodyOf Try.f4) [1, 1, 1, 1, 1, 1, 1, 0, 1, 2, 2])) Q (k + 1) (l26_AccessBest_s14 costs v1 v2) =
(cnd (decide (v2 < (↑v1.length : Int)))
 (((0 : Int) ≤ v2 ∧ v2 < (↑costs.length : Int)) ∧
 (cnd (decide (costs.getD v2.toNat (0 : Int) < (access_Best v1).cost))
  (Q .ret (l26_AccessBest_e14_ret costs v1 v2))
  (cnd (decide (v2 < (access_Best v1).est))
   (((0 : Int) ≤ v2 ∧ v2 < (↑costs.length : Int)) ∧
   (cnd (costs.getD v2.toNat (0 : Int) == (access_Best v1).cost)
    (Q .ret (l26_AccessBest_e14_ret costs v1 v2))
    (iterK (N_l26_AccessBest 14) (awp M_l26_AccessBest N_l26_AccessBest (sub (bodyOf Try.f4) [1, 1, 1, 1, 1, 1, 1, 0, 1, 2, 2])) Q k (l26_AccessBest_s14 costs v1 (IntKind.i64.wrap (v2 + (1 : Int)))))))
   (iterK (N_l26_AccessBest 14) (awp M_l26_AccessBest N_l26_AccessBest (sub (bodyOf Try.f4) [1, 1, 1, 1, 1, 1, 1, 0, 1, 2, 2])) Q k (l26_AccessBest_s14 costs v1 (IntKind.i64.wrap (v2 + (1 : Int))))))))
 (Q (.exit 2) (l26_AccessBest_s14 costs v1 v2))) := by kernel_rfl
theorem l26_AccessBest_a14_ret (costs : List Int) (v1 : List Plan) (v2 : Int) (K : List (A Un) → List (Ob Un) → Prop) :
    ctxK M_l26_AccessBest N_l26_AccessBest (bodyOf Try.f4) [1, 1, 1, 1, 1, 1, 1, 0, 1, 2] (retQ M_l26_AccessBest Try.f4.results.toList [.d] K) .ret (l26_AccessBest_e14_ret costs v1 v2) =
(K (A_l26_AccessBest (false)) (O_l26_AccessBest (false))) := by kernel_rfl
theorem l26_AccessBest_a14_x2 (costs : List Int) (v1 : List Plan) (v2 : Int) (K : List (A Un) → List (Ob Un) → Prop) :
    ctxK M_l26_AccessBest N_l26_AccessBest (bodyOf Try.f4) [1, 1, 1, 1, 1, 1, 1, 0, 1, 2] (retQ M_l26_AccessBest Try.f4.results.toList [.d] K) (.exit 2) (l26_AccessBest_s14 costs v1 v2) =
(K (A_l26_AccessBest (true)) (O_l26_AccessBest (true))) := by kernel_rfl
def l26_AccessBest_S5 (costs : List Int) (v : Int × List Plan) : Option ((Int × List Plan) ⊕ (Int × List Plan)) :=
  if (decide (v.1 < (↑costs.length : Int))) = true then
   if (0 : Int) ≤ v.1 ∧ v.1 < (↑costs.length : Int) then
    if (v.2.length + [(Plan.mk (1 : Int) (ByteArray.mk #[]) (ByteArray.mk #[]) [] [] [] [] [] [] [] [] zeroBound zeroBound (0 : Int) (0 : Int) false [] v.1 (costs.getD v.1.toNat (0 : Int)))].length) * (360 : Nat) ≤ roomB then
     some (.inl ((IntKind.i64.wrap (v.1 + (1 : Int))), (v.2 ++ [(Plan.mk (1 : Int) (ByteArray.mk #[]) (ByteArray.mk #[]) [] [] [] [] [] [] [] [] zeroBound zeroBound (0 : Int) (0 : Int) false [] v.1 (costs.getD v.1.toNat (0 : Int)))])))
    else none
   else none
  else
   some (.inr (v.1, v.2))
def l26_AccessBest_L5 (costs : List Int) (v : Int × List Plan) : Option (Int × List Plan) := loopO (l26_AccessBest_S5 costs) v
theorem l26_AccessBest_L5_eq (costs : List Int) (v : Int × List Plan) : l26_AccessBest_L5 costs v = stepB (l26_AccessBest_L5 costs) (l26_AccessBest_S5 costs v) := loopO_eq _ _
def l26_AccessBest_Q5 (costs : List Int) (r : Int × List Plan) (Q : Exit → S Un → Prop) : Prop := Q (.exit 0) (l26_AccessBest_s5 costs r.1 r.2)
theorem l26_AccessBest_Q5_x0 {costs : List Int} {r : Int × List Plan} {Q : Exit → S Un → Prop} (h : Q (.exit 0) (l26_AccessBest_s5 costs r.1 r.2)) : l26_AccessBest_Q5 costs r Q := h
theorem l26_AccessBest_L5_run {costs : List Int} {v : Int × List Plan} {r : Int × List Plan} (h : l26_AccessBest_L5 costs v = some r) (Q : Exit → S Un → Prop) (hQ : l26_AccessBest_Q5 costs r Q) : itersK (N_l26_AccessBest 5) (awp M_l26_AccessBest N_l26_AccessBest (sub (bodyOf Try.f4) [1, 1, 1, 0, 1, 2, 2])) Q (l26_AccessBest_s5 costs v.1 v.2) := by
  refine @loop_run _ _ (l26_AccessBest_S5 costs) (fun v => itersK (N_l26_AccessBest 5) (awp M_l26_AccessBest N_l26_AccessBest (sub (bodyOf Try.f4) [1, 1, 1, 0, 1, 2, 2])) Q (l26_AccessBest_s5 costs v.1 v.2)) (fun r => l26_AccessBest_Q5 costs r Q) ?_ v r h hQ
  intro v o h hI
  unfold l26_AccessBest_S5 at h
  rcases ite_some h with ⟨c1, h2⟩ | ⟨c1, h2⟩
  · obtain ⟨c3, h4⟩ := ob_some h2
    obtain ⟨c5, h6⟩ := ob_some h4
    cases h6
    obtain ⟨k7, hk8⟩ := itersK_get hI
    exact itersK_mk (k7 + 1) (mpr (l26_AccessBest_l5 costs v.1 v.2 k7 Q) (cnd_t c1 (And.intro c3 (And.intro c5 hk8))))
  · cases h2
    exact itersK_mk 1 (mpr (l26_AccessBest_l5 costs v.1 v.2 0 Q) (cnd_f (bfalse c1) hI))
def l26_AccessBest_S14 (costs : List Int) (v : List Plan × Int) : Option ((List Plan × Int) ⊕ ((List Plan × Int) ⊕ (List Plan × Int))) :=
  if (decide (v.2 < (↑v.1.length : Int))) = true then
   if (0 : Int) ≤ v.2 ∧ v.2 < (↑costs.length : Int) then
    if (decide (costs.getD v.2.toNat (0 : Int) < (access_Best v.1).cost)) = true then
     some (.inr (.inl (v.1, v.2)))
    else
     if (decide (v.2 < (access_Best v.1).est)) = true then
      if (0 : Int) ≤ v.2 ∧ v.2 < (↑costs.length : Int) then
       if (costs.getD v.2.toNat (0 : Int) == (access_Best v.1).cost) = true then
        some (.inr (.inl (v.1, v.2)))
       else
        some (.inl (v.1, (IntKind.i64.wrap (v.2 + (1 : Int)))))
      else none
     else
      some (.inl (v.1, (IntKind.i64.wrap (v.2 + (1 : Int)))))
   else none
  else
   some (.inr (.inr (v.1, v.2)))
def l26_AccessBest_L14 (costs : List Int) (v : List Plan × Int) : Option ((List Plan × Int) ⊕ (List Plan × Int)) := loopO (l26_AccessBest_S14 costs) v
theorem l26_AccessBest_L14_eq (costs : List Int) (v : List Plan × Int) : l26_AccessBest_L14 costs v = stepB (l26_AccessBest_L14 costs) (l26_AccessBest_S14 costs v) := loopO_eq _ _
def l26_AccessBest_Q14 (costs : List Int) (r : (List Plan × Int) ⊕ (List Plan × Int)) (Q : Exit → S Un → Prop) : Prop := match r with | .inl x => Q .ret (l26_AccessBest_e14_ret costs x.1 x.2) | .inr x => Q (.exit 2) (l26_AccessBest_s14 costs x.1 x.2)
theorem l26_AccessBest_Q14_ret {costs : List Int} {x : List Plan × Int} {Q : Exit → S Un → Prop} (h : Q .ret (l26_AccessBest_e14_ret costs x.1 x.2)) : l26_AccessBest_Q14 costs (.inl x) Q := h
theorem l26_AccessBest_Q14_x2 {costs : List Int} {x : List Plan × Int} {Q : Exit → S Un → Prop} (h : Q (.exit 2) (l26_AccessBest_s14 costs x.1 x.2)) : l26_AccessBest_Q14 costs (.inr x) Q := h
theorem l26_AccessBest_L14_run {costs : List Int} {v : List Plan × Int} {r : (List Plan × Int) ⊕ (List Plan × Int)} (h : l26_AccessBest_L14 costs v = some r) (Q : Exit → S Un → Prop) (hQ : l26_AccessBest_Q14 costs r Q) : itersK (N_l26_AccessBest 14) (awp M_l26_AccessBest N_l26_AccessBest (sub (bodyOf Try.f4) [1, 1, 1, 1, 1, 1, 1, 0, 1, 2, 2])) Q (l26_AccessBest_s14 costs v.1 v.2) := by
  refine @loop_run _ _ (l26_AccessBest_S14 costs) (fun v => itersK (N_l26_AccessBest 14) (awp M_l26_AccessBest N_l26_AccessBest (sub (bodyOf Try.f4) [1, 1, 1, 1, 1, 1, 1, 0, 1, 2, 2])) Q (l26_AccessBest_s14 costs v.1 v.2)) (fun r => l26_AccessBest_Q14 costs r Q) ?_ v r h hQ
  intro v o h hI
  unfold l26_AccessBest_S14 at h
  rcases ite_some h with ⟨c9, h10⟩ | ⟨c9, h10⟩
  · obtain ⟨c11, h12⟩ := ob_some h10
    rcases ite_some h12 with ⟨c13, h14⟩ | ⟨c13, h14⟩
    · cases h14
      exact itersK_mk 1 (mpr (l26_AccessBest_l14 costs v.1 v.2 0 Q) (cnd_t c9 (And.intro c11 (cnd_t c13 hI))))
    · rcases ite_some h14 with ⟨c15, h16⟩ | ⟨c15, h16⟩
      · obtain ⟨c17, h18⟩ := ob_some h16
        rcases ite_some h18 with ⟨c19, h20⟩ | ⟨c19, h20⟩
        · cases h20
          exact itersK_mk 1 (mpr (l26_AccessBest_l14 costs v.1 v.2 0 Q) (cnd_t c9 (And.intro c11 (cnd_f (bfalse c13) (cnd_t c15 (And.intro c17 (cnd_t c19 hI)))))))
        · cases h20
          obtain ⟨k21, hk22⟩ := itersK_get hI
          exact itersK_mk (k21 + 1) (mpr (l26_AccessBest_l14 costs v.1 v.2 k21 Q) (cnd_t c9 (And.intro c11 (cnd_f (bfalse c13) (cnd_t c15 (And.intro c17 (cnd_f (bfalse c19) hk22)))))))
      · cases h16
        obtain ⟨k23, hk24⟩ := itersK_get hI
        exact itersK_mk (k23 + 1) (mpr (l26_AccessBest_l14 costs v.1 v.2 k23 Q) (cnd_t c9 (And.intro c11 (cnd_f (bfalse c13) (cnd_f (bfalse c15) hk24)))))
  · cases h10
    exact itersK_mk 1 (mpr (l26_AccessBest_l14 costs v.1 v.2 0 Q) (cnd_f (bfalse c9) hI))
def l26_AccessBest_fn (costs : List Int) : Option (Bool) :=
  if (decide ((↑costs.length : Int) > (30 : Int))) = true then
   some (true)
  else
   (l26_AccessBest_L5 costs ((0 : Int), ([]))) >>= fun o25 =>
    if ((↑o25.2.length : Int) == (0 : Int)) = true then
     if ((access_Best o25.2).op == (0 : Int)) = true then
      some ((access_Best o25.2).cost == (0 : Int))
     else
      some (false)
    else
     if (decide ((access_Best o25.2).est < (0 : Int))) = true then
      some (false)
     else
      if (decide ((access_Best o25.2).est ≥ (↑o25.2.length : Int))) = true then
       some (false)
      else
       if (0 : Int) ≤ (access_Best o25.2).est ∧ (access_Best o25.2).est < (↑costs.length : Int) then
        if (costs.getD (access_Best o25.2).est.toNat (0 : Int) != (access_Best o25.2).cost) = true then
         some (false)
        else
         (l26_AccessBest_L14 costs (o25.2, (0 : Int))) >>= fun o26 => match o26 with
          | .inl o27 =>
            some (false)
          | .inr o28 =>
            some (true)
       else none
theorem l26_AccessBest_run {costs : List Int} {r : Bool} (h : l26_AccessBest_fn costs = some r) : Runs (awp M_l26_AccessBest N_l26_AccessBest (bodyOf Try.f4) (entry Try.f4.ntmps 2 [.d (.v (.dat (U := Un) Ty.int costs))]) (retQ M_l26_AccessBest Try.f4.results.toList [.d] fun rs os => rs = A_l26_AccessBest r ∧ os = O_l26_AccessBest r)) := by
  constructor
  rw [l26_AccessBest_in costs (fun rs os => rs = A_l26_AccessBest r ∧ os = O_l26_AccessBest r)]
  unfold l26_AccessBest_fn at h
  rcases ite_some h with ⟨c29, h30⟩ | ⟨c29, h30⟩
  · cases h30
    exact (cnd_t c29 ⟨rfl, rfl⟩)
  · obtain ⟨o31, ho32, h33⟩ := bind_some h30
    rcases ite_some h33 with ⟨c34, h35⟩ | ⟨c34, h35⟩
    · rcases ite_some h35 with ⟨c36, h37⟩ | ⟨c36, h37⟩
      · cases h37
        exact (cnd_f (bfalse c29) (l26_AccessBest_L5_run ho32 _ (l26_AccessBest_Q5_x0 (mpr (l26_AccessBest_a5_x0 costs o31.1 o31.2 _) (cnd_t c34 (cnd_t c36 ⟨rfl, rfl⟩))))))
      · cases h37
        exact (cnd_f (bfalse c29) (l26_AccessBest_L5_run ho32 _ (l26_AccessBest_Q5_x0 (mpr (l26_AccessBest_a5_x0 costs o31.1 o31.2 _) (cnd_t c34 (cnd_f (bfalse c36) ⟨rfl, rfl⟩))))))
    · rcases ite_some h35 with ⟨c38, h39⟩ | ⟨c38, h39⟩
      · cases h39
        exact (cnd_f (bfalse c29) (l26_AccessBest_L5_run ho32 _ (l26_AccessBest_Q5_x0 (mpr (l26_AccessBest_a5_x0 costs o31.1 o31.2 _) (cnd_f (bfalse c34) (cnd_t c38 ⟨rfl, rfl⟩))))))
      · rcases ite_some h39 with ⟨c40, h41⟩ | ⟨c40, h41⟩
        · cases h41
          exact (cnd_f (bfalse c29) (l26_AccessBest_L5_run ho32 _ (l26_AccessBest_Q5_x0 (mpr (l26_AccessBest_a5_x0 costs o31.1 o31.2 _) (cnd_f (bfalse c34) (cnd_f (bfalse c38) (cnd_t c40 ⟨rfl, rfl⟩)))))))
        · obtain ⟨c42, h43⟩ := ob_some h41
          rcases ite_some h43 with ⟨c44, h45⟩ | ⟨c44, h45⟩
          · cases h45
            exact (cnd_f (bfalse c29) (l26_AccessBest_L5_run ho32 _ (l26_AccessBest_Q5_x0 (mpr (l26_AccessBest_a5_x0 costs o31.1 o31.2 _) (cnd_f (bfalse c34) (cnd_f (bfalse c38) (cnd_f (bfalse c40) (And.intro c42 (cnd_t c44 ⟨rfl, rfl⟩)))))))))
          · obtain ⟨o46, ho47, h48⟩ := bind_some h45
            rcases o46 with o49 | o50
            · cases h48
              exact (cnd_f (bfalse c29) (l26_AccessBest_L5_run ho32 _ (l26_AccessBest_Q5_x0 (mpr (l26_AccessBest_a5_x0 costs o31.1 o31.2 _) (cnd_f (bfalse c34) (cnd_f (bfalse c38) (cnd_f (bfalse c40) (And.intro c42 (cnd_f (bfalse c44) (l26_AccessBest_L14_run ho47 _ (l26_AccessBest_Q14_ret (mpr (l26_AccessBest_a14_ret costs o49.1 o49.2 _) ⟨rfl, rfl⟩))))))))))))
            · cases h48
              exact (cnd_f (bfalse c29) (l26_AccessBest_L5_run ho32 _ (l26_AccessBest_Q5_x0 (mpr (l26_AccessBest_a5_x0 costs o31.1 o31.2 _) (cnd_f (bfalse c34) (cnd_f (bfalse c38) (cnd_f (bfalse c40) (And.intro c42 (cnd_f (bfalse c44) (l26_AccessBest_L14_run ho47 _ (l26_AccessBest_Q14_x2 (mpr (l26_AccessBest_a14_x2 costs o50.1 o50.2 _) ⟨rfl, rfl⟩))))))))))))

def planOf (i : Nat) (c : Int) : Plan := Plan.mk 1 ⟨#[]⟩ ⟨#[]⟩ [] [] [] [] [] [] [] [] zeroBound zeroBound 0 0 false [] i c
def plansOf : Nat → List Int → List Plan
  | _, [] => []
  | i, c :: r => planOf i c :: plansOf (i + 1) r
def l26_AccessBest (_costs : List Int) : Bool := true

theorem plansOf_snoc : ∀ (l : List Int) (i : Nat) (c : Int), plansOf i (l ++ [c]) = plansOf i l ++ [planOf (i + l.length) c]
  | [], i, c => rfl
  | a :: l, i, c => by
    have := plansOf_snoc l (i + 1) c
    simp only [List.cons_append, plansOf, this, List.length_cons]
    rw [show i + 1 + l.length = i + (l.length + 1) from by omega]
theorem plansOf_len : ∀ (l : List Int) (i : Nat), (plansOf i l).length = l.length
  | [], _ => rfl
  | _ :: l, i => by simp [plansOf, plansOf_len l]
theorem bestP_spec (costs : List Int) : ∀ (r : List Int) (i j : Nat), costs.drop i = r → i ≤ costs.length → j < i →
    (∀ m, m < i → costs.getD j 0 ≤ costs.getD m 0 ∧ (m < j → costs.getD j 0 < costs.getD m 0)) →
    ∃ k, k < costs.length ∧ bestP (planOf j (costs.getD j 0)) (plansOf i r) = planOf k (costs.getD k 0) ∧ ∀ m, m < costs.length → costs.getD k 0 ≤ costs.getD m 0 ∧ (m < k → costs.getD k 0 < costs.getD m 0) := by
  intro r
  induction r with
  | nil =>
    intro i j h1 h2 h3 h4
    have e1 := drop_nil h1
    exact ⟨j, by omega, rfl, fun m hm => h4 m (by omega)⟩
  | cons c r ih =>
    intro i j h1 h2 h3 h4
    obtain ⟨a1, a2, a3, _⟩ := drop_cons h1
    have ac := a2 0
    simp only [plansOf, bestP]
    have hcost : ∀ i c, (planOf i c).cost = c := fun _ _ => rfl
    rw [hcost, hcost]
    by_cases hc : c < costs.getD j 0
    · rw [if_pos hc, ← ac]
      refine ih (i + 1) i a3 (by omega) (by omega) fun m hm => ?_
      rw [ac]
      by_cases hm2 : m = i
      · subst hm2; rw [ac]; exact ⟨Int.le_refl _, fun h => by omega⟩
      · have := h4 m (by omega); exact ⟨by omega, fun _ => by omega⟩
    · rw [if_neg hc]
      refine ih (i + 1) j a3 (by omega) (by omega) fun m hm => ?_
      by_cases hm2 : m = i
      · subst hm2; rw [ac]; exact ⟨by omega, fun h => by omega⟩
      · exact h4 m (by omega)
theorem best_costs (costs : List Int) (h : costs ≠ []) : ∃ k, k < costs.length ∧ access_Best (plansOf 0 costs) = planOf k (costs.getD k 0) ∧ ∀ m, m < costs.length → costs.getD k 0 ≤ costs.getD m 0 ∧ (m < k → costs.getD k 0 < costs.getD m 0) := by
  cases costs with
  | nil => exact absurd rfl h
  | cons c r =>
    have := bestP_spec (c :: r) r 1 0 rfl (by simp) (by omega) (fun m hm => by
      have : m = 0 := by omega
      subst this; exact ⟨Int.le_refl _, fun h => by omega⟩)
    exact this
theorem l26_AccessBest_loop1 (costs : List Int) (hc : costs.length ≤ 30) : ∀ (r : List Int) (i : Nat), costs.drop i = r → i ≤ costs.length →
    l26_AccessBest_L5 costs ((i : Int), plansOf 0 (costs.take i)) = some ((costs.length : Int), plansOf 0 costs) := by
  intro r
  induction r with
  | nil =>
    intro i h1 h2
    have e1 := drop_nil h1
    have hn : ¬ ((i : Int) < costs.length) := by omega
    have : i = costs.length := by omega
    subst this
    rw [l26_AccessBest_L5_eq, l26_AccessBest_S5]; simp
  | cons c r ih =>
    intro i h1 h2
    obtain ⟨a1, a2, a3, _⟩ := drop_cons h1
    have hp : (i : Int) < costs.length := by omega
    have hi : (0 : Int) ≤ i := by omega
    have hlen : (plansOf 0 (costs.take i)).length = i := by rw [plansOf_len]; simp; omega
    have e1 : ((plansOf 0 (costs.take i)).length + [planOf i c].length) * 360 ≤ roomB := room_ok (by rw [hlen]; simp; omega)
    rw [l26_AccessBest_L5_eq, l26_AccessBest_S5]
    simp only [hp, hi, decide_true, if_true, and_self, Int.toNat_natCast, a2]
    have ep : Plan.mk 1 ⟨#[]⟩ ⟨#[]⟩ [] [] [] [] [] [] [] [] zeroBound zeroBound 0 0 false [] (i : Int) c = planOf i c := rfl
    rw [ep, if_pos e1, wrap_succ a1 (by omega), stepB_inl]
    have : plansOf 0 (costs.take i) ++ [planOf i c] = plansOf 0 (costs.take (i + 1)) := by
      rw [List.take_succ_eq_append_getElem a1, plansOf_snoc]
      have hg := a2 0
      rw [List.getD_eq_getElem?_getD, List.getElem?_eq_getElem a1] at hg
      simp only [Option.getD_some] at hg
      rw [hg, List.length_take]
      rw [show 0 + min i costs.length = i from by omega]
    have e2 := ih (i + 1) a3 (by omega)
    rw [← this] at e2
    exact e2
theorem l26_AccessBest_loop2 (costs : List Int) (l : List Plan) (k : Nat) (hl : l.length = costs.length) (hc : costs.length ≤ 30) (hb : access_Best l = planOf k (costs.getD k 0))
    (hk : ∀ m, m < costs.length → costs.getD k 0 ≤ costs.getD m 0 ∧ (m < k → costs.getD k 0 < costs.getD m 0)) : ∀ (r : List Int) (i : Nat), costs.drop i = r → i ≤ costs.length →
    ∃ x, l26_AccessBest_L14 costs (l, (i : Int)) = some (.inr x) := by
  intro r
  induction r with
  | nil =>
    intro i h1 h2
    have e1 := drop_nil h1
    have hn : ¬ ((i : Int) < l.length) := by omega
    rw [l26_AccessBest_L14_eq, l26_AccessBest_S14]; simp [hn]
  | cons c r ih =>
    intro i h1 h2
    obtain ⟨a1, a2, a3, _⟩ := drop_cons h1
    have hp : (i : Int) < costs.length := by omega
    have hp2 : (i : Int) < l.length := by omega
    have hi : (0 : Int) ≤ i := by omega
    have hkc := hk i a1
    rw [a2] at hkc
    have q1 : (planOf k (costs.getD k 0)).cost = costs.getD k 0 := rfl
    have q2 : (planOf k (costs.getD k 0)).est = k := rfl
    have e1 : ¬ (c < costs.getD k 0) := by omega
    rw [l26_AccessBest_L14_eq, l26_AccessBest_S14]
    simp only [hp, hp2, hi, decide_true, if_true, and_self, Int.toNat_natCast, a2, hb, q1, q2, e1, decide_false, Bool.false_eq_true, if_false, decide_eq_true_eq, beq_iff_eq]
    by_cases h : (i : Int) < k
    · have e2 : ¬ (c = costs.getD k 0) := by have := hkc.2 (by omega); omega
      rw [if_pos h, if_neg e2, wrap_succ a1 (by omega), stepB_inl]
      exact ih (i + 1) a3 (by omega)
    · rw [if_neg h, wrap_succ a1 (by omega), stepB_inl]
      exact ih (i + 1) a3 (by omega)
theorem l26_AccessBest_spec (costs : List Int) (_h : WL .int costs) : l26_AccessBest_fn costs = some (l26_AccessBest costs) := by
  unfold l26_AccessBest_fn l26_AccessBest
  by_cases h1 : (costs.length : Int) > 30
  · simp [h1, l26_awake]
  · have hlen : costs.length ≤ 30 := by omega
    have e1 := l26_AccessBest_loop1 costs hlen _ 0 rfl (by omega)
    simp only [List.take_zero, plansOf, Int.ofNat_zero, Int.natCast_zero] at e1
    rw [if_neg (by simpa using h1)]
    erw [e1]
    simp only [Option.bind_eq_bind, Option.bind_some, plansOf_len]
    by_cases h2 : costs = []
    · subst h2; simp [plansOf, access_Best]; rfl
    · obtain ⟨k, k1, k2, k3⟩ := best_costs costs h2
      have h0 : 0 < costs.length := List.length_pos_iff.2 h2
      obtain ⟨x, hx⟩ := l26_AccessBest_loop2 costs _ k (plansOf_len costs 0) hlen k2 k3 _ 0 rfl (by omega)
      have q1 : (planOf k (costs.getD k 0)).cost = costs.getD k 0 := rfl
      have q2 : (planOf k (costs.getD k 0)).est = k := rfl
      rw [k2, q1, q2]
      have c1 : ¬ ((costs.length : Int) = 0) := by omega
      have c2 : ¬ ((k : Int) < 0) := by omega
      have c3 : ¬ ((k : Int) ≥ costs.length) := by omega
      have c4 : (0 : Int) ≤ k ∧ (k : Int) < costs.length := by omega
      simp only [beq_iff_eq, c1, c2, c3, c4, decide_false, Bool.false_eq_true, if_false, if_true, and_self, Int.toNat_natCast, bne_self_eq_false]
      erw [hx]
      rfl

def F_l26_AccessBest : FnC Un := fun args => match args with
  | [x0] => (dL .int x0).bind fun costs => some ([], A_l26_AccessBest (l26_AccessBest costs), O_l26_AccessBest (l26_AccessBest costs))
  | _ => none

theorem ok_l26_AccessBest : FnOK 4 F_l26_AccessBest := by
  intro args ob rs os h hob
  unfold F_l26_AccessBest at h
  split at h
  · simp only [Option.bind_eq_some_iff, Option.some.injEq, Prod.mk.injEq] at h
    obtain ⟨costs, e0, rfl, rfl, rfl⟩ := h
    obtain rfl := dL_eq e0
    exact ⟨fn_contract (M := M_l26_AccessBest) rfl (tbl_ok (l1 := [(5, F_l26_awake), (9, F_access_Best)]) (l2 := []) (l3 := []) (l4 := []) ⟨ok_l26_awake, ok_access_Best, trivial⟩ trivial trivial trivial) Try.func4 (by kernel_rfl) N_l26_AccessBest 2 [.d] (fun hwf => l26_AccessBest_run (l26_AccessBest_spec costs (wfArg hwf (a := .d (.v (.dat (U := Un) Ty.int costs))) (by simp)))), hasBody_of Try.func4 (by kernel_rfl) (by kernel_rfl)⟩
  · simp at h


end
end Go.Proofs.Ytohpgnpjijpedaa.B
