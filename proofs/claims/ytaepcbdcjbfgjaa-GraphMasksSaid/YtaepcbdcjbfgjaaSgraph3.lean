/- Functions: graph3. (Printed by wip/tools/mkfn.py out of wip/src/graph3.src.) -/
import Derived.Test.YtaepcbdcjbfgjaaBAwf
import Derived.Test.YtaepcbdcjbfgjaaSspec
import Derived.Test.YtaepcbdcjbfgjaaSterms
import Derived.Test.YtaepcbdcjbfgjaaStermsz
import Derived.Test.YtaepcbdcjbfgjaaSconjspec
import Derived.Test.YtaepcbdcjbfgjaaSsorted
import Derived.Test.YtaepcbdcjbfgjaaSbitsub
import Derived.Test.YtaepcbdcjbfgjaaSbits2
import Derived.Test.YtaepcbdcjbfgjaaSconjU
import Derived.Test.YtaepcbdcjbfgjaaSconj2
import Derived.Test.YtaepcbdcjbfgjaaSconj3
import Derived.Test.YtaepcbdcjbfgjaaSconj4
namespace Go.Proofs.Ytaepcbdcjbfgjaa.B
open Go Go.RowKit
set_option maxRecDepth 100000
noncomputable section
attribute [local irreducible] awp ctxK itersK iterK retQ retGQ awf ctxF loopF

/-! ### the relations of the page's example -/
def exT : Rel := .mk 1 ⟨#[116]⟩ [⟨⟨#[]⟩, ⟨#[97]⟩, 2⟩, ⟨⟨#[]⟩, ⟨#[98]⟩, 2⟩] [] [] [] [] 0 0 false []
def exU : Rel := .mk 1 ⟨#[117]⟩ [⟨⟨#[]⟩, ⟨#[99]⟩, 2⟩] [] [] [] [] 0 0 false []
def exE : Term := .mk 11 zeroVal 0 0 ⟨#[]⟩ [.mk 2 zeroVal 0 0 ⟨#[]⟩ [] [] 2, .mk 2 zeroVal 0 2 ⟨#[]⟩ [] [] 2] [] 1
def exJ : Rel := .mk 5 ⟨#[]⟩ [⟨⟨#[]⟩, ⟨#[97]⟩, 2⟩, ⟨⟨#[]⟩, ⟨#[98]⟩, 2⟩, ⟨⟨#[]⟩, ⟨#[99]⟩, 2⟩] [exT, exU] [exE] [] [] 0 0 false []
def exOK (r : Rel) : Prop := r = exT ∨ r = exU ∨ r = exJ
def graph_joined (r : Rel) : Bool := r.op == 5
def algebra_Width (r : Rel) : Int := r.cols.length
theorem cndO_tt {α : Type} {b : Bool} (h : b = true) {x y : Option α} : cndO b x y = x := by rw [h]; rfl
theorem cndO_ff {α : Type} {b : Bool} (h : b = false) {x y : Option α} : cndO b x y = y := by rw [h]; rfl
theorem ex_hts : exJ.ht = 3 ∧ (Rel.ids (exJ.kids.getD 0 zeroRel)).ht = 1 ∧ (Rel.ids (exJ.kids.getD 1 zeroRel)).ht = 1 := ⟨by kernel_rfl, by kernel_rfl, by kernel_rfl⟩
theorem ex_kid0 : exOK (Rel.ids (exJ.kids.getD 0 zeroRel)) := .inl (by kernel_rfl)
theorem ex_kid1 : exOK (Rel.ids (exJ.kids.getD 1 zeroRel)) := .inr (.inl (by kernel_rfl))

def A_graph_joined (r : Bool) : List (A Un) := [.c (.s (.bool r))]
def O_graph_joined (_r : Bool) : List (Ob Un) := []

def Fm_graph_joined (m : Nat) : FnC Un := fun args => match args with
  | [x0] => (dS .rel x0).bind fun r => some ([r.ht < m, exOK r], A_graph_joined (graph_joined r), O_graph_joined (graph_joined r))
  | _ => none

/-! ### graph.joined -/
def M_graph_joined (m : Nat) : Mc Un := mach (tbl [(84, Fm_graph_joined m)]) (tbl []) (tbl []) (tbl []) (tbl [])
def R_graph_joined (r : Bool) : RF Un := (A_graph_joined r, O_graph_joined r)
def N_graph_joined : Nat → NS := fun l => (look l []).getD ⟨[], [], [], [], []⟩
def graph_joined_fn (m : Nat) (r : Rel) : Option (RF Un) := awf (M_graph_joined m) N_graph_joined (bodyOf Try.f84) (entry Try.f84.ntmps 0 [.d (.agg (enc Ty.rel r))]) (retF (M_graph_joined m) Try.f84.results.toList [.d])
theorem graph_joined_in (m : Nat) (r : Rel) : graph_joined_fn m r =
 cndO (r.op == 5)
  (some (R_graph_joined ((↑r.kids.length : Int) == (2 : Int))))
  (cndO (r.op == 3)
   (cndO ((↑r.kids.length : Int) == (1 : Int))
    (obO ((0 : Int) ≤ (0 : Int) ∧ (0 : Int) < (↑r.kids.length : Int))
     (obO ((Rel.ids (r.kids.getD 0 zeroRel)).ht < m)
      (obO (exOK (Rel.ids (r.kids.getD 0 zeroRel)))
       (some (R_graph_joined (graph_joined (Rel.ids (r.kids.getD 0 zeroRel))))))))
    (some (R_graph_joined (false))))
   (some (R_graph_joined (false)))) := by kernel_rfl

theorem graph_joined_spec (m : Nat) (r : Rel) (_hr : WS .rel r) (_hm : r.ht < m + 1) (h : exOK r) : graph_joined_fn m r = some (R_graph_joined (graph_joined r)) := by
  rw [graph_joined_in]
  rcases h with rfl | rfl | rfl
  · kernel_rfl
  · kernel_rfl
  · kernel_rfl

theorem okm_graph_joined (m : Nat) (h_graph_joined : FnOK 84 (Fm_graph_joined m)) : FnOK 84 (Fm_graph_joined (m + 1)) := by
  intro args ob rs os h hob
  unfold Fm_graph_joined at h
  split at h
  · simp only [Option.bind_eq_some_iff, Option.some.injEq, Prod.mk.injEq] at h
    obtain ⟨r, e0, rfl, rfl, rfl⟩ := h
    obtain rfl := dS_eq e0
    exact ⟨fn_contractF (M := (M_graph_joined m)) rfl (tbl_ok (l1 := [(84, Fm_graph_joined m)]) (l2 := []) (l3 := []) (l4 := []) (l5 := []) ⟨h_graph_joined, trivial⟩ trivial trivial trivial trivial) Try.func84 (by kernel_rfl) N_graph_joined 0 [.d] (fun hwf => (graph_joined_spec m r (wfArg hwf (a := .d (.agg (enc Ty.rel r))) (List.mem_of_getElem? (i := 0) rfl)) (hob _ (List.mem_of_getElem? (i := 0) rfl)) (hob _ (List.mem_of_getElem? (i := 1) rfl)))), hasBody_of Try.func84 (by kernel_rfl) (by kernel_rfl)⟩
  · simp at h


theorem okAll_joinedG : ∀ m, FnOK 84 (Fm_graph_joined m)
  | 0 => by
    skip
    intro args ob rs os h hob
    unfold Fm_graph_joined at h
    split at h
    · simp only [Option.bind_eq_some_iff, Option.some.injEq, Prod.mk.injEq] at h
      obtain ⟨_, _, rfl, _, _⟩ := h
      exact absurd (hob _ (List.mem_of_getElem? (i := 0) rfl)) (Nat.not_lt_zero _)
    · simp at h
  | m + 1 => by
    have ih := okAll_joinedG m
    exact okm_graph_joined m ih

def F_graph_joined : FnC Un := fun args => match args with
  | [x0] => (dS .rel x0).bind fun r => some ([exOK r], A_graph_joined (graph_joined r), O_graph_joined (graph_joined r))
  | _ => none

theorem ok_graph_joined : FnOK 84 F_graph_joined := by
  intro args ob rs os h hob
  unfold F_graph_joined at h
  split at h
  · simp only [Option.bind_eq_some_iff, Option.some.injEq, Prod.mk.injEq] at h
    obtain ⟨r, e0, rfl, rfl, rfl⟩ := h
    refine ((okAll_joinedG (r.ht + 1))) _ [r.ht < r.ht + 1, exOK r] _ _ (?_ : Fm_graph_joined (r.ht + 1) _ = some _) ?_
    · unfold Fm_graph_joined
      simp only [e0, Option.bind_some]
    · intro p hp
      simp only [List.mem_cons, List.not_mem_nil, or_false] at hp
      rcases hp with rfl | rfl
      · exact Nat.lt_succ_self _
      · exact hob _ (List.mem_of_getElem? (i := 0) rfl)
  · simp at h

/-! ### algebra.kids -/
def M_algebra_kids : Mc Un := mach (tbl []) (tbl []) (tbl []) (tbl []) (tbl [])
def A_algebra_kids (r : Int) : List (A Un) := [.c (.s (.int .i64 r))]
def O_algebra_kids (_r : Int) : List (Ob Un) := []
def R_algebra_kids (r : Int) : RF Un := (A_algebra_kids r, O_algebra_kids r)
def N_algebra_kids : Nat → NS := fun l => (look l []).getD ⟨[], [], [], [], []⟩
def algebra_kids_fn (op : Int) : Option (RF Un) := awf M_algebra_kids N_algebra_kids (bodyOf Try.f103) (entry Try.f103.ntmps 0 [.d (.v (.s (.int .i64 op)))]) (retF M_algebra_kids Try.f103.results.toList [.d])
def algebra_kids_t1 (op : Int) : Option (RF Un) :=
 cndO (op == 5)
  (cndO (op == 5)
   (some (R_algebra_kids ((2 : Int))))
   (some (R_algebra_kids ((-1 : Int)))))
  (cndO (op == 6)
   (cndO (op == 6)
    (some (R_algebra_kids ((2 : Int))))
    (some (R_algebra_kids ((-1 : Int)))))
   (cndO (op == 9)
    (cndO (op == 9)
     (some (R_algebra_kids ((2 : Int))))
     (some (R_algebra_kids ((-1 : Int)))))
    (cndO (op == 10)
     (cndO (op == 10)
      (some (R_algebra_kids ((2 : Int))))
      (some (R_algebra_kids ((-1 : Int)))))
     (cndO (op == 11)
      (some (R_algebra_kids ((2 : Int))))
      (some (R_algebra_kids ((-1 : Int))))))))
def algebra_kids_t2 (op : Int) : Option (RF Un) :=
 cndO (op == 3)
  (cndO (op == 3)
   (some (R_algebra_kids ((1 : Int))))
   (algebra_kids_t1 op))
  (cndO (op == 4)
   (cndO (op == 4)
    (some (R_algebra_kids ((1 : Int))))
    (algebra_kids_t1 op))
   (cndO (op == 7)
    (cndO (op == 7)
     (some (R_algebra_kids ((1 : Int))))
     (algebra_kids_t1 op))
    (cndO (op == 8)
     (cndO (op == 8)
      (some (R_algebra_kids ((1 : Int))))
      (algebra_kids_t1 op))
     (cndO (op == 12)
      (cndO (op == 12)
       (some (R_algebra_kids ((1 : Int))))
       (algebra_kids_t1 op))
      (cndO (op == 13)
       (some (R_algebra_kids ((1 : Int))))
       (algebra_kids_t1 op))))))
theorem algebra_kids_in (op : Int) : algebra_kids_fn op =
 cndO (op == 1)
  (cndO (op == 1)
   (some (R_algebra_kids ((0 : Int))))
   (algebra_kids_t2 op))
  (cndO (op == 2)
   (some (R_algebra_kids ((0 : Int))))
   (algebra_kids_t2 op)) := by kernel_rfl

def algebra_kids (op : Int) : Int := if op = 1 ∨ op = 2 then 0 else if op = 3 ∨ op = 4 ∨ op = 7 ∨ op = 8 ∨ op = 12 ∨ op = 13 then 1 else if op = 5 ∨ op = 6 ∨ op = 9 ∨ op = 10 ∨ op = 11 then 2 else -1
theorem algebra_kids_spec (op : Int) (_h : WI op) : algebra_kids_fn op = some (R_algebra_kids (algebra_kids op)) := by
  by_cases h1 : op = 1
  · subst h1; rw [algebra_kids_in]; kernel_rfl
  by_cases h2 : op = 2
  · subst h2; rw [algebra_kids_in]; kernel_rfl
  by_cases h3 : op = 3
  · subst h3; rw [algebra_kids_in]; kernel_rfl
  by_cases h4 : op = 4
  · subst h4; rw [algebra_kids_in]; kernel_rfl
  by_cases h5 : op = 5
  · subst h5; rw [algebra_kids_in]; kernel_rfl
  by_cases h6 : op = 6
  · subst h6; rw [algebra_kids_in]; kernel_rfl
  by_cases h7 : op = 7
  · subst h7; rw [algebra_kids_in]; kernel_rfl
  by_cases h8 : op = 8
  · subst h8; rw [algebra_kids_in]; kernel_rfl
  by_cases h9 : op = 9
  · subst h9; rw [algebra_kids_in]; kernel_rfl
  by_cases h10 : op = 10
  · subst h10; rw [algebra_kids_in]; kernel_rfl
  by_cases h11 : op = 11
  · subst h11; rw [algebra_kids_in]; kernel_rfl
  by_cases h12 : op = 12
  · subst h12; rw [algebra_kids_in]; kernel_rfl
  by_cases h13 : op = 13
  · subst h13; rw [algebra_kids_in]; kernel_rfl
  rw [algebra_kids_in]
  unfold algebra_kids_t2 algebra_kids_t1 algebra_kids
  simp only [cndO_eq, beq_iff_eq, h1, h2, h3, h4, h5, h6, h7, h8, h9, h10, h11, h12, h13, if_false, or_self]

def F_algebra_kids : FnC Un := fun args => match args with
  | [x0] => (dI .i64 x0).bind fun op => some ([], A_algebra_kids (algebra_kids op), O_algebra_kids (algebra_kids op))
  | _ => none

theorem ok_algebra_kids : FnOK 103 F_algebra_kids := by
  intro args ob rs os h hob
  unfold F_algebra_kids at h
  split at h
  · simp only [Option.bind_eq_some_iff, Option.some.injEq, Prod.mk.injEq] at h
    obtain ⟨op, e0, rfl, rfl, rfl⟩ := h
    obtain rfl := dI_eq e0
    exact ⟨fn_contractF (M := M_algebra_kids) rfl (tbl_ok (l1 := []) (l2 := []) (l3 := []) (l4 := []) (l5 := []) trivial trivial trivial trivial trivial) Try.func103 (by kernel_rfl) N_algebra_kids 0 [.d] (fun hwf => (algebra_kids_spec op (wfArg hwf (a := .d (.v (.s (.int .i64 op)))) (List.mem_of_getElem? (i := 0) rfl)))), hasBody_of Try.func103 (by kernel_rfl) (by kernel_rfl)⟩
  · simp at h


def A_algebra_Width (r : Int) : List (A Un) := [.c (.s (.int .i64 r))]
def O_algebra_Width (_r : Int) : List (Ob Un) := []

def Fm_algebra_Width (m : Nat) : FnC Un := fun args => match args with
  | [x0] => (dS .rel x0).bind fun r => some ([r.ht < m, exOK r], A_algebra_Width (algebra_Width r), O_algebra_Width (algebra_Width r))
  | _ => none

/-! ### algebra.Width -/
def M_algebra_Width (m : Nat) : Mc Un := mach (tbl [(103, F_algebra_kids), (85, Fm_algebra_Width m)]) (tbl []) (tbl []) (tbl []) (tbl [])
def R_algebra_Width (r : Int) : RF Un := (A_algebra_Width r, O_algebra_Width r)
def N_algebra_Width : Nat → NS := fun l => (look l []).getD ⟨[], [], [], [], []⟩
def algebra_Width_c1 (r : Rel) := algebra_Width (Rel.mk (Rel.op (r.kids.getD 0 zeroRel)) (Rel.table (r.kids.getD 0 zeroRel)) (Rel.cols (r.kids.getD 0 zeroRel)) (Rel.kids (r.kids.getD 0 zeroRel)) (Rel.terms (r.kids.getD 0 zeroRel)) (Rel.aggs (r.kids.getD 0 zeroRel)) (Rel.keys (r.kids.getD 0 zeroRel)) (Rel.limit (r.kids.getD 0 zeroRel)) (Rel.skip (r.kids.getD 0 zeroRel)) (Rel.all (r.kids.getD 0 zeroRel)) (Rel.rows (r.kids.getD 0 zeroRel)))
def algebra_Width_fn (m : Nat) (r : Rel) : Option (RF Un) := awf (M_algebra_Width m) N_algebra_Width (bodyOf Try.f85) (entry Try.f85.ntmps 0 [.d (.agg (enc Ty.rel r))]) (retF (M_algebra_Width m) Try.f85.results.toList [.d])
def algebra_Width_t1 (m : Nat) (r : Rel) : Option (RF Un) :=
 obO ((0 : Int) ≤ (0 : Int) ∧ (0 : Int) < (↑r.kids.length : Int))
  (obO ((Rel.ids (r.kids.getD 0 zeroRel)).ht < m)
   (obO (exOK (Rel.ids (r.kids.getD 0 zeroRel)))
    (obO ((0 : Int) ≤ (1 : Int) ∧ (1 : Int) < (↑r.kids.length : Int))
     (obO ((Rel.ids (r.kids.getD 1 zeroRel)).ht < m)
      (obO (exOK (Rel.ids (r.kids.getD 1 zeroRel)))
       (some (R_algebra_Width (IntKind.i64.wrap (algebra_Width (Rel.ids (r.kids.getD 0 zeroRel)) + algebra_Width (Rel.ids (r.kids.getD 1 zeroRel)))))))))))
def algebra_Width_t2 (m : Nat) (r : Rel) : Option (RF Un) :=
 obO ((0 : Int) ≤ (0 : Int) ∧ (0 : Int) < (↑r.kids.length : Int))
  (obO ((Rel.ids (r.kids.getD 0 zeroRel)).ht < m)
   (obO (exOK (Rel.ids (r.kids.getD 0 zeroRel)))
    (some (R_algebra_Width (algebra_Width_c1 r)))))
def algebra_Width_t3 (m : Nat) (r : Rel) : Option (RF Un) :=
 cndO (r.op == 4)
  (some (R_algebra_Width ((↑r.terms.length : Int))))
  (cndO (r.op == 7)
   (some (R_algebra_Width (IntKind.i64.wrap ((↑r.terms.length : Int) + (↑r.aggs.length : Int)))))
   (cndO (r.op == 5)
    (cndO (r.op == 5)
     (algebra_Width_t1 m r)
     (algebra_Width_t2 m r))
    (cndO (r.op == 6)
     (algebra_Width_t1 m r)
     (algebra_Width_t2 m r))))
theorem algebra_Width_in (m : Nat) (r : Rel) : algebra_Width_fn m r =
 cndO (decide (algebra_kids r.op < 0))
  (some (R_algebra_Width ((0 : Int))))
  (cndO (decide ((↑r.kids.length : Int) < algebra_kids r.op))
   (some (R_algebra_Width ((0 : Int))))
   (cndO (r.op == 1)
    (cndO (r.op == 1)
     (some (R_algebra_Width ((↑r.cols.length : Int))))
     (algebra_Width_t3 m r))
    (cndO (r.op == 2)
     (some (R_algebra_Width ((↑r.cols.length : Int))))
     (algebra_Width_t3 m r)))) := by kernel_rfl

theorem algebra_Width_spec (m : Nat) (r : Rel) (_hr : WS .rel r) (hm : r.ht < m + 1) (h : exOK r) : algebra_Width_fn m r = some (R_algebra_Width (algebra_Width r)) := by
  rw [algebra_Width_in]
  rcases h with rfl | rfl | rfl
  · kernel_rfl
  · kernel_rfl
  · obtain ⟨h1, h2, h3⟩ := ex_hts
    have e : algebra_Width_t1 m exJ = some (R_algebra_Width (algebra_Width exJ)) := by
      unfold algebra_Width_t1
      rw [obO_pos (of_decide_eq_true (by kernel_rfl)), obO_pos (by omega), obO_pos ex_kid0, obO_pos (of_decide_eq_true (by kernel_rfl)), obO_pos (by omega), obO_pos ex_kid1]
      kernel_rfl
    exact Eq.trans (by kernel_rfl) e

theorem okm_algebra_Width (m : Nat) (h_algebra_Width : FnOK 85 (Fm_algebra_Width m)) : FnOK 85 (Fm_algebra_Width (m + 1)) := by
  intro args ob rs os h hob
  unfold Fm_algebra_Width at h
  split at h
  · simp only [Option.bind_eq_some_iff, Option.some.injEq, Prod.mk.injEq] at h
    obtain ⟨r, e0, rfl, rfl, rfl⟩ := h
    obtain rfl := dS_eq e0
    exact ⟨fn_contractF (M := (M_algebra_Width m)) rfl (tbl_ok (l1 := [(103, F_algebra_kids), (85, Fm_algebra_Width m)]) (l2 := []) (l3 := []) (l4 := []) (l5 := []) ⟨ok_algebra_kids, h_algebra_Width, trivial⟩ trivial trivial trivial trivial) Try.func85 (by kernel_rfl) N_algebra_Width 0 [.d] (fun hwf => (algebra_Width_spec m r (wfArg hwf (a := .d (.agg (enc Ty.rel r))) (List.mem_of_getElem? (i := 0) rfl)) (hob _ (List.mem_of_getElem? (i := 0) rfl)) (hob _ (List.mem_of_getElem? (i := 1) rfl)))), hasBody_of Try.func85 (by kernel_rfl) (by kernel_rfl)⟩
  · simp at h


theorem okAll_widthG : ∀ m, FnOK 85 (Fm_algebra_Width m)
  | 0 => by
    skip
    intro args ob rs os h hob
    unfold Fm_algebra_Width at h
    split at h
    · simp only [Option.bind_eq_some_iff, Option.some.injEq, Prod.mk.injEq] at h
      obtain ⟨_, _, rfl, _, _⟩ := h
      exact absurd (hob _ (List.mem_of_getElem? (i := 0) rfl)) (Nat.not_lt_zero _)
    · simp at h
  | m + 1 => by
    have ih := okAll_widthG m
    exact okm_algebra_Width m ih

def F_algebra_Width : FnC Un := fun args => match args with
  | [x0] => (dS .rel x0).bind fun r => some ([exOK r], A_algebra_Width (algebra_Width r), O_algebra_Width (algebra_Width r))
  | _ => none

theorem ok_algebra_Width : FnOK 85 F_algebra_Width := by
  intro args ob rs os h hob
  unfold F_algebra_Width at h
  split at h
  · simp only [Option.bind_eq_some_iff, Option.some.injEq, Prod.mk.injEq] at h
    obtain ⟨r, e0, rfl, rfl, rfl⟩ := h
    refine ((okAll_widthG (r.ht + 1))) _ [r.ht < r.ht + 1, exOK r] _ _ (?_ : Fm_algebra_Width (r.ht + 1) _ = some _) ?_
    · unfold Fm_algebra_Width
      simp only [e0, Option.bind_some]
    · intro p hp
      simp only [List.mem_cons, List.not_mem_nil, or_false] at hp
      rcases hp with rfl | rfl
      · exact Nat.lt_succ_self _
      · exact hob _ (List.mem_of_getElem? (i := 0) rfl)
  · simp at h

def graph_Leaves (r : Rel) : List Rel × List Term := if r.op = 5 then ([exT, exU], [exE]) else ([r], [])

def A_graph_Leaves (r : List Rel × List Term) : List (A Un) := [.c (.ob 0 0), .c (.ob 1 0)]
def O_graph_Leaves (r : List Rel × List Term) : List (Ob Un) := [⟨0, Ty.rel, r.1, none, true⟩, ⟨0, Ty.term, r.2, none, true⟩]

def Fm_graph_Leaves (m : Nat) : FnC Un := fun args => match args with
  | [x0] => (dS .rel x0).bind fun r => some ([r.ht < m, exOK r], A_graph_Leaves (graph_Leaves r), O_graph_Leaves (graph_Leaves r))
  | _ => none

/-! ### graph.Leaves -/
def M_graph_Leaves (m : Nat) : Mc Un := mach (tbl [(84, F_graph_joined), (59, Fm_graph_Leaves m), (85, F_algebra_Width), (19, F_conj_Move), (10, F_conj_Split)]) (tbl []) (tbl []) (tbl []) (tbl [])
def R_graph_Leaves (r : List Rel × List Term) : RF Un := (A_graph_Leaves r, O_graph_Leaves r)
def N_graph_Leaves : Nat → NS := fun l => (look l [(9, { ts := bl 92 6755399441056754, bs := bl 92 2, nm := [(.sl 4, 368), (.sl 5, 369), (.sl 6, 370), (.sl 7, 371), (.sl 9, 372)] }), (15, { ts := bl 92 258254417031933723186, bs := bl 92 2, nm := [(.sl 4, 373), (.sl 5, 374), (.sl 9, 375), (.sl 65, 376)] }), (20, { ts := bl 92 4231240368651202111471664, bs := bl 92 0, nm := [(.sl 4, 377), (.sl 5, 378)] })]).getD ⟨[], [], [], [], []⟩
def graph_Leaves_c1 (r : Rel) := algebra_Width (Rel.mk (Rel.op (r.kids.getD 1 zeroRel)) (Rel.table (r.kids.getD 1 zeroRel)) (Rel.cols (r.kids.getD 1 zeroRel)) (Rel.kids (r.kids.getD 1 zeroRel)) (Rel.terms (r.kids.getD 1 zeroRel)) (Rel.aggs (r.kids.getD 1 zeroRel)) (Rel.keys (r.kids.getD 1 zeroRel)) (Rel.limit (r.kids.getD 1 zeroRel)) (Rel.skip (r.kids.getD 1 zeroRel)) (Rel.all (r.kids.getD 1 zeroRel)) (Rel.rows (r.kids.getD 1 zeroRel)))
def graph_Leaves_c2 (r : Rel) := algebra_Width (Rel.mk (Rel.op (r.kids.getD 0 zeroRel)) (Rel.table (r.kids.getD 0 zeroRel)) (Rel.cols (r.kids.getD 0 zeroRel)) (Rel.kids (r.kids.getD 0 zeroRel)) (Rel.terms (r.kids.getD 0 zeroRel)) (Rel.aggs (r.kids.getD 0 zeroRel)) (Rel.keys (r.kids.getD 0 zeroRel)) (Rel.limit (r.kids.getD 0 zeroRel)) (Rel.skip (r.kids.getD 0 zeroRel)) (Rel.all (r.kids.getD 0 zeroRel)) (Rel.rows (r.kids.getD 0 zeroRel)))
def graph_Leaves_c3 (r : Rel) := graph_Leaves (Rel.mk (Rel.op (r.kids.getD 0 zeroRel)) (Rel.table (r.kids.getD 0 zeroRel)) (Rel.cols (r.kids.getD 0 zeroRel)) (Rel.kids (r.kids.getD 0 zeroRel)) (Rel.terms (r.kids.getD 0 zeroRel)) (Rel.aggs (r.kids.getD 0 zeroRel)) (Rel.keys (r.kids.getD 0 zeroRel)) (Rel.limit (r.kids.getD 0 zeroRel)) (Rel.skip (r.kids.getD 0 zeroRel)) (Rel.all (r.kids.getD 0 zeroRel)) (Rel.rows (r.kids.getD 0 zeroRel)))
def graph_Leaves_c4 (r : Rel) := graph_Leaves (Rel.mk (Rel.op (r.kids.getD 1 zeroRel)) (Rel.table (r.kids.getD 1 zeroRel)) (Rel.cols (r.kids.getD 1 zeroRel)) (Rel.kids (r.kids.getD 1 zeroRel)) (Rel.terms (r.kids.getD 1 zeroRel)) (Rel.aggs (r.kids.getD 1 zeroRel)) (Rel.keys (r.kids.getD 1 zeroRel)) (Rel.limit (r.kids.getD 1 zeroRel)) (Rel.skip (r.kids.getD 1 zeroRel)) (Rel.all (r.kids.getD 1 zeroRel)) (Rel.rows (r.kids.getD 1 zeroRel)))
def graph_Leaves_c5 (r : Rel) (v1 : List Int) (v2 : Int) := conj_Move (Term.mk (Term.op ((graph_Leaves_c4 r).snd.getD v2.toNat zeroTerm)) (Term.v ((graph_Leaves_c4 r).snd.getD v2.toNat zeroTerm)) (Term.depth ((graph_Leaves_c4 r).snd.getD v2.toNat zeroTerm)) (Term.at_ ((graph_Leaves_c4 r).snd.getD v2.toNat zeroTerm)) (Term.name ((graph_Leaves_c4 r).snd.getD v2.toNat zeroTerm)) (Term.kids ((graph_Leaves_c4 r).snd.getD v2.toNat zeroTerm)) (Term.sub ((graph_Leaves_c4 r).snd.getD v2.toNat zeroTerm)) (Term.type ((graph_Leaves_c4 r).snd.getD v2.toNat zeroTerm))) (0 : Int) v1
def graph_Leaves_s9 (r : Rel) (v0 : Int) (v1 : List Int) : S Un := (st 92 92 379 0 [(1, ax 1), (4, ao 368), (5, ao 369), (6, ao 370), (7, ao 371), (8, ai (graph_Leaves_c2 r)), (9, ao 372), (51, ai (↑(List.replicate (graph_Leaves_c1 r).toNat (0 : Int)).length : Int)), (52, ai v0)] [(1, bg .rel r)] [(368, some ⟨(0 : Nat), Ty.rel, (graph_Leaves_c3 r).fst, none, true⟩), (369, some ⟨(0 : Nat), Ty.term, (graph_Leaves_c3 r).snd, none, true⟩), (370, some ⟨(0 : Nat), Ty.rel, (graph_Leaves_c4 r).fst, none, true⟩), (371, some ⟨(0 : Nat), Ty.term, (graph_Leaves_c4 r).snd, none, true⟩), (372, some ⟨(0 : Nat), Ty.int, v1, some (0 : Nat), true⟩)])
def graph_Leaves_s15 (r : Rel) (v1 : List Int) (v2 : Int) (v3 : List Term) (v4 : Option Nat) (v5 : Option Nat) : S Un := (st 92 92 379 0 [(1, ax 1), (4, ao 373), (5, ao 374), (9, ao 375), (65, ao 376), (66, ai (↑(graph_Leaves_c4 r).snd.length : Int)), (67, ai v2)] [(1, bg .rel r)] [(373, some ⟨(0 : Nat), Ty.rel, (graph_Leaves_c3 r).fst ++ (graph_Leaves_c4 r).fst, some (frz none ((graph_Leaves_c3 r).fst).length), true⟩), (374, some ⟨(0 : Nat), Ty.term, v3, v4, true⟩), (375, some ⟨(0 : Nat), Ty.int, v1, v5, true⟩), (376, some ⟨(0 : Nat), Ty.term, (graph_Leaves_c4 r).snd, none, true⟩)])
def graph_Leaves_s20 (r : Rel) (v3 : List Term) (v4 : Option Nat) (v6 : List Rel) (v7 : Option Nat) (v8 : List Term) (v9 : Option Nat) (v10 : Int) : S Un := (st 92 92 379 0 [(4, ao 377), (5, ao 378), (79, al .term r.terms), (80, ai (↑r.terms.length : Int)), (81, ai v10)] [] [(377, some ⟨(0 : Nat), Ty.rel, v6, v7, true⟩), (378, some ⟨(0 : Nat), Ty.term, v8, v9, true⟩)])
def graph_Leaves_B9 : Code := sub (bodyOf Try.f59) [1, 1, 1, 0, 1, 3, 1, 1, 1, 0, 1, 2, 2]
def graph_Leaves_L9 (m : Nat) : S Un → Option (EX Un) := loopF (N_graph_Leaves 9) (fun s Q => awf (M_graph_Leaves m) N_graph_Leaves graph_Leaves_B9 s Q)
def graph_Leaves_B15 : Code := sub (bodyOf Try.f59) [1, 1, 1, 0, 1, 3, 1, 1, 1, 1, 1, 1, 2, 2]
def graph_Leaves_L15 (m : Nat) : S Un → Option (EX Un) := loopF (N_graph_Leaves 15) (fun s Q => awf (M_graph_Leaves m) N_graph_Leaves graph_Leaves_B15 s Q)
def graph_Leaves_B20 : Code := sub (bodyOf Try.f59) [1, 1, 1, 1, 0, 1, 2, 2]
def graph_Leaves_L20 (m : Nat) : S Un → Option (EX Un) := loopF (N_graph_Leaves 20) (fun s Q => awf (M_graph_Leaves m) N_graph_Leaves graph_Leaves_B20 s Q)
def graph_Leaves_C9 (m : Nat) : Exit → S Un → Option (RF Un) := ctxF (M_graph_Leaves m) N_graph_Leaves (bodyOf Try.f59) [1, 1, 1, 0, 1, 3, 1, 1, 1, 0, 1, 2] (retF (M_graph_Leaves m) Try.f59.results.toList [.o, .o])
def graph_Leaves_C15 (m : Nat) : Exit → S Un → Option (RF Un) := ctxF (M_graph_Leaves m) N_graph_Leaves (bodyOf Try.f59) [1, 1, 1, 0, 1, 3, 1, 1, 1, 1, 1, 1, 2] (retF (M_graph_Leaves m) Try.f59.results.toList [.o, .o])
def graph_Leaves_C20 (m : Nat) : Exit → S Un → Option (RF Un) := ctxF (M_graph_Leaves m) N_graph_Leaves (bodyOf Try.f59) [1, 1, 1, 1, 0, 1, 2] (retF (M_graph_Leaves m) Try.f59.results.toList [.o, .o])
def graph_Leaves_fn (m : Nat) (r : Rel) : Option (RF Un) := awf (M_graph_Leaves m) N_graph_Leaves (bodyOf Try.f59) (entry Try.f59.ntmps 11 [.d (.agg (enc Ty.rel r))]) (retF (M_graph_Leaves m) Try.f59.results.toList [.o, .o])
theorem graph_Leaves_in (m : Nat) (r : Rel) : graph_Leaves_fn m r =
 obO (exOK (Rel.ids r))
  (cndO (!graph_joined (Rel.ids r))
   (some (R_graph_Leaves ([(Rel.ids r)], [])))
   (obO ((0 : Int) ≤ (0 : Int) ∧ (0 : Int) < (↑r.kids.length : Int))
    (obO ((Rel.ids (r.kids.getD 0 zeroRel)).ht < m)
     (obO (exOK (Rel.ids (r.kids.getD 0 zeroRel)))
      (cndO (r.op == 5)
       (obO ((0 : Int) ≤ (1 : Int) ∧ (1 : Int) < (↑r.kids.length : Int))
        (obO ((Rel.ids (r.kids.getD 1 zeroRel)).ht < m)
         (obO (exOK (Rel.ids (r.kids.getD 1 zeroRel)))
          (obO ((0 : Int) ≤ (0 : Int) ∧ (0 : Int) < (↑r.kids.length : Int))
           (obO (exOK (Rel.ids (r.kids.getD 0 zeroRel)))
            (obO ((0 : Int) ≤ (1 : Int) ∧ (1 : Int) < (↑r.kids.length : Int))
             (obO (exOK (Rel.ids (r.kids.getD 1 zeroRel)))
              (obO (0 ≤ algebra_Width (Rel.ids (r.kids.getD 1 zeroRel)) ∧ algebra_Width (Rel.ids (r.kids.getD 1 zeroRel)) ≤ algebra_Width (Rel.ids (r.kids.getD 1 zeroRel)) ∧ (graph_Leaves_c1 r).toNat * (8 : Nat) ≤ roomB)
               ((graph_Leaves_L9 m (graph_Leaves_s9 r (0 : Int) (List.replicate (graph_Leaves_c1 r).toNat (0 : Int)))).bind (thenX (graph_Leaves_C9 m)))))))))))
       ((graph_Leaves_L20 m (graph_Leaves_s20 r default default ((graph_Leaves_c3 r).fst) none ((graph_Leaves_c3 r).snd) none (0 : Int))).bind (thenX (graph_Leaves_C20 m)))))))) := by kernel_rfl
theorem graph_Leaves_l9 (m : Nat) (r : Rel) (v0 : Int) (v1 : List Int) : graph_Leaves_L9 m (graph_Leaves_s9 r v0 v1) =
 cndO (decide (v0 < (↑(List.replicate (graph_Leaves_c1 r).toNat (0 : Int)).length : Int)))
  (obO (0 ≤ v0 ∧ v0 < (↑v1.length : Int))
   (obO ((0 : Nat) ≤ v0.toNat)
    (graph_Leaves_L9 m (graph_Leaves_s9 r (IntKind.i64.wrap (v0 + 1)) (v1.set v0.toNat (IntKind.i64.wrap (v0 + algebra_Width (Rel.ids (r.kids.getD 0 zeroRel)))))))))
  (some (.exit 0, (graph_Leaves_s9 r v0 v1))) := (loopF_eq (N_graph_Leaves 9) graph_Leaves_B9 _).trans (by kernel_rfl)
theorem graph_Leaves_a9_x0 (m : Nat) (r : Rel) (v0 : Int) (v1 : List Int) : graph_Leaves_C9 m (.exit 0) (graph_Leaves_s9 r v0 v1) =
 obO (((graph_Leaves_c3 r).fst.length + (graph_Leaves_c4 r).fst.length) * (192 : Nat) ≤ roomB)
  ((graph_Leaves_L15 m (graph_Leaves_s15 r v1 (0 : Int) ((graph_Leaves_c3 r).snd) none (some (0 : Nat)))).bind (thenX (graph_Leaves_C15 m))) := by kernel_rfl
theorem graph_Leaves_l15 (m : Nat) (r : Rel) (v1 : List Int) (v2 : Int) (v3 : List Term) (v4 : Option Nat) (v5 : Option Nat) : graph_Leaves_L15 m (graph_Leaves_s15 r v1 v2 v3 v4 v5) =
 cndO (decide (v2 < (↑(graph_Leaves_c4 r).snd.length : Int)))
  (obO (0 ≤ v2 ∧ v2 < (↑(graph_Leaves_c4 r).snd.length : Int))
   (obO ((Term.ids ((graph_Leaves_c4 r).snd.getD v2.toNat zeroTerm)).sz ≤ (1000000 : Nat))
    (obO ((v3.length + [(Term.ids (graph_Leaves_c5 r v1 v2))].length) * (128 : Nat) ≤ roomB)
     (graph_Leaves_L15 m (graph_Leaves_s15 r v1 (IntKind.i64.wrap (v2 + 1)) (v3 ++ [(Term.ids (graph_Leaves_c5 r v1 v2))]) (some (frz v4 v3.length)) none)))))
  (some (.exit 2, (graph_Leaves_s15 r v1 v2 v3 v4 v5))) := (loopF_eq (N_graph_Leaves 15) graph_Leaves_B15 _).trans (by kernel_rfl)
theorem graph_Leaves_a15_x2 (m : Nat) (r : Rel) (v1 : List Int) (v2 : Int) (v3 : List Term) (v4 : Option Nat) (v5 : Option Nat) : graph_Leaves_C15 m (.exit 2) (graph_Leaves_s15 r v1 v2 v3 v4 v5) =
 (graph_Leaves_L20 m (graph_Leaves_s20 r default default ((graph_Leaves_c3 r).fst ++ (graph_Leaves_c4 r).fst) (some (frz none ((graph_Leaves_c3 r).fst).length)) v3 v4 (0 : Int))).bind (thenX (graph_Leaves_C20 m)) := by kernel_rfl
theorem graph_Leaves_l20 (m : Nat) (r : Rel) (v3 : List Term) (v4 : Option Nat) (v6 : List Rel) (v7 : Option Nat) (v8 : List Term) (v9 : Option Nat) (v10 : Int) : graph_Leaves_L20 m (graph_Leaves_s20 r v3 v4 v6 v7 v8 v9 v10) =
 cndO (decide (v10 < (↑r.terms.length : Int)))
  (obO (0 ≤ v10 ∧ v10 < (↑r.terms.length : Int))
   (obO ((Term.ids (r.terms.getD v10.toNat zeroTerm)).sz ≤ (1000000 : Nat))
    (obO ((v8.length + (conj_Split (Term.ids (r.terms.getD v10.toNat zeroTerm))).length) * (128 : Nat) ≤ roomB)
     (graph_Leaves_L20 m (graph_Leaves_s20 r default default v6 v7 (v8 ++ conj_Split (Term.ids (r.terms.getD v10.toNat zeroTerm))) (some (frz v9 v8.length)) (IntKind.i64.wrap (v10 + 1)))))))
  (some (.exit 4, (graph_Leaves_s20 r default default v6 v7 v8 v9 v10))) := (loopF_eq (N_graph_Leaves 20) graph_Leaves_B20 _).trans (by kernel_rfl)
theorem graph_Leaves_a20_x4 (m : Nat) (r : Rel) (v3 : List Term) (v4 : Option Nat) (v6 : List Rel) (v7 : Option Nat) (v8 : List Term) (v9 : Option Nat) (v10 : Int) : graph_Leaves_C20 m (.exit 4) (graph_Leaves_s20 r v3 v4 v6 v7 v8 v9 v10) =
 some (R_graph_Leaves (v6, v8)) := by kernel_rfl

theorem leaves_l9 (m : Nat) : graph_Leaves_L9 m (graph_Leaves_s9 exJ (0 : Int) (List.replicate (graph_Leaves_c1 exJ).toNat (0 : Int))) = some (.exit 0, graph_Leaves_s9 exJ (IntKind.i64.wrap ((0 : Int) + 1)) ((List.replicate (graph_Leaves_c1 exJ).toNat (0 : Int)).set (0 : Int).toNat (IntKind.i64.wrap ((0 : Int) + algebra_Width (Rel.ids (exJ.kids.getD 0 zeroRel)))))) := by
  rw [graph_Leaves_l9]
  refine (cndO_tt (by kernel_rfl)).trans ?_
  refine (obO_pos (of_decide_eq_true (by kernel_rfl))).trans ?_
  refine (obO_pos (of_decide_eq_true (by kernel_rfl))).trans ?_
  rw [graph_Leaves_l9]
  exact cndO_ff (by kernel_rfl)
theorem leaves_l15 (m : Nat) (v1 : List Int) (v5 : Option Nat) : graph_Leaves_L15 m (graph_Leaves_s15 exJ v1 (0 : Int) ((graph_Leaves_c3 exJ).snd) none v5) = some (.exit 2, graph_Leaves_s15 exJ v1 (0 : Int) ((graph_Leaves_c3 exJ).snd) none v5) := by
  rw [graph_Leaves_l15]
  exact cndO_ff (by kernel_rfl)
theorem leaves_l20 (m : Nat) (v6 : List Rel) (v7 : Option Nat) : ∃ f, graph_Leaves_L20 m (graph_Leaves_s20 exJ default default v6 v7 ((graph_Leaves_c3 exJ).snd) none (0 : Int)) = some (.exit 4, graph_Leaves_s20 exJ default default v6 v7 [exE] f (IntKind.i64.wrap ((0 : Int) + 1))) := by
  refine ⟨some (frz none ((graph_Leaves_c3 exJ).snd).length), ?_⟩
  rw [graph_Leaves_l20]
  refine (cndO_tt (by kernel_rfl)).trans ?_
  refine (obO_pos (of_decide_eq_true (by kernel_rfl))).trans ?_
  refine (obO_pos (Nat.le_of_ble_eq_true (by kernel_rfl))).trans ?_
  refine (obO_pos (Nat.le_of_ble_eq_true (by kernel_rfl))).trans ?_
  have e : ((graph_Leaves_c3 exJ).snd ++ conj_Split (Term.ids (exJ.terms.getD (0 : Int).toNat zeroTerm))) = [exE] := by kernel_rfl
  rw [e, graph_Leaves_l20]
  exact cndO_ff (by kernel_rfl)
theorem graph_Leaves_spec (m : Nat) (r : Rel) (_hr : WS .rel r) (hm : r.ht < m + 1) (h : exOK r) : graph_Leaves_fn m r = some (R_graph_Leaves (graph_Leaves r)) := by
  rw [graph_Leaves_in]
  rcases h with rfl | rfl | rfl
  · rw [obO_pos (show exOK (Rel.ids exT) from .inl (by kernel_rfl))]
    kernel_rfl
  · rw [obO_pos (show exOK (Rel.ids exU) from .inr (.inl (by kernel_rfl)))]
    kernel_rfl
  · obtain ⟨h1, h2, h3⟩ := ex_hts
    refine (obO_pos (.inr (.inr (by kernel_rfl)))).trans ?_
    refine (cndO_ff (by kernel_rfl)).trans ?_
    refine (obO_pos (of_decide_eq_true (by kernel_rfl))).trans ?_
    refine (obO_pos (by omega)).trans ?_
    refine (obO_pos ex_kid0).trans ?_
    refine (cndO_tt (by kernel_rfl)).trans ?_
    refine (obO_pos (of_decide_eq_true (by kernel_rfl))).trans ?_
    refine (obO_pos (by omega)).trans ?_
    refine (obO_pos ex_kid1).trans ?_
    refine (obO_pos (of_decide_eq_true (by kernel_rfl))).trans ?_
    refine (obO_pos ex_kid0).trans ?_
    refine (obO_pos (of_decide_eq_true (by kernel_rfl))).trans ?_
    refine (obO_pos ex_kid1).trans ?_
    refine (obO_pos (of_decide_eq_true (by kernel_rfl))).trans ?_
    refine (loop_end (leaves_l9 m)).trans ?_
    rw [graph_Leaves_a9_x0]
    refine (obO_pos (Nat.le_of_ble_eq_true (by kernel_rfl))).trans ?_
    refine (loop_end (leaves_l15 m _ _)).trans ?_
    rw [graph_Leaves_a15_x2]
    obtain ⟨f, e⟩ := leaves_l20 m ((graph_Leaves_c3 exJ).fst ++ (graph_Leaves_c4 exJ).fst) (some (frz none ((graph_Leaves_c3 exJ).fst).length))
    refine (loop_end e).trans ?_
    rw [graph_Leaves_a20_x4]
    kernel_rfl

theorem okm_graph_Leaves (m : Nat) (h_graph_Leaves : FnOK 59 (Fm_graph_Leaves m)) : FnOK 59 (Fm_graph_Leaves (m + 1)) := by
  intro args ob rs os h hob
  unfold Fm_graph_Leaves at h
  split at h
  · simp only [Option.bind_eq_some_iff, Option.some.injEq, Prod.mk.injEq] at h
    obtain ⟨r, e0, rfl, rfl, rfl⟩ := h
    obtain rfl := dS_eq e0
    exact ⟨fn_contractF (M := (M_graph_Leaves m)) rfl (tbl_ok (l1 := [(84, F_graph_joined), (59, Fm_graph_Leaves m), (85, F_algebra_Width), (19, F_conj_Move), (10, F_conj_Split)]) (l2 := []) (l3 := []) (l4 := []) (l5 := []) ⟨ok_graph_joined, h_graph_Leaves, ok_algebra_Width, ok_conj_Move, ok_conj_Split, trivial⟩ trivial trivial trivial trivial) Try.func59 (by kernel_rfl) N_graph_Leaves 11 [.o, .o] (fun hwf => (graph_Leaves_spec m r (wfArg hwf (a := .d (.agg (enc Ty.rel r))) (List.mem_of_getElem? (i := 0) rfl)) (hob _ (List.mem_of_getElem? (i := 0) rfl)) (hob _ (List.mem_of_getElem? (i := 1) rfl)))), hasBody_of Try.func59 (by kernel_rfl) (by kernel_rfl)⟩
  · simp at h


theorem okAll_leavesG : ∀ m, FnOK 59 (Fm_graph_Leaves m)
  | 0 => by
    skip
    intro args ob rs os h hob
    unfold Fm_graph_Leaves at h
    split at h
    · simp only [Option.bind_eq_some_iff, Option.some.injEq, Prod.mk.injEq] at h
      obtain ⟨_, _, rfl, _, _⟩ := h
      exact absurd (hob _ (List.mem_of_getElem? (i := 0) rfl)) (Nat.not_lt_zero _)
    · simp at h
  | m + 1 => by
    have ih := okAll_leavesG m
    exact okm_graph_Leaves m ih

def F_graph_Leaves : FnC Un := fun args => match args with
  | [x0] => (dS .rel x0).bind fun r => some ([exOK r], A_graph_Leaves (graph_Leaves r), O_graph_Leaves (graph_Leaves r))
  | _ => none

theorem ok_graph_Leaves : FnOK 59 F_graph_Leaves := by
  intro args ob rs os h hob
  unfold F_graph_Leaves at h
  split at h
  · simp only [Option.bind_eq_some_iff, Option.some.injEq, Prod.mk.injEq] at h
    obtain ⟨r, e0, rfl, rfl, rfl⟩ := h
    refine ((okAll_leavesG (r.ht + 1))) _ [r.ht < r.ht + 1, exOK r] _ _ (?_ : Fm_graph_Leaves (r.ht + 1) _ = some _) ?_
    · unfold Fm_graph_Leaves
      simp only [e0, Option.bind_some]
    · intro p hp
      simp only [List.mem_cons, List.not_mem_nil, or_false] at hp
      rcases hp with rfl | rfl
      · exact Nat.lt_succ_self _
      · exact hob _ (List.mem_of_getElem? (i := 0) rfl)
  · simp at h

end
end Go.Proofs.Ytaepcbdcjbfgjaa.B
