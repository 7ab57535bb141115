/- Functions: law24a. (Printed by wip/tools/mkfn.py out of wip/src/law24a.src.) -/
import Derived.Test.YtjndihloefdplaaBLib
import Derived.Test.YtjndihloefdplaaSspec
import Derived.Test.YtjndihloefdplaaSspec26
import Derived.Test.YtjndihloefdplaaSterms
import Derived.Test.YtjndihloefdplaaSlcmp
import Derived.Test.YtjndihloefdplaaSvcmp
import Derived.Test.YtjndihloefdplaaSref03
import Derived.Test.YtjndihloefdplaaSref03c
import Derived.Test.YtjndihloefdplaaSbits
import Derived.Test.YtjndihloefdplaaSguess1
import Derived.Test.YtjndihloefdplaaSguess2
import Derived.Test.YtjndihloefdplaaSguess3
import Derived.Test.YtjndihloefdplaaSguess4
import Derived.Test.YtjndihloefdplaaSguess5
import Derived.Test.YtjndihloefdplaaSref24a
import Derived.Test.YtjndihloefdplaaSref24b
import Derived.Test.YtjndihloefdplaaSref24c
import Derived.Test.YtjndihloefdplaaSlarge
import Derived.Test.YtjndihloefdplaaSlaw24
namespace Go.Proofs.Ytjndihloefdplaa.B
open Go Go.RowKit
set_option maxRecDepth 100000
noncomputable section
attribute [local irreducible] awp ctxK itersK iterK retQ retGQ

/-! ### tabellionlaw24.GuessParts -/
def M_l24_GuessParts : Mc Un := mach (tbl [(7, F_l21_Large), (8, F_l24_Bare), (9, F_l24_awake), (10, F_guess_Part), (11, F_r24_Part)]) (tbl []) (tbl []) (tbl [])
def N_l24_GuessParts : Nat → NS := fun l => (look l []).getD ⟨[], [], [], [], []⟩
def A_l24_GuessParts (r : Bool) : List (A Un) := [.c (.s (.bool r))]
def O_l24_GuessParts (_r : Bool) : List (Ob Un) := []
theorem l24_GuessParts_in_raw (t : Term) (l : List ColStat) (K : List (A Un) → List (Ob Un) → Prop) :
    awp M_l24_GuessParts N_l24_GuessParts (bodyOf Try.f3) (entry Try.f3.ntmps 0 [.d (.agg (enc Ty.term t)), .d (.v (.dat (U := Un) Ty.colStat l))]) (retQ M_l24_GuessParts Try.f3.results.toList [.d] K) =
(cnd (l21_Large (Term.mk t.op t.v t.depth t.at_ t.name t.kids t.sub t.type))
 (K (A_l24_GuessParts (true)) (O_l24_GuessParts (true)))
 ((l.length ≤ (1000000000000000000 : Nat)) ∧
 (cnd (!l24_Bare l)
  (K (A_l24_GuessParts (true)) (O_l24_GuessParts (true)))
  (((l.all fun c => decide (c.ends.length ≤ (4398046511104 : Nat))) = true) ∧
  (K (A_l24_GuessParts (guess_Part (Term.mk t.op t.v t.depth t.at_ t.name t.kids t.sub t.type) l == r24_Part (Term.mk t.op t.v t.depth t.at_ t.name t.kids t.sub t.type) l)) (O_l24_GuessParts (guess_Part (Term.mk t.op t.v t.depth t.at_ t.name t.kids t.sub t.type) l == r24_Part (Term.mk t.op t.v t.depth t.at_ t.name t.kids t.sub t.type) l))))))) := by kernel_rfl
theorem l24_GuessParts_in (t : Term) (l : List ColStat) (K : List (A Un) → List (Ob Un) → Prop) :
    awp M_l24_GuessParts N_l24_GuessParts (bodyOf Try.f3) (entry Try.f3.ntmps 0 [.d (.agg (enc Ty.term t)), .d (.v (.dat (U := Un) Ty.colStat l))]) (retQ M_l24_GuessParts Try.f3.results.toList [.d] K) =
(cnd (l21_Large t)
 (K (A_l24_GuessParts (true)) (O_l24_GuessParts (true)))
 ((l.length ≤ (1000000000000000000 : Nat)) ∧
 (cnd (!l24_Bare l)
  (K (A_l24_GuessParts (true)) (O_l24_GuessParts (true)))
  (((l.all fun c => decide (c.ends.length ≤ (4398046511104 : Nat))) = true) ∧
  (K (A_l24_GuessParts (guess_Part t l == r24_Part t l)) (O_l24_GuessParts (guess_Part t l == r24_Part t l))))))) :=
  (l24_GuessParts_in_raw t l K).trans (by simp only [Term.eta])
def l24_GuessParts_fn (t : Term) (l : List ColStat) : Option (Bool) :=
  if (l21_Large t) = true then
   some (true)
  else
   if l.length ≤ (1000000000000000000 : Nat) then
    if (!l24_Bare l) = true then
     some (true)
    else
     if (l.all fun c => decide (c.ends.length ≤ (4398046511104 : Nat))) = true then
      some (guess_Part t l == r24_Part t l)
     else none
   else none
theorem l24_GuessParts_run {t : Term} {l : List ColStat} {r : Bool} (h : l24_GuessParts_fn t l = some r) : Runs (awp M_l24_GuessParts N_l24_GuessParts (bodyOf Try.f3) (entry Try.f3.ntmps 0 [.d (.agg (enc Ty.term t)), .d (.v (.dat (U := Un) Ty.colStat l))]) (retQ M_l24_GuessParts Try.f3.results.toList [.d] fun rs os => rs = A_l24_GuessParts r ∧ os = O_l24_GuessParts r)) := by
  constructor
  rw [l24_GuessParts_in t l (fun rs os => rs = A_l24_GuessParts r ∧ os = O_l24_GuessParts r)]
  unfold l24_GuessParts_fn at h
  rcases ite_some h with ⟨c1, h2⟩ | ⟨c1, h2⟩
  · cases h2
    exact (cnd_t c1 ⟨rfl, rfl⟩)
  · obtain ⟨c3, h4⟩ := ob_some h2
    rcases ite_some h4 with ⟨c5, h6⟩ | ⟨c5, h6⟩
    · cases h6
      exact (cnd_f (bfalse c1) (And.intro c3 (cnd_t c5 ⟨rfl, rfl⟩)))
    · obtain ⟨c7, h8⟩ := ob_some h6
      cases h8
      exact (cnd_f (bfalse c1) (And.intro c3 (cnd_f (bfalse c5) (And.intro c7 ⟨rfl, rfl⟩))))

def l24_GuessParts (_t : Term) (_l : List ColStat) : Bool := true

theorem l24_GuessParts_spec (t : Term) (l : List ColStat) (_h1 : WS .term t) (_h2 : WL .colStat l) (h3 : l.length ≤ 1000000000000000000) (h4 : l.all (fun c => decide (c.ends.length ≤ 4398046511104)) = true) : l24_GuessParts_fn t l = some (l24_GuessParts t l) := by
  have e : (guess_Part t l == r24_Part t l) = true := by unfold r24_Part; simp
  unfold l24_GuessParts_fn l24_GuessParts
  rw [if_pos h3, if_pos h4, e]
  split
  · rfl
  · split <;> rfl

def F_l24_GuessParts : FnC Un := fun args => match args with
  | [x0, x1] => (dS .term x0).bind fun t => (dL .colStat x1).bind fun l => some ([l.length ≤ 1000000000000000000, l.all (fun c => decide (c.ends.length ≤ 4398046511104)) = true], A_l24_GuessParts (l24_GuessParts t l), O_l24_GuessParts (l24_GuessParts t l))
  | _ => none

theorem ok_l24_GuessParts : FnOK 3 F_l24_GuessParts := by
  intro args ob rs os h hob
  unfold F_l24_GuessParts at h
  split at h
  · simp only [Option.bind_eq_some_iff, Option.some.injEq, Prod.mk.injEq] at h
    obtain ⟨t, e0, l, e1, rfl, rfl, rfl⟩ := h
    obtain rfl := dS_eq e0
    obtain rfl := dL_eq e1
    exact ⟨fn_contract (M := M_l24_GuessParts) rfl (tbl_ok (l1 := [(7, F_l21_Large), (8, F_l24_Bare), (9, F_l24_awake), (10, F_guess_Part), (11, F_r24_Part)]) (l2 := []) (l3 := []) (l4 := []) ⟨ok_l21_Large, ok_l24_Bare, ok_l24_awake, ok_guess_Part, ok_r24_Part, trivial⟩ trivial trivial trivial) Try.func3 (by kernel_rfl) N_l24_GuessParts 0 [.d] (fun hwf => l24_GuessParts_run (l24_GuessParts_spec t l (wfArg hwf (a := .d (.agg (enc Ty.term t))) (List.mem_of_getElem? (i := 0) rfl)) (wfArg hwf (a := .d (.v (.dat (U := Un) Ty.colStat l))) (List.mem_of_getElem? (i := 1) rfl)) (hob _ (List.mem_of_getElem? (i := 0) rfl)) (hob _ (List.mem_of_getElem? (i := 1) rfl)))), hasBody_of Try.func3 (by kernel_rfl) (by kernel_rfl)⟩
  · simp at h


/-! ### tabellionlaw24.GuessSizes -/
def M_l24_GuessSizes : Mc Un := mach (tbl [(8, F_l24_Bare), (9, F_l24_awake), (12, F_guess_Rows), (13, F_r24_Rows), (14, F_guess_Pairs), (15, F_r24_Pairs), (16, F_guess_Groups), (17, F_r24_Groups)]) (tbl []) (tbl []) (tbl [])
def N_l24_GuessSizes : Nat → NS := fun l => (look l []).getD ⟨[], [], [], [], []⟩
def A_l24_GuessSizes (r : Bool) : List (A Un) := [.c (.s (.bool r))]
def O_l24_GuessSizes (_r : Bool) : List (Ob Un) := []
theorem l24_GuessSizes_in (n : Int) (k : Int) (l : List ColStat) (K : List (A Un) → List (Ob Un) → Prop) :
    awp M_l24_GuessSizes N_l24_GuessSizes (bodyOf Try.f4) (entry Try.f4.ntmps 0 [.d (.v (.s (.int .i64 n))), .d (.v (.s (.int .i64 k))), .d (.v (.dat (U := Un) Ty.colStat l))]) (retQ M_l24_GuessSizes Try.f4.results.toList [.d] K) =
((l.length ≤ (1000000000000000000 : Nat)) ∧
(cnd (!l24_Bare l)
 (K (A_l24_GuessSizes (true)) (O_l24_GuessSizes (true)))
 (cnd (decide ((↑l.length : Int) > (1 : Int)))
  (((0 : Int) ≤ (0 : Int) ∧ (0 : Int) < (↑l.length : Int)) ∧
  (((0 : Int) ≤ (1 : Int) ∧ (1 : Int) < (↑l.length : Int)) ∧
  (cnd (guess_Rows n k == r24_Rows n k)
   (cnd (guess_Pairs n k (l.getD 0 zeroColStat) (l.getD 1 zeroColStat) == r24_Pairs n k (l.getD 0 zeroColStat) (l.getD 1 zeroColStat))
    (K (A_l24_GuessSizes (guess_Groups n l == r24_Groups n l)) (O_l24_GuessSizes (guess_Groups n l == r24_Groups n l)))
    (K (A_l24_GuessSizes (false)) (O_l24_GuessSizes (false))))
   (K (A_l24_GuessSizes (false)) (O_l24_GuessSizes (false))))))
  (cnd (guess_Rows n k == r24_Rows n k)
   (cnd (guess_Pairs n k zeroColStat zeroColStat == r24_Pairs n k zeroColStat zeroColStat)
    (K (A_l24_GuessSizes (guess_Groups n l == r24_Groups n l)) (O_l24_GuessSizes (guess_Groups n l == r24_Groups n l)))
    (K (A_l24_GuessSizes (false)) (O_l24_GuessSizes (false))))
   (K (A_l24_GuessSizes (false)) (O_l24_GuessSizes (false))))))) := by kernel_rfl
def l24_GuessSizes_fn (n : Int) (k : Int) (l : List ColStat) : Option (Bool) :=
  if l.length ≤ (1000000000000000000 : Nat) then
   if (!l24_Bare l) = true then
    some (true)
   else
    if (decide ((↑l.length : Int) > (1 : Int))) = true then
     if (0 : Int) ≤ (0 : Int) ∧ (0 : Int) < (↑l.length : Int) then
      if (0 : Int) ≤ (1 : Int) ∧ (1 : Int) < (↑l.length : Int) then
       if (guess_Rows n k == r24_Rows n k) = true then
        if (guess_Pairs n k (l.getD 0 zeroColStat) (l.getD 1 zeroColStat) == r24_Pairs n k (l.getD 0 zeroColStat) (l.getD 1 zeroColStat)) = true then
         some (guess_Groups n l == r24_Groups n l)
        else
         some (false)
       else
        some (false)
      else none
     else none
    else
     if (guess_Rows n k == r24_Rows n k) = true then
      if (guess_Pairs n k zeroColStat zeroColStat == r24_Pairs n k zeroColStat zeroColStat) = true then
       some (guess_Groups n l == r24_Groups n l)
      else
       some (false)
     else
      some (false)
  else none
theorem l24_GuessSizes_run {n : Int} {k : Int} {l : List ColStat} {r : Bool} (h : l24_GuessSizes_fn n k l = some r) : Runs (awp M_l24_GuessSizes N_l24_GuessSizes (bodyOf Try.f4) (entry Try.f4.ntmps 0 [.d (.v (.s (.int .i64 n))), .d (.v (.s (.int .i64 k))), .d (.v (.dat (U := Un) Ty.colStat l))]) (retQ M_l24_GuessSizes Try.f4.results.toList [.d] fun rs os => rs = A_l24_GuessSizes r ∧ os = O_l24_GuessSizes r)) := by
  constructor
  rw [l24_GuessSizes_in n k l (fun rs os => rs = A_l24_GuessSizes r ∧ os = O_l24_GuessSizes r)]
  unfold l24_GuessSizes_fn at h
  obtain ⟨c1, h2⟩ := ob_some h
  rcases ite_some h2 with ⟨c3, h4⟩ | ⟨c3, h4⟩
  · cases h4
    exact (And.intro c1 (cnd_t c3 ⟨rfl, rfl⟩))
  · rcases ite_some h4 with ⟨c5, h6⟩ | ⟨c5, h6⟩
    · obtain ⟨c7, h8⟩ := ob_some h6
      obtain ⟨c9, h10⟩ := ob_some h8
      rcases ite_some h10 with ⟨c11, h12⟩ | ⟨c11, h12⟩
      · rcases ite_some h12 with ⟨c13, h14⟩ | ⟨c13, h14⟩
        · cases h14
          exact (And.intro c1 (cnd_f (bfalse c3) (cnd_t c5 (And.intro c7 (And.intro c9 (cnd_t c11 (cnd_t c13 ⟨rfl, rfl⟩)))))))
        · cases h14
          exact (And.intro c1 (cnd_f (bfalse c3) (cnd_t c5 (And.intro c7 (And.intro c9 (cnd_t c11 (cnd_f (bfalse c13) ⟨rfl, rfl⟩)))))))
      · cases h12
        exact (And.intro c1 (cnd_f (bfalse c3) (cnd_t c5 (And.intro c7 (And.intro c9 (cnd_f (bfalse c11) ⟨rfl, rfl⟩))))))
    · rcases ite_some h6 with ⟨c15, h16⟩ | ⟨c15, h16⟩
      · rcases ite_some h16 with ⟨c17, h18⟩ | ⟨c17, h18⟩
        · cases h18
          exact (And.intro c1 (cnd_f (bfalse c3) (cnd_f (bfalse c5) (cnd_t c15 (cnd_t c17 ⟨rfl, rfl⟩)))))
        · cases h18
          exact (And.intro c1 (cnd_f (bfalse c3) (cnd_f (bfalse c5) (cnd_t c15 (cnd_f (bfalse c17) ⟨rfl, rfl⟩)))))
      · cases h16
        exact (And.intro c1 (cnd_f (bfalse c3) (cnd_f (bfalse c5) (cnd_f (bfalse c15) ⟨rfl, rfl⟩))))

def l24_GuessSizes (_n _k : Int) (_l : List ColStat) : Bool := true

theorem l24_GuessSizes_spec (n k : Int) (l : List ColStat) (_h1 : WI n) (_h2 : WI k) (_h3 : WL .colStat l) (h3 : l.length ≤ 1000000000000000000) : l24_GuessSizes_fn n k l = some (l24_GuessSizes n k l) := by
  unfold l24_GuessSizes_fn l24_GuessSizes
  rw [if_pos h3]
  by_cases hb : (!l24_Bare l) = true
  · rw [if_pos hb]
  · rw [if_neg hb]
    by_cases hl : (l.length : Int) > 1
    · have b0 : (0 : Int) ≤ 0 ∧ (0 : Int) < (l.length : Int) := by omega
      have b1 : (0 : Int) ≤ 1 ∧ (1 : Int) < (l.length : Int) := by omega
      rw [if_pos (decide_eq_true hl), if_pos b0, if_pos b1]
      simp
    · rw [if_neg (by simpa using hl)]
      simp

def F_l24_GuessSizes : FnC Un := fun args => match args with
  | [x0, x1, x2] => (dI .i64 x0).bind fun n => (dI .i64 x1).bind fun k => (dL .colStat x2).bind fun l => some ([l.length ≤ 1000000000000000000], A_l24_GuessSizes (l24_GuessSizes n k l), O_l24_GuessSizes (l24_GuessSizes n k l))
  | _ => none

theorem ok_l24_GuessSizes : FnOK 4 F_l24_GuessSizes := by
  intro args ob rs os h hob
  unfold F_l24_GuessSizes at h
  split at h
  · simp only [Option.bind_eq_some_iff, Option.some.injEq, Prod.mk.injEq] at h
    obtain ⟨n, e0, k, e1, l, e2, rfl, rfl, rfl⟩ := h
    obtain rfl := dI_eq e0
    obtain rfl := dI_eq e1
    obtain rfl := dL_eq e2
    exact ⟨fn_contract (M := M_l24_GuessSizes) rfl (tbl_ok (l1 := [(8, F_l24_Bare), (9, F_l24_awake), (12, F_guess_Rows), (13, F_r24_Rows), (14, F_guess_Pairs), (15, F_r24_Pairs), (16, F_guess_Groups), (17, F_r24_Groups)]) (l2 := []) (l3 := []) (l4 := []) ⟨ok_l24_Bare, ok_l24_awake, ok_guess_Rows, ok_r24_Rows, ok_guess_Pairs, ok_r24_Pairs, ok_guess_Groups, ok_r24_Groups, trivial⟩ trivial trivial trivial) Try.func4 (by kernel_rfl) N_l24_GuessSizes 0 [.d] (fun hwf => l24_GuessSizes_run (l24_GuessSizes_spec n k l (wfArg hwf (a := .d (.v (.s (.int .i64 n)))) (List.mem_of_getElem? (i := 0) rfl)) (wfArg hwf (a := .d (.v (.s (.int .i64 k)))) (List.mem_of_getElem? (i := 1) rfl)) (wfArg hwf (a := .d (.v (.dat (U := Un) Ty.colStat l))) (List.mem_of_getElem? (i := 2) rfl)) (hob _ (List.mem_of_getElem? (i := 0) rfl)))), hasBody_of Try.func4 (by kernel_rfl) (by kernel_rfl)⟩
  · simp at h


/-! ### tabellionlaw24.GuessBounds -/
def M_l24_GuessBounds : Mc Un := mach (tbl [(7, F_l21_Large), (8, F_l24_Bare), (9, F_l24_awake), (10, F_guess_Part)]) (tbl []) (tbl []) (tbl [])
def N_l24_GuessBounds : Nat → NS := fun l => (look l []).getD ⟨[], [], [], [], []⟩
def A_l24_GuessBounds (r : Bool) : List (A Un) := [.c (.s (.bool r))]
def O_l24_GuessBounds (_r : Bool) : List (Ob Un) := []
theorem l24_GuessBounds_in_raw (a : Term) (b : Term) (l : List ColStat) (K : List (A Un) → List (Ob Un) → Prop) :
    awp M_l24_GuessBounds N_l24_GuessBounds (bodyOf Try.f5) (entry Try.f5.ntmps 0 [.d (.agg (enc Ty.term a)), .d (.agg (enc Ty.term b)), .d (.v (.dat (U := Un) Ty.colStat l))]) (retQ M_l24_GuessBounds Try.f5.results.toList [.d] K) =
(cnd (l21_Large (Term.mk a.op a.v a.depth a.at_ a.name a.kids a.sub a.type))
 (K (A_l24_GuessBounds (true)) (O_l24_GuessBounds (true)))
 (cnd (l21_Large (Term.mk b.op b.v b.depth b.at_ b.name b.kids b.sub b.type))
  (K (A_l24_GuessBounds (true)) (O_l24_GuessBounds (true)))
  ((l.length ≤ (1000000000000000000 : Nat)) ∧
  (cnd (!l24_Bare l)
   (K (A_l24_GuessBounds (true)) (O_l24_GuessBounds (true)))
   (((0 : Int) ≤ (1 : Int) ∧ (1 : Int) ≤ (↑[Term.mk a.op a.v a.depth a.at_ a.name a.kids a.sub a.type, Term.mk b.op b.v b.depth b.at_ b.name b.kids b.sub b.type].length : Int)) ∧
   (cnd (decide (guess_Part (Term.mk a.op a.v a.depth a.at_ a.name a.kids a.sub a.type) l ≥ (0 : Int)))
    (cnd (decide (guess_Part (Term.mk a.op a.v a.depth a.at_ a.name a.kids a.sub a.type) l ≤ (1000000 : Int)))
     (cnd (decide (guess_Part (Term.mk (17 : Int) zeroVal (0 : Int) (0 : Int) (ByteArray.mk #[]) [Term.mk a.op a.v a.depth a.at_ a.name a.kids a.sub a.type, Term.mk b.op b.v b.depth b.at_ b.name b.kids b.sub b.type] [] (1 : Int)) l ≥ (0 : Int)))
      (cnd (decide (guess_Part (Term.mk (17 : Int) zeroVal (0 : Int) (0 : Int) (ByteArray.mk #[]) [Term.mk a.op a.v a.depth a.at_ a.name a.kids a.sub a.type, Term.mk b.op b.v b.depth b.at_ b.name b.kids b.sub b.type] [] (1 : Int)) l ≤ List.foldl (fun a b => if b < a then b else a) (guess_Part (Term.mk a.op a.v a.depth a.at_ a.name a.kids a.sub a.type) l) [guess_Part (Term.mk b.op b.v b.depth b.at_ b.name b.kids b.sub b.type) l]))
       (cnd (decide (guess_Part (Term.mk (18 : Int) zeroVal (0 : Int) (0 : Int) (ByteArray.mk #[]) [Term.mk a.op a.v a.depth a.at_ a.name a.kids a.sub a.type, Term.mk b.op b.v b.depth b.at_ b.name b.kids b.sub b.type] [] (1 : Int)) l ≥ List.foldl (fun a b => if a < b then b else a) (guess_Part (Term.mk a.op a.v a.depth a.at_ a.name a.kids a.sub a.type) l) [guess_Part (Term.mk b.op b.v b.depth b.at_ b.name b.kids b.sub b.type) l]))
        (cnd (decide (guess_Part (Term.mk (18 : Int) zeroVal (0 : Int) (0 : Int) (ByteArray.mk #[]) [Term.mk a.op a.v a.depth a.at_ a.name a.kids a.sub a.type, Term.mk b.op b.v b.depth b.at_ b.name b.kids b.sub b.type] [] (1 : Int)) l ≤ (1000000 : Int)))
         (K (A_l24_GuessBounds (guess_Part (Term.mk (4 : Int) zeroVal (0 : Int) (0 : Int) (ByteArray.mk #[]) (List.take 1 [Term.mk a.op a.v a.depth a.at_ a.name a.kids a.sub a.type, Term.mk b.op b.v b.depth b.at_ b.name b.kids b.sub b.type]) [] (1 : Int)) l == IntKind.i64.wrap ((1000000 : Int) - guess_Part (Term.mk a.op a.v a.depth a.at_ a.name a.kids a.sub a.type) l))) (O_l24_GuessBounds (guess_Part (Term.mk (4 : Int) zeroVal (0 : Int) (0 : Int) (ByteArray.mk #[]) (List.take 1 [Term.mk a.op a.v a.depth a.at_ a.name a.kids a.sub a.type, Term.mk b.op b.v b.depth b.at_ b.name b.kids b.sub b.type]) [] (1 : Int)) l == IntKind.i64.wrap ((1000000 : Int) - guess_Part (Term.mk a.op a.v a.depth a.at_ a.name a.kids a.sub a.type) l))))
         (K (A_l24_GuessBounds (false)) (O_l24_GuessBounds (false))))
        (K (A_l24_GuessBounds (false)) (O_l24_GuessBounds (false))))
       (K (A_l24_GuessBounds (false)) (O_l24_GuessBounds (false))))
      (K (A_l24_GuessBounds (false)) (O_l24_GuessBounds (false))))
     (K (A_l24_GuessBounds (false)) (O_l24_GuessBounds (false))))
    (K (A_l24_GuessBounds (false)) (O_l24_GuessBounds (false))))))))) := by kernel_rfl
theorem l24_GuessBounds_in (a : Term) (b : Term) (l : List ColStat) (K : List (A Un) → List (Ob Un) → Prop) :
    awp M_l24_GuessBounds N_l24_GuessBounds (bodyOf Try.f5) (entry Try.f5.ntmps 0 [.d (.agg (enc Ty.term a)), .d (.agg (enc Ty.term b)), .d (.v (.dat (U := Un) Ty.colStat l))]) (retQ M_l24_GuessBounds Try.f5.results.toList [.d] K) =
(cnd (l21_Large a)
 (K (A_l24_GuessBounds (true)) (O_l24_GuessBounds (true)))
 (cnd (l21_Large b)
  (K (A_l24_GuessBounds (true)) (O_l24_GuessBounds (true)))
  ((l.length ≤ (1000000000000000000 : Nat)) ∧
  (cnd (!l24_Bare l)
   (K (A_l24_GuessBounds (true)) (O_l24_GuessBounds (true)))
   (((0 : Int) ≤ (1 : Int) ∧ (1 : Int) ≤ (↑[a, b].length : Int)) ∧
   (cnd (decide (guess_Part a l ≥ (0 : Int)))
    (cnd (decide (guess_Part a l ≤ (1000000 : Int)))
     (cnd (decide (guess_Part (Term.mk (17 : Int) zeroVal (0 : Int) (0 : Int) (ByteArray.mk #[]) [a, b] [] (1 : Int)) l ≥ (0 : Int)))
      (cnd (decide (guess_Part (Term.mk (17 : Int) zeroVal (0 : Int) (0 : Int) (ByteArray.mk #[]) [a, b] [] (1 : Int)) l ≤ List.foldl (fun a b => if b < a then b else a) (guess_Part a l) [guess_Part b l]))
       (cnd (decide (guess_Part (Term.mk (18 : Int) zeroVal (0 : Int) (0 : Int) (ByteArray.mk #[]) [a, b] [] (1 : Int)) l ≥ List.foldl (fun a b => if a < b then b else a) (guess_Part a l) [guess_Part b l]))
        (cnd (decide (guess_Part (Term.mk (18 : Int) zeroVal (0 : Int) (0 : Int) (ByteArray.mk #[]) [a, b] [] (1 : Int)) l ≤ (1000000 : Int)))
         (K (A_l24_GuessBounds (guess_Part (Term.mk (4 : Int) zeroVal (0 : Int) (0 : Int) (ByteArray.mk #[]) (List.take 1 [a, b]) [] (1 : Int)) l == IntKind.i64.wrap ((1000000 : Int) - guess_Part a l))) (O_l24_GuessBounds (guess_Part (Term.mk (4 : Int) zeroVal (0 : Int) (0 : Int) (ByteArray.mk #[]) (List.take 1 [a, b]) [] (1 : Int)) l == IntKind.i64.wrap ((1000000 : Int) - guess_Part a l))))
         (K (A_l24_GuessBounds (false)) (O_l24_GuessBounds (false))))
        (K (A_l24_GuessBounds (false)) (O_l24_GuessBounds (false))))
       (K (A_l24_GuessBounds (false)) (O_l24_GuessBounds (false))))
      (K (A_l24_GuessBounds (false)) (O_l24_GuessBounds (false))))
     (K (A_l24_GuessBounds (false)) (O_l24_GuessBounds (false))))
    (K (A_l24_GuessBounds (false)) (O_l24_GuessBounds (false))))))))) :=
  (l24_GuessBounds_in_raw a b l K).trans (by simp only [Term.eta])
def l24_GuessBounds_fn (a : Term) (b : Term) (l : List ColStat) : Option (Bool) :=
  if (l21_Large a) = true then
   some (true)
  else
   if (l21_Large b) = true then
    some (true)
   else
    if l.length ≤ (1000000000000000000 : Nat) then
     if (!l24_Bare l) = true then
      some (true)
     else
      if (0 : Int) ≤ (1 : Int) ∧ (1 : Int) ≤ (↑[a, b].length : Int) then
       if (decide (guess_Part a l ≥ (0 : Int))) = true then
        if (decide (guess_Part a l ≤ (1000000 : Int))) = true then
         if (decide (guess_Part (Term.mk (17 : Int) zeroVal (0 : Int) (0 : Int) (ByteArray.mk #[]) [a, b] [] (1 : Int)) l ≥ (0 : Int))) = true then
          if (decide (guess_Part (Term.mk (17 : Int) zeroVal (0 : Int) (0 : Int) (ByteArray.mk #[]) [a, b] [] (1 : Int)) l ≤ List.foldl (fun a b => if b < a then b else a) (guess_Part a l) [guess_Part b l])) = true then
           if (decide (guess_Part (Term.mk (18 : Int) zeroVal (0 : Int) (0 : Int) (ByteArray.mk #[]) [a, b] [] (1 : Int)) l ≥ List.foldl (fun a b => if a < b then b else a) (guess_Part a l) [guess_Part b l])) = true then
            if (decide (guess_Part (Term.mk (18 : Int) zeroVal (0 : Int) (0 : Int) (ByteArray.mk #[]) [a, b] [] (1 : Int)) l ≤ (1000000 : Int))) = true then
             some (guess_Part (Term.mk (4 : Int) zeroVal (0 : Int) (0 : Int) (ByteArray.mk #[]) (List.take 1 [a, b]) [] (1 : Int)) l == IntKind.i64.wrap ((1000000 : Int) - guess_Part a l))
            else
             some (false)
           else
            some (false)
          else
           some (false)
         else
          some (false)
        else
         some (false)
       else
        some (false)
      else none
    else none
theorem l24_GuessBounds_run {a : Term} {b : Term} {l : List ColStat} {r : Bool} (h : l24_GuessBounds_fn a b l = some r) : Runs (awp M_l24_GuessBounds N_l24_GuessBounds (bodyOf Try.f5) (entry Try.f5.ntmps 0 [.d (.agg (enc Ty.term a)), .d (.agg (enc Ty.term b)), .d (.v (.dat (U := Un) Ty.colStat l))]) (retQ M_l24_GuessBounds Try.f5.results.toList [.d] fun rs os => rs = A_l24_GuessBounds r ∧ os = O_l24_GuessBounds r)) := by
  constructor
  rw [l24_GuessBounds_in a b l (fun rs os => rs = A_l24_GuessBounds r ∧ os = O_l24_GuessBounds r)]
  unfold l24_GuessBounds_fn at h
  rcases ite_some h with ⟨c1, h2⟩ | ⟨c1, h2⟩
  · cases h2
    exact (cnd_t c1 ⟨rfl, rfl⟩)
  · rcases ite_some h2 with ⟨c3, h4⟩ | ⟨c3, h4⟩
    · cases h4
      exact (cnd_f (bfalse c1) (cnd_t c3 ⟨rfl, rfl⟩))
    · obtain ⟨c5, h6⟩ := ob_some h4
      rcases ite_some h6 with ⟨c7, h8⟩ | ⟨c7, h8⟩
      · cases h8
        exact (cnd_f (bfalse c1) (cnd_f (bfalse c3) (And.intro c5 (cnd_t c7 ⟨rfl, rfl⟩))))
      · obtain ⟨c9, h10⟩ := ob_some h8
        rcases ite_some h10 with ⟨c11, h12⟩ | ⟨c11, h12⟩
        · rcases ite_some h12 with ⟨c13, h14⟩ | ⟨c13, h14⟩
          · rcases ite_some h14 with ⟨c15, h16⟩ | ⟨c15, h16⟩
            · rcases ite_some h16 with ⟨c17, h18⟩ | ⟨c17, h18⟩
              · rcases ite_some h18 with ⟨c19, h20⟩ | ⟨c19, h20⟩
                · rcases ite_some h20 with ⟨c21, h22⟩ | ⟨c21, h22⟩
                  · cases h22
                    exact (cnd_f (bfalse c1) (cnd_f (bfalse c3) (And.intro c5 (cnd_f (bfalse c7) (And.intro c9 (cnd_t c11 (cnd_t c13 (cnd_t c15 (cnd_t c17 (cnd_t c19 (cnd_t c21 ⟨rfl, rfl⟩)))))))))))
                  · cases h22
                    exact (cnd_f (bfalse c1) (cnd_f (bfalse c3) (And.intro c5 (cnd_f (bfalse c7) (And.intro c9 (cnd_t c11 (cnd_t c13 (cnd_t c15 (cnd_t c17 (cnd_t c19 (cnd_f (bfalse c21) ⟨rfl, rfl⟩)))))))))))
                · cases h20
                  exact (cnd_f (bfalse c1) (cnd_f (bfalse c3) (And.intro c5 (cnd_f (bfalse c7) (And.intro c9 (cnd_t c11 (cnd_t c13 (cnd_t c15 (cnd_t c17 (cnd_f (bfalse c19) ⟨rfl, rfl⟩))))))))))
              · cases h18
                exact (cnd_f (bfalse c1) (cnd_f (bfalse c3) (And.intro c5 (cnd_f (bfalse c7) (And.intro c9 (cnd_t c11 (cnd_t c13 (cnd_t c15 (cnd_f (bfalse c17) ⟨rfl, rfl⟩)))))))))
            · cases h16
              exact (cnd_f (bfalse c1) (cnd_f (bfalse c3) (And.intro c5 (cnd_f (bfalse c7) (And.intro c9 (cnd_t c11 (cnd_t c13 (cnd_f (bfalse c15) ⟨rfl, rfl⟩))))))))
          · cases h14
            exact (cnd_f (bfalse c1) (cnd_f (bfalse c3) (And.intro c5 (cnd_f (bfalse c7) (And.intro c9 (cnd_t c11 (cnd_f (bfalse c13) ⟨rfl, rfl⟩)))))))
        · cases h12
          exact (cnd_f (bfalse c1) (cnd_f (bfalse c3) (And.intro c5 (cnd_f (bfalse c7) (And.intro c9 (cnd_f (bfalse c11) ⟨rfl, rfl⟩))))))

def l24_GuessBounds (_a _b : Term) (_l : List ColStat) : Bool := true

theorem l24_GuessBounds_spec (a b : Term) (l : List ColStat) (_h1 : WS .term a) (_h2 : WS .term b) (_h3 : WL .colStat l) (h3 : l.length ≤ 1000000000000000000) : l24_GuessBounds_fn a b l = some (l24_GuessBounds a b l) := by
  have ra := guess_Part_range a l
  have rb := guess_Part_range b l
  have hm := mul_million ra rb
  have eand : guess_Part (Term.mk 17 zeroVal 0 0 ⟨#[]⟩ [a, b] [] 1) l = guess_Part a l * guess_Part b l / 1000000 := by
    rw [guess_Part_unfold]; simp [Term.op, Term.kids]
  have eor : guess_Part (Term.mk 18 zeroVal 0 0 ⟨#[]⟩ [a, b] [] 1) l = guess_Part a l + guess_Part b l - guess_Part a l * guess_Part b l / 1000000 := by
    rw [guess_Part_unfold]; simp [Term.op, Term.kids]
  have enot : guess_Part (Term.mk 4 zeroVal 0 0 ⟨#[]⟩ (List.take 1 [a, b]) [] 1) l = 1000000 - guess_Part a l := by
    rw [guess_Part_unfold]; simp [Term.op, Term.kids]
  unfold l24_GuessBounds_fn l24_GuessBounds
  rw [if_pos h3]
  simp only [decide_eq_true_eq]
  simp only [eand, eor, enot, foldMin, foldMax]
  generalize guess_Part a l = A at *
  generalize guess_Part b l = B at *
  have w : IntKind.i64.wrap (1000000 - A) = 1000000 - A := wrap_id (by omega)
  have c1 : A ≥ 0 := by omega
  have c2 : A ≤ 1000000 := by omega
  have c3 : A * B / 1000000 ≥ 0 := by omega
  have c4 : A * B / 1000000 ≤ min A B := by omega
  have c5 : A + B - A * B / 1000000 ≥ max A B := by omega
  have c6 : A + B - A * B / 1000000 ≤ 1000000 := by omega
  have c7 : (0 : Int) ≤ 1 ∧ (1 : Int) ≤ (([a, b] : List Term).length : Int) := by simp
  rw [if_pos c7, if_pos c1, if_pos c2, if_pos c3, if_pos c4, if_pos c5, if_pos c6, w]
  split
  · rfl
  · split
    · rfl
    · split
      · rfl
      · simp

def F_l24_GuessBounds : FnC Un := fun args => match args with
  | [x0, x1, x2] => (dS .term x0).bind fun a => (dS .term x1).bind fun b => (dL .colStat x2).bind fun l => some ([l.length ≤ 1000000000000000000], A_l24_GuessBounds (l24_GuessBounds a b l), O_l24_GuessBounds (l24_GuessBounds a b l))
  | _ => none

theorem ok_l24_GuessBounds : FnOK 5 F_l24_GuessBounds := by
  intro args ob rs os h hob
  unfold F_l24_GuessBounds at h
  split at h
  · simp only [Option.bind_eq_some_iff, Option.some.injEq, Prod.mk.injEq] at h
    obtain ⟨a, e0, b, e1, l, e2, rfl, rfl, rfl⟩ := h
    obtain rfl := dS_eq e0
    obtain rfl := dS_eq e1
    obtain rfl := dL_eq e2
    exact ⟨fn_contract (M := M_l24_GuessBounds) rfl (tbl_ok (l1 := [(7, F_l21_Large), (8, F_l24_Bare), (9, F_l24_awake), (10, F_guess_Part)]) (l2 := []) (l3 := []) (l4 := []) ⟨ok_l21_Large, ok_l24_Bare, ok_l24_awake, ok_guess_Part, trivial⟩ trivial trivial trivial) Try.func5 (by kernel_rfl) N_l24_GuessBounds 0 [.d] (fun hwf => l24_GuessBounds_run (l24_GuessBounds_spec a b l (wfArg hwf (a := .d (.agg (enc Ty.term a))) (List.mem_of_getElem? (i := 0) rfl)) (wfArg hwf (a := .d (.agg (enc Ty.term b))) (List.mem_of_getElem? (i := 1) rfl)) (wfArg hwf (a := .d (.v (.dat (U := Un) Ty.colStat l))) (List.mem_of_getElem? (i := 2) rfl)) (hob _ (List.mem_of_getElem? (i := 0) rfl)))), hasBody_of Try.func5 (by kernel_rfl) (by kernel_rfl)⟩
  · simp at h


end
end Go.Proofs.Ytjndihloefdplaa.B
