/- Functions: ref26b. (Printed by wip/tools/mkfn.py out of wip/src/ref26b.src.) -/
import Derived.Test.YtohpgnpjijpedaaBLib
import Derived.Test.YtohpgnpjijpedaaSspec
import Derived.Test.YtohpgnpjijpedaaSref03
import Derived.Test.YtohpgnpjijpedaaSspec26
import Derived.Test.YtohpgnpjijpedaaSref26
namespace Go.Proofs.Ytohpgnpjijpedaa.B
open Go Go.RowKit
set_option maxRecDepth 100000
noncomputable section
attribute [local irreducible] awp ctxK itersK iterK retQ retGQ

/-! ### tabellionref26.with -/
def M_r26_with : Mc Un := mach (tbl []) (tbl []) (tbl []) (tbl [])
def N_r26_with : Nat → NS := fun l => (look l []).getD ⟨[], [], [], [], []⟩
def A_r26_with (r : List Val) : List (A Un) := [.c (.sl (U := Un) Ty.val r false)]
def O_r26_with (_r : List Val) : List (Ob Un) := []
theorem r26_with_in (key : List Val) (v : Val) (K : List (A Un) → List (Ob Un) → Prop) :
    awp M_r26_with N_r26_with (bodyOf Try.f21) (entry Try.f21.ntmps 0 [.d (.v (.dat (U := Un) Ty.val key)), .d (.agg (enc Ty.val v))]) (retQ M_r26_with Try.f21.results.toList [.d] K) =
(((0 + key.length) * (32 : Nat) ≤ roomB) ∧
((((key).length + [v].length) * (32 : Nat) ≤ roomB) ∧
(K (A_r26_with (key ++ [v])) (O_r26_with (key ++ [v]))))) := by kernel_rfl
def r26_with_fn (key : List Val) (v : Val) : Option (List Val) :=
  if (0 + key.length) * (32 : Nat) ≤ roomB then
   if ((key).length + [v].length) * (32 : Nat) ≤ roomB then
    some (key ++ [v])
   else none
  else none
theorem r26_with_run {key : List Val} {v : Val} {r : List Val} (h : r26_with_fn key v = some r) : Runs (awp M_r26_with N_r26_with (bodyOf Try.f21) (entry Try.f21.ntmps 0 [.d (.v (.dat (U := Un) Ty.val key)), .d (.agg (enc Ty.val v))]) (retQ M_r26_with Try.f21.results.toList [.d] fun rs os => rs = A_r26_with r ∧ os = O_r26_with r)) := by
  constructor
  rw [r26_with_in key v (fun rs os => rs = A_r26_with r ∧ os = O_r26_with r)]
  unfold r26_with_fn at h
  obtain ⟨c1, h2⟩ := ob_some h
  obtain ⟨c3, h4⟩ := ob_some h2
  cases h4
  exact (And.intro c1 (And.intro c3 ⟨rfl, rfl⟩))

def r26_with (key : List Val) (v : Val) : List Val := key ++ [v]

theorem r26_with_spec (key : List Val) (v : Val) (_hk : WL .val key) (_hv : WS .val v) (hl : key.length ≤ 100000) : r26_with_fn key v = some (r26_with key v) := by
  unfold r26_with_fn r26_with
  have e1 : (0 + key.length) * 32 ≤ roomB := by unfold roomB; omega
  have e2 : (key.length + [v].length) * 32 ≤ roomB := by unfold roomB; simp; omega
  rw [if_pos e1, if_pos e2]

def F_r26_with : FnC Un := fun args => match args with
  | [x0, x1] => (dL .val x0).bind fun key => (dS .val x1).bind fun v => some ([key.length ≤ 100000], A_r26_with (r26_with key v), O_r26_with (r26_with key v))
  | _ => none

theorem ok_r26_with : FnOK 21 F_r26_with := by
  intro args ob rs os h hob
  unfold F_r26_with at h
  split at h
  · simp only [Option.bind_eq_some_iff, Option.some.injEq, Prod.mk.injEq] at h
    obtain ⟨key, e0, v, e1, rfl, rfl, rfl⟩ := h
    obtain rfl := dL_eq e0
    obtain rfl := dS_eq e1
    exact ⟨fn_contract (M := M_r26_with) rfl (tbl_ok (l1 := []) (l2 := []) (l3 := []) (l4 := []) trivial trivial trivial trivial) Try.func21 (by kernel_rfl) N_r26_with 0 [.d] (fun hwf => r26_with_run (r26_with_spec key v (wfArg hwf (a := .d (.v (.dat (U := Un) Ty.val key))) (by simp)) (wfArg hwf (a := .d (.agg (enc Ty.val v))) (by simp)) (hob _ (by simp)))), hasBody_of Try.func21 (by kernel_rfl) (by kernel_rfl)⟩
  · simp at h


/-! ### tabellionref26.SameBound -/
def M_r26_SameBound : Mc Un := mach (tbl [(16, F_r03_Orders)]) (tbl []) (tbl []) (tbl [])
def N_r26_SameBound : Nat → NS := fun l => (look l []).getD ⟨[], [], [], [], []⟩
def A_r26_SameBound (r : Bool) : List (A Un) := [.c (.s (.bool r))]
def O_r26_SameBound (_r : Bool) : List (Ob Un) := []
theorem r26_SameBound_in (a : Bound) (b : Bound) (K : List (A Un) → List (Ob Un) → Prop) :
    awp M_r26_SameBound N_r26_SameBound (bodyOf Try.f8) (entry Try.f8.ntmps 0 [.d (.agg (enc Ty.bound a)), .d (.agg (enc Ty.bound b))]) (retQ M_r26_SameBound Try.f8.results.toList [.d] K) =
(cnd (a.is == b.is)
 (cnd (a.open_ == b.open_)
  (K (A_r26_SameBound (r03_Orders a.key b.key == (0 : Int))) (O_r26_SameBound (r03_Orders a.key b.key == (0 : Int))))
  (K (A_r26_SameBound (false)) (O_r26_SameBound (false))))
 (K (A_r26_SameBound (false)) (O_r26_SameBound (false)))) := by kernel_rfl
def r26_SameBound_fn (a : Bound) (b : Bound) : Option (Bool) :=
  if (a.is == b.is) = true then
   if (a.open_ == b.open_) = true then
    some (r03_Orders a.key b.key == (0 : Int))
   else
    some (false)
  else
   some (false)
theorem r26_SameBound_run {a : Bound} {b : Bound} {r : Bool} (h : r26_SameBound_fn a b = some r) : Runs (awp M_r26_SameBound N_r26_SameBound (bodyOf Try.f8) (entry Try.f8.ntmps 0 [.d (.agg (enc Ty.bound a)), .d (.agg (enc Ty.bound b))]) (retQ M_r26_SameBound Try.f8.results.toList [.d] fun rs os => rs = A_r26_SameBound r ∧ os = O_r26_SameBound r)) := by
  constructor
  rw [r26_SameBound_in a b (fun rs os => rs = A_r26_SameBound r ∧ os = O_r26_SameBound r)]
  unfold r26_SameBound_fn at h
  rcases ite_some h with ⟨c1, h2⟩ | ⟨c1, h2⟩
  · rcases ite_some h2 with ⟨c3, h4⟩ | ⟨c3, h4⟩
    · cases h4
      exact (cnd_t c1 (cnd_t c3 ⟨rfl, rfl⟩))
    · cases h4
      exact (cnd_t c1 (cnd_f (bfalse c3) ⟨rfl, rfl⟩))
  · cases h2
    exact (cnd_f (bfalse c1) ⟨rfl, rfl⟩)

def r26_SameBound (a b : Bound) : Bool := a.is == b.is && a.open_ == b.open_ && decide (ordR a.key b.key = 0)

theorem r26_SameBound_iff {a b : Bound} : r26_SameBound a b = true ↔ a = b := by
  cases a; cases b; simp [r26_SameBound, ordR_zero, and_assoc]
theorem r26_SameBound_spec (a b : Bound) (_ha : WS .bound a) (_hb : WS .bound b) : r26_SameBound_fn a b = some (r26_SameBound a b) := by
  unfold r26_SameBound_fn r26_SameBound
  simp only [beq_iff_eq, r03_Orders_eq]
  split
  · split
    · rename_i h1 h2; simp [h1, h2]; rfl
    · rename_i h1 h2; simp [h2]
  · rename_i h1; simp [h1]

def F_r26_SameBound : FnC Un := fun args => match args with
  | [x0, x1] => (dS .bound x0).bind fun a => (dS .bound x1).bind fun b => some ([], A_r26_SameBound (r26_SameBound a b), O_r26_SameBound (r26_SameBound a b))
  | _ => none

theorem ok_r26_SameBound : FnOK 8 F_r26_SameBound := by
  intro args ob rs os h hob
  unfold F_r26_SameBound at h
  split at h
  · simp only [Option.bind_eq_some_iff, Option.some.injEq, Prod.mk.injEq] at h
    obtain ⟨a, e0, b, e1, rfl, rfl, rfl⟩ := h
    obtain rfl := dS_eq e0
    obtain rfl := dS_eq e1
    exact ⟨fn_contract (M := M_r26_SameBound) rfl (tbl_ok (l1 := [(16, F_r03_Orders)]) (l2 := []) (l3 := []) (l4 := []) ⟨ok_r03_Orders, trivial⟩ trivial trivial trivial) Try.func8 (by kernel_rfl) N_r26_SameBound 0 [.d] (fun hwf => r26_SameBound_run (r26_SameBound_spec a b (wfArg hwf (a := .d (.agg (enc Ty.bound a))) (by simp)) (wfArg hwf (a := .d (.agg (enc Ty.bound b))) (by simp)))), hasBody_of Try.func8 (by kernel_rfl) (by kernel_rfl)⟩
  · simp at h


/-! ### tabellionref26.bound -/
def M_r26_bound : Mc Un := mach (tbl [(20, F_r26_bounding), (21, F_r26_with)]) (tbl []) (tbl []) (tbl [])
def N_r26_bound : Nat → NS := fun l => (look l []).getD ⟨[], [], [], [], []⟩
def A_r26_bound (r : Bound) : List (A Un) := [.agg (encC Ty.bound r)]
def O_r26_bound (_r : Bound) : List (Ob Un) := []
theorem r26_bound_in_raw (key : List Val) (terms : List Term) (i : Int) (at_ : Int) (open_ : Int) (K : List (A Un) → List (Ob Un) → Prop) :
    awp M_r26_bound N_r26_bound (bodyOf Try.f22) (entry Try.f22.ntmps 0 [.d (.v (.dat (U := Un) Ty.val key)), .d (.v (.dat (U := Un) Ty.term terms)), .d (.v (.s (.int .i64 i))), .d (.v (.s (.int .i64 at_))), .d (.v (.s (.int .i64 open_)))]) (retQ M_r26_bound Try.f22.results.toList [.d] K) =
(cnd (decide (i < (0 : Int)))
 (K (A_r26_bound ({ is := decide ((↑key.length : Int) > (0 : Int)), open_ := false, key := key })) (O_r26_bound ({ is := decide ((↑key.length : Int) > (0 : Int)), open_ := false, key := key })))
 (((0 : Int) ≤ i ∧ i < (↑terms.length : Int)) ∧
 ((key.length ≤ (100000 : Nat)) ∧
 (K (A_r26_bound ({ is := true, open_ := (r26_bounding (Term.mk (Term.op (terms.getD i.toNat zeroTerm)) (Term.v (terms.getD i.toNat zeroTerm)) (Term.depth (terms.getD i.toNat zeroTerm)) (Term.at_ (terms.getD i.toNat zeroTerm)) (Term.name (terms.getD i.toNat zeroTerm)) (Term.kids (terms.getD i.toNat zeroTerm)) (Term.sub (terms.getD i.toNat zeroTerm)) (Term.type (terms.getD i.toNat zeroTerm))) at_).fst == open_, key := r26_with key (r26_bounding (Term.mk (Term.op (terms.getD i.toNat zeroTerm)) (Term.v (terms.getD i.toNat zeroTerm)) (Term.depth (terms.getD i.toNat zeroTerm)) (Term.at_ (terms.getD i.toNat zeroTerm)) (Term.name (terms.getD i.toNat zeroTerm)) (Term.kids (terms.getD i.toNat zeroTerm)) (Term.sub (terms.getD i.toNat zeroTerm)) (Term.type (terms.getD i.toNat zeroTerm))) at_).snd })) (O_r26_bound ({ is := true, open_ := (r26_bounding (Term.mk (Term.op (terms.getD i.toNat zeroTerm)) (Term.v (terms.getD i.toNat zeroTerm)) (Term.depth (terms.getD i.toNat zeroTerm)) (Term.at_ (terms.getD i.toNat zeroTerm)) (Term.name (terms.getD i.toNat zeroTerm)) (Term.kids (terms.getD i.toNat zeroTerm)) (Term.sub (terms.getD i.toNat zeroTerm)) (Term.type (terms.getD i.toNat zeroTerm))) at_).fst == open_, key := r26_with key (r26_bounding (Term.mk (Term.op (terms.getD i.toNat zeroTerm)) (Term.v (terms.getD i.toNat zeroTerm)) (Term.depth (terms.getD i.toNat zeroTerm)) (Term.at_ (terms.getD i.toNat zeroTerm)) (Term.name (terms.getD i.toNat zeroTerm)) (Term.kids (terms.getD i.toNat zeroTerm)) (Term.sub (terms.getD i.toNat zeroTerm)) (Term.type (terms.getD i.toNat zeroTerm))) at_).snd })))))) := by kernel_rfl
theorem r26_bound_in (key : List Val) (terms : List Term) (i : Int) (at_ : Int) (open_ : Int) (K : List (A Un) → List (Ob Un) → Prop) :
    awp M_r26_bound N_r26_bound (bodyOf Try.f22) (entry Try.f22.ntmps 0 [.d (.v (.dat (U := Un) Ty.val key)), .d (.v (.dat (U := Un) Ty.term terms)), .d (.v (.s (.int .i64 i))), .d (.v (.s (.int .i64 at_))), .d (.v (.s (.int .i64 open_)))]) (retQ M_r26_bound Try.f22.results.toList [.d] K) =
(cnd (decide (i < (0 : Int)))
 (K (A_r26_bound ({ is := decide ((↑key.length : Int) > (0 : Int)), open_ := false, key := key })) (O_r26_bound ({ is := decide ((↑key.length : Int) > (0 : Int)), open_ := false, key := key })))
 (((0 : Int) ≤ i ∧ i < (↑terms.length : Int)) ∧
 ((key.length ≤ (100000 : Nat)) ∧
 (K (A_r26_bound ({ is := true, open_ := (r26_bounding (terms.getD i.toNat zeroTerm) at_).fst == open_, key := r26_with key (r26_bounding (terms.getD i.toNat zeroTerm) at_).snd })) (O_r26_bound ({ is := true, open_ := (r26_bounding (terms.getD i.toNat zeroTerm) at_).fst == open_, key := r26_with key (r26_bounding (terms.getD i.toNat zeroTerm) at_).snd })))))) :=
  (r26_bound_in_raw key terms i at_ open_ K).trans (by simp only [Term.eta])
def r26_bound_fn (key : List Val) (terms : List Term) (i : Int) (at_ : Int) (open_ : Int) : Option (Bound) :=
  if (decide (i < (0 : Int))) = true then
   some ({ is := decide ((↑key.length : Int) > (0 : Int)), open_ := false, key := key })
  else
   if (0 : Int) ≤ i ∧ i < (↑terms.length : Int) then
    if key.length ≤ (100000 : Nat) then
     some ({ is := true, open_ := (r26_bounding (terms.getD i.toNat zeroTerm) at_).fst == open_, key := r26_with key (r26_bounding (terms.getD i.toNat zeroTerm) at_).snd })
    else none
   else none
theorem r26_bound_run {key : List Val} {terms : List Term} {i : Int} {at_ : Int} {open_ : Int} {r : Bound} (h : r26_bound_fn key terms i at_ open_ = some r) : Runs (awp M_r26_bound N_r26_bound (bodyOf Try.f22) (entry Try.f22.ntmps 0 [.d (.v (.dat (U := Un) Ty.val key)), .d (.v (.dat (U := Un) Ty.term terms)), .d (.v (.s (.int .i64 i))), .d (.v (.s (.int .i64 at_))), .d (.v (.s (.int .i64 open_)))]) (retQ M_r26_bound Try.f22.results.toList [.d] fun rs os => rs = A_r26_bound r ∧ os = O_r26_bound r)) := by
  constructor
  rw [r26_bound_in key terms i at_ open_ (fun rs os => rs = A_r26_bound r ∧ os = O_r26_bound r)]
  unfold r26_bound_fn at h
  rcases ite_some h with ⟨c1, h2⟩ | ⟨c1, h2⟩
  · cases h2
    exact (cnd_t c1 ⟨rfl, rfl⟩)
  · obtain ⟨c3, h4⟩ := ob_some h2
    obtain ⟨c5, h6⟩ := ob_some h4
    cases h6
    exact (cnd_f (bfalse c1) (And.intro c3 (And.intro c5 ⟨rfl, rfl⟩)))

def r26_bound (key : List Val) (terms : List Term) (i at_ open_ : Int) : Bound := if i < 0 then ⟨decide (key.length > 0), false, key⟩ else ⟨true, (r26_bounding (terms.getD i.toNat zeroTerm) at_).1 == open_, key ++ [(r26_bounding (terms.getD i.toNat zeroTerm) at_).2]⟩

theorem r26_bound_spec (key : List Val) (terms : List Term) (i at_ open_ : Int) (_hk : WL .val key) (_ht : WL .term terms) (_h1 : WI i) (_h2 : WI at_) (_h3 : WI open_) (hl : key.length ≤ 100000) (hi : i < terms.length) : r26_bound_fn key terms i at_ open_ = some (r26_bound key terms i at_ open_) := by
  have hd : ((key.length : Int) > 0) = (key.length > 0) := by simp
  unfold r26_bound_fn r26_bound
  by_cases h : i < 0
  · rw [if_pos (decide_eq_true h), if_pos h]; simp only [hd]
  · have e1 : 0 ≤ i ∧ i < (terms.length : Int) := by omega
    rw [if_neg (by simpa using h), if_neg h, if_pos e1, if_pos hl]; rfl

def F_r26_bound : FnC Un := fun args => match args with
  | [x0, x1, x2, x3, x4] => (dL .val x0).bind fun key => (dL .term x1).bind fun terms => (dI .i64 x2).bind fun i => (dI .i64 x3).bind fun at_ => (dI .i64 x4).bind fun open_ => some ([key.length ≤ 100000, i < terms.length], A_r26_bound (r26_bound key terms i at_ open_), O_r26_bound (r26_bound key terms i at_ open_))
  | _ => none

theorem ok_r26_bound : FnOK 22 F_r26_bound := by
  intro args ob rs os h hob
  unfold F_r26_bound at h
  split at h
  · simp only [Option.bind_eq_some_iff, Option.some.injEq, Prod.mk.injEq] at h
    obtain ⟨key, e0, terms, e1, i, e2, at_, e3, open_, e4, rfl, rfl, rfl⟩ := h
    obtain rfl := dL_eq e0
    obtain rfl := dL_eq e1
    obtain rfl := dI_eq e2
    obtain rfl := dI_eq e3
    obtain rfl := dI_eq e4
    exact ⟨fn_contract (M := M_r26_bound) rfl (tbl_ok (l1 := [(20, F_r26_bounding), (21, F_r26_with)]) (l2 := []) (l3 := []) (l4 := []) ⟨ok_r26_bounding, ok_r26_with, trivial⟩ trivial trivial trivial) Try.func22 (by kernel_rfl) N_r26_bound 0 [.d] (fun hwf => r26_bound_run (r26_bound_spec key terms i at_ open_ (wfArg hwf (a := .d (.v (.dat (U := Un) Ty.val key))) (by simp)) (wfArg hwf (a := .d (.v (.dat (U := Un) Ty.term terms))) (by simp)) (wfArg hwf (a := .d (.v (.s (.int .i64 i)))) (by simp)) (wfArg hwf (a := .d (.v (.s (.int .i64 at_)))) (by simp)) (wfArg hwf (a := .d (.v (.s (.int .i64 open_)))) (by simp)) (hob _ (by simp)) (hob _ (by simp)))), hasBody_of Try.func22 (by kernel_rfl) (by kernel_rfl)⟩
  · simp at h


/-! ### tabellionref26.ranged -/
def M_r26_ranged : Mc Un := mach (tbl [(19, F_r26_first), (20, F_r26_bounding), (21, F_r26_with), (22, F_r26_bound)]) (tbl []) (tbl []) (tbl [])
def N_r26_ranged : Nat → NS := fun l => (look l [(4, { ts := [true, true, false, false, true, true, false, false, true, true, true, false, false, false, false, false, false, false, false, false, false, false, false, false, false, false, false, false, false, false, false, false, false, false, false, false, false, false, false, false, false, false, false, false, false, false, false, false, false, false, false, false, false, false, false, false, false, false, false, false, false, false, false, false, false, false, false, false, false, false, false, false, false, false, false, false, false, false, false, false, false, false, false, false, false, false, false, false, false, false, false, false, false, false, false, false, false, false, false, false, false, false, false, false, false, false, false, false, false, false, false, false, false, false, false, false, false, false, false, false, false, false, false, false, false], bs := [false, false, false, false, true, true, false, false, false, false, false, false, false, false, false, false, false, false, false, false, false, false, false, false, false, false, false, false, false, false, false, false, false, false, false, false, false, false, false, false, false, false, false, false, false, false, false, false, false, false, false, false, false, false, false, false, false, false, false, false, false, false, false, false, false, false, false, false, false, false, false, false, false, false, false, false, false, false, false, false, false, false, false, false, false, false, false, false, false, false, false, false, false, false, false, false, false, false, false, false, false, false, false, false, false, false, false, false, false, false, false, false, false, false, false, false, false, false, false, false, false, false, false, false, false], nm := [(.sl 9, 500)], gb := [], gs := [8] })]).getD ⟨[], [], [], [], []⟩
def A_r26_ranged (r : Bound × Bound × Int × List Term) : List (A Un) := [.agg (encC Ty.bound r.1), .agg (encC Ty.bound r.2.1), .c (.s (.int .i64 r.2.2.1)), .c (.sl (U := Un) Ty.term r.2.2.2 false)]
def O_r26_ranged (_r : Bound × Bound × Int × List Term) : List (Ob Un) := []
def r26_ranged_c1 (terms : List Term) (cols : List Int) (v1 : Int) := r26_first terms (cols.getD v1.toNat (0 : Int)) (11 : Int) (11 : Int)
def r26_ranged_c2 (terms : List Term) (cols : List Int) (v1 : Int) := r26_first terms (cols.getD v1.toNat (0 : Int)) (15 : Int) (16 : Int)
def r26_ranged_c3 (terms : List Term) (cols : List Int) (v1 : Int) := r26_first terms (cols.getD v1.toNat (0 : Int)) (13 : Int) (14 : Int)
def r26_ranged_c4 (terms : List Term) (cols : List Int) (v0 : List Val) (v1 : Int) := r26_bound v0 terms (r26_ranged_c2 terms cols v1) (cols.getD v1.toNat (0 : Int)) (15 : Int)
def r26_ranged_c5 (terms : List Term) (cols : List Int) (v0 : List Val) (v1 : Int) := r26_bound v0 terms (r26_ranged_c3 terms cols v1) (cols.getD v1.toNat (0 : Int)) (13 : Int)
def r26_ranged_s4 (terms : List Term) (cols : List Int) (v0 : List Val) (v1 : Int) (v2 : List Term) : S Un := (st 125 125 501 0 [(0, AV.one (A.c (C.sl Ty.term terms false))), (1, AV.one (A.c (C.sl Ty.int cols false))), (4, AV.one (A.c (C.bx (4 : Nat) (0 : Nat)))), (5, AV.one (A.c (C.bx (5 : Nat) (0 : Nat)))), (8, AV.one (A.c (C.sl Ty.val v0 false))), (9, AV.one (A.c (C.ob (500 : Nat) (0 : Nat)))), (10, AV.one (A.c (C.s (Value.int IntKind.i64 v1))))] [(4, some (false, [C.s (Value.bool false), C.s (Value.bool false), C.sl Ty.val [] true])), (5, some (false, [C.s (Value.bool false), C.s (Value.bool false), C.sl Ty.val [] true]))] [(500, some ⟨(0 : Nat), Ty.term, v2, some (0 : Nat), true⟩)])
theorem r26_ranged_in (terms : List Term) (cols : List Int) (K : List (A Un) → List (Ob Un) → Prop) :
    awp M_r26_ranged N_r26_ranged (bodyOf Try.f15) (entry Try.f15.ntmps 1 [.d (.v (.dat (U := Un) Ty.term terms)), .d (.v (.dat (U := Un) Ty.int cols))]) (retQ M_r26_ranged Try.f15.results.toList [.d, .d, .d, .d] K) =
(itersK (N_r26_ranged 4) (awp M_r26_ranged N_r26_ranged (sub (bodyOf Try.f15) [1, 1, 1, 1, 0, 2, 2])) (ctxK M_r26_ranged N_r26_ranged (bodyOf Try.f15) [1, 1, 1, 1, 0, 2] (retQ M_r26_ranged Try.f15.results.toList [.d, .d, .d, .d] K)) (r26_ranged_s4 terms cols ([]) (0 : Int) ([]))) := by kernel_rfl
theorem r26_ranged_l4_raw (terms : List Term) (cols : List Int) (v0 : List Val) (v1 : Int) (v2 : List Term) (k : Nat) (Q : Exit → S Un → Prop) :
    iterK (N_r26_ranged 4) (awp M_r26_ranged N_r26_ranged (sub (bodyOf Try.f15) [1, 1, 1, 1, 0, 2, 2])) Q (k + 1) (r26_ranged_s4 terms cols v0 v1 v2) =
(cnd (decide (v1 < (↑cols.length : Int)))
 (((0 : Int) ≤ v1 ∧ v1 < (↑cols.length : Int)) ∧
 (cnd (decide (r26_first terms (cols.getD v1.toNat (0 : Int)) (11 : Int) (11 : Int) < (0 : Int)))
  (Q (.exit 0) (r26_ranged_s4 terms cols v0 v1 v2))
  (((0 : Int) ≤ r26_first terms (cols.getD v1.toNat (0 : Int)) (11 : Int) (11 : Int) ∧ r26_first terms (cols.getD v1.toNat (0 : Int)) (11 : Int) (11 : Int) < (↑terms.length : Int)) ∧
  (((0 : Int) ≤ v1 ∧ v1 < (↑cols.length : Int)) ∧
  ((v0.length ≤ (100000 : Nat)) ∧
  (((0 : Int) ≤ r26_first terms (cols.getD v1.toNat (0 : Int)) (11 : Int) (11 : Int) ∧ r26_first terms (cols.getD v1.toNat (0 : Int)) (11 : Int) (11 : Int) < (↑terms.length : Int)) ∧
  (((v2.length + [Term.mk (Term.op (terms.getD (r26_ranged_c1 terms cols v1).toNat zeroTerm)) (Term.v (terms.getD (r26_ranged_c1 terms cols v1).toNat zeroTerm)) (Term.depth (terms.getD (r26_ranged_c1 terms cols v1).toNat zeroTerm)) (Term.at_ (terms.getD (r26_ranged_c1 terms cols v1).toNat zeroTerm)) (Term.name (terms.getD (r26_ranged_c1 terms cols v1).toNat zeroTerm)) (Term.kids (terms.getD (r26_ranged_c1 terms cols v1).toNat zeroTerm)) (Term.sub (terms.getD (r26_ranged_c1 terms cols v1).toNat zeroTerm)) (Term.type (terms.getD (r26_ranged_c1 terms cols v1).toNat zeroTerm))].length) * (128 : Nat) ≤ roomB) ∧
  (iterK (N_r26_ranged 4) (awp M_r26_ranged N_r26_ranged (sub (bodyOf Try.f15) [1, 1, 1, 1, 0, 2, 2])) Q k (r26_ranged_s4 terms cols (r26_with v0 (r26_bounding (Term.mk (Term.op (terms.getD (r26_ranged_c1 terms cols v1).toNat zeroTerm)) (Term.v (terms.getD (r26_ranged_c1 terms cols v1).toNat zeroTerm)) (Term.depth (terms.getD (r26_ranged_c1 terms cols v1).toNat zeroTerm)) (Term.at_ (terms.getD (r26_ranged_c1 terms cols v1).toNat zeroTerm)) (Term.name (terms.getD (r26_ranged_c1 terms cols v1).toNat zeroTerm)) (Term.kids (terms.getD (r26_ranged_c1 terms cols v1).toNat zeroTerm)) (Term.sub (terms.getD (r26_ranged_c1 terms cols v1).toNat zeroTerm)) (Term.type (terms.getD (r26_ranged_c1 terms cols v1).toNat zeroTerm))) (cols.getD v1.toNat (0 : Int))).snd) (IntKind.i64.wrap (v1 + (1 : Int))) (v2 ++ [Term.mk (Term.op (terms.getD (r26_ranged_c1 terms cols v1).toNat zeroTerm)) (Term.v (terms.getD (r26_ranged_c1 terms cols v1).toNat zeroTerm)) (Term.depth (terms.getD (r26_ranged_c1 terms cols v1).toNat zeroTerm)) (Term.at_ (terms.getD (r26_ranged_c1 terms cols v1).toNat zeroTerm)) (Term.name (terms.getD (r26_ranged_c1 terms cols v1).toNat zeroTerm)) (Term.kids (terms.getD (r26_ranged_c1 terms cols v1).toNat zeroTerm)) (Term.sub (terms.getD (r26_ranged_c1 terms cols v1).toNat zeroTerm)) (Term.type (terms.getD (r26_ranged_c1 terms cols v1).toNat zeroTerm))]))))))))))
 (Q (.exit 0) (r26_ranged_s4 terms cols v0 v1 v2))) := by kernel_rfl
theorem r26_ranged_l4 (terms : List Term) (cols : List Int) (v0 : List Val) (v1 : Int) (v2 : List Term) (k : Nat) (Q : Exit → S Un → Prop) :
    iterK (N_r26_ranged 4) (awp M_r26_ranged N_r26_ranged (sub (bodyOf Try.f15) [1, 1, 1, 1, 0, 2, 2])) Q (k + 1) (r26_ranged_s4 terms cols v0 v1 v2) =
(cnd (decide (v1 < (↑cols.length : Int)))
 (((0 : Int) ≤ v1 ∧ v1 < (↑cols.length : Int)) ∧
 (cnd (decide (r26_first terms (cols.getD v1.toNat (0 : Int)) (11 : Int) (11 : Int) < (0 : Int)))
  (Q (.exit 0) (r26_ranged_s4 terms cols v0 v1 v2))
  (((0 : Int) ≤ r26_first terms (cols.getD v1.toNat (0 : Int)) (11 : Int) (11 : Int) ∧ r26_first terms (cols.getD v1.toNat (0 : Int)) (11 : Int) (11 : Int) < (↑terms.length : Int)) ∧
  (((0 : Int) ≤ v1 ∧ v1 < (↑cols.length : Int)) ∧
  ((v0.length ≤ (100000 : Nat)) ∧
  (((0 : Int) ≤ r26_first terms (cols.getD v1.toNat (0 : Int)) (11 : Int) (11 : Int) ∧ r26_first terms (cols.getD v1.toNat (0 : Int)) (11 : Int) (11 : Int) < (↑terms.length : Int)) ∧
  (((v2.length + [(terms.getD (r26_ranged_c1 terms cols v1).toNat zeroTerm)].length) * (128 : Nat) ≤ roomB) ∧
  (iterK (N_r26_ranged 4) (awp M_r26_ranged N_r26_ranged (sub (bodyOf Try.f15) [1, 1, 1, 1, 0, 2, 2])) Q k (r26_ranged_s4 terms cols (r26_with v0 (r26_bounding (terms.getD (r26_ranged_c1 terms cols v1).toNat zeroTerm) (cols.getD v1.toNat (0 : Int))).snd) (IntKind.i64.wrap (v1 + (1 : Int))) (v2 ++ [(terms.getD (r26_ranged_c1 terms cols v1).toNat zeroTerm)]))))))))))
 (Q (.exit 0) (r26_ranged_s4 terms cols v0 v1 v2))) :=
  (r26_ranged_l4_raw terms cols v0 v1 v2 k Q).trans (by simp only [Term.eta])
theorem r26_ranged_a4_x0_raw (terms : List Term) (cols : List Int) (v0 : List Val) (v1 : Int) (v2 : List Term) (K : List (A Un) → List (Ob Un) → Prop) :
    ctxK M_r26_ranged N_r26_ranged (bodyOf Try.f15) [1, 1, 1, 1, 0, 2] (retQ M_r26_ranged Try.f15.results.toList [.d, .d, .d, .d] K) (.exit 0) (r26_ranged_s4 terms cols v0 v1 v2) =
(cnd (v1 == (↑cols.length : Int))
 (K (A_r26_ranged ({ is := decide (v1 > (0 : Int)), open_ := false, key := v0 }, { is := decide (v1 > (0 : Int)), open_ := false, key := v0 }, v1, v2)) (O_r26_ranged ({ is := decide (v1 > (0 : Int)), open_ := false, key := v0 }, { is := decide (v1 > (0 : Int)), open_ := false, key := v0 }, v1, v2)))
 (((0 : Int) ≤ v1 ∧ v1 < (↑cols.length : Int)) ∧
 (((0 : Int) ≤ v1 ∧ v1 < (↑cols.length : Int)) ∧
 (((0 : Int) ≤ v1 ∧ v1 < (↑cols.length : Int)) ∧
 ((v0.length ≤ (100000 : Nat)) ∧
 ((r26_first terms (cols.getD v1.toNat (0 : Int)) (15 : Int) (16 : Int) < (↑terms.length : Int)) ∧
 (((0 : Int) ≤ v1 ∧ v1 < (↑cols.length : Int)) ∧
 ((v0.length ≤ (100000 : Nat)) ∧
 ((r26_first terms (cols.getD v1.toNat (0 : Int)) (13 : Int) (14 : Int) < (↑terms.length : Int)) ∧
 (cnd (decide (r26_first terms (cols.getD v1.toNat (0 : Int)) (15 : Int) (16 : Int) ≥ (0 : Int)))
  (((0 : Int) ≤ r26_first terms (cols.getD v1.toNat (0 : Int)) (15 : Int) (16 : Int) ∧ r26_first terms (cols.getD v1.toNat (0 : Int)) (15 : Int) (16 : Int) < (↑terms.length : Int)) ∧
  (((v2.length + [Term.mk (Term.op (terms.getD (r26_ranged_c2 terms cols v1).toNat zeroTerm)) (Term.v (terms.getD (r26_ranged_c2 terms cols v1).toNat zeroTerm)) (Term.depth (terms.getD (r26_ranged_c2 terms cols v1).toNat zeroTerm)) (Term.at_ (terms.getD (r26_ranged_c2 terms cols v1).toNat zeroTerm)) (Term.name (terms.getD (r26_ranged_c2 terms cols v1).toNat zeroTerm)) (Term.kids (terms.getD (r26_ranged_c2 terms cols v1).toNat zeroTerm)) (Term.sub (terms.getD (r26_ranged_c2 terms cols v1).toNat zeroTerm)) (Term.type (terms.getD (r26_ranged_c2 terms cols v1).toNat zeroTerm))].length) * (128 : Nat) ≤ roomB) ∧
  (cnd (decide (r26_first terms (cols.getD v1.toNat (0 : Int)) (13 : Int) (14 : Int) ≥ (0 : Int)))
   (((0 : Int) ≤ r26_first terms (cols.getD v1.toNat (0 : Int)) (13 : Int) (14 : Int) ∧ r26_first terms (cols.getD v1.toNat (0 : Int)) (13 : Int) (14 : Int) < (↑terms.length : Int)) ∧
   ((((v2 ++ [Term.mk (Term.op (terms.getD (r26_ranged_c2 terms cols v1).toNat zeroTerm)) (Term.v (terms.getD (r26_ranged_c2 terms cols v1).toNat zeroTerm)) (Term.depth (terms.getD (r26_ranged_c2 terms cols v1).toNat zeroTerm)) (Term.at_ (terms.getD (r26_ranged_c2 terms cols v1).toNat zeroTerm)) (Term.name (terms.getD (r26_ranged_c2 terms cols v1).toNat zeroTerm)) (Term.kids (terms.getD (r26_ranged_c2 terms cols v1).toNat zeroTerm)) (Term.sub (terms.getD (r26_ranged_c2 terms cols v1).toNat zeroTerm)) (Term.type (terms.getD (r26_ranged_c2 terms cols v1).toNat zeroTerm))]).length + [Term.mk (Term.op (terms.getD (r26_ranged_c3 terms cols v1).toNat zeroTerm)) (Term.v (terms.getD (r26_ranged_c3 terms cols v1).toNat zeroTerm)) (Term.depth (terms.getD (r26_ranged_c3 terms cols v1).toNat zeroTerm)) (Term.at_ (terms.getD (r26_ranged_c3 terms cols v1).toNat zeroTerm)) (Term.name (terms.getD (r26_ranged_c3 terms cols v1).toNat zeroTerm)) (Term.kids (terms.getD (r26_ranged_c3 terms cols v1).toNat zeroTerm)) (Term.sub (terms.getD (r26_ranged_c3 terms cols v1).toNat zeroTerm)) (Term.type (terms.getD (r26_ranged_c3 terms cols v1).toNat zeroTerm))].length) * (128 : Nat) ≤ roomB) ∧
   (cnd (decide (r26_first terms (cols.getD v1.toNat (0 : Int)) (15 : Int) (16 : Int) ≥ (0 : Int)))
    (K (A_r26_ranged (r26_ranged_c4 terms cols v0 v1, r26_ranged_c5 terms cols v0 v1, IntKind.i64.wrap (v1 + (1 : Int)), v2 ++ [Term.mk (Term.op (terms.getD (r26_ranged_c2 terms cols v1).toNat zeroTerm)) (Term.v (terms.getD (r26_ranged_c2 terms cols v1).toNat zeroTerm)) (Term.depth (terms.getD (r26_ranged_c2 terms cols v1).toNat zeroTerm)) (Term.at_ (terms.getD (r26_ranged_c2 terms cols v1).toNat zeroTerm)) (Term.name (terms.getD (r26_ranged_c2 terms cols v1).toNat zeroTerm)) (Term.kids (terms.getD (r26_ranged_c2 terms cols v1).toNat zeroTerm)) (Term.sub (terms.getD (r26_ranged_c2 terms cols v1).toNat zeroTerm)) (Term.type (terms.getD (r26_ranged_c2 terms cols v1).toNat zeroTerm))] ++ [Term.mk (Term.op (terms.getD (r26_ranged_c3 terms cols v1).toNat zeroTerm)) (Term.v (terms.getD (r26_ranged_c3 terms cols v1).toNat zeroTerm)) (Term.depth (terms.getD (r26_ranged_c3 terms cols v1).toNat zeroTerm)) (Term.at_ (terms.getD (r26_ranged_c3 terms cols v1).toNat zeroTerm)) (Term.name (terms.getD (r26_ranged_c3 terms cols v1).toNat zeroTerm)) (Term.kids (terms.getD (r26_ranged_c3 terms cols v1).toNat zeroTerm)) (Term.sub (terms.getD (r26_ranged_c3 terms cols v1).toNat zeroTerm)) (Term.type (terms.getD (r26_ranged_c3 terms cols v1).toNat zeroTerm))])) (O_r26_ranged (r26_ranged_c4 terms cols v0 v1, r26_ranged_c5 terms cols v0 v1, IntKind.i64.wrap (v1 + (1 : Int)), v2 ++ [Term.mk (Term.op (terms.getD (r26_ranged_c2 terms cols v1).toNat zeroTerm)) (Term.v (terms.getD (r26_ranged_c2 terms cols v1).toNat zeroTerm)) (Term.depth (terms.getD (r26_ranged_c2 terms cols v1).toNat zeroTerm)) (Term.at_ (terms.getD (r26_ranged_c2 terms cols v1).toNat zeroTerm)) (Term.name (terms.getD (r26_ranged_c2 terms cols v1).toNat zeroTerm)) (Term.kids (terms.getD (r26_ranged_c2 terms cols v1).toNat zeroTerm)) (Term.sub (terms.getD (r26_ranged_c2 terms cols v1).toNat zeroTerm)) (Term.type (terms.getD (r26_ranged_c2 terms cols v1).toNat zeroTerm))] ++ [Term.mk (Term.op (terms.getD (r26_ranged_c3 terms cols v1).toNat zeroTerm)) (Term.v (terms.getD (r26_ranged_c3 terms cols v1).toNat zeroTerm)) (Term.depth (terms.getD (r26_ranged_c3 terms cols v1).toNat zeroTerm)) (Term.at_ (terms.getD (r26_ranged_c3 terms cols v1).toNat zeroTerm)) (Term.name (terms.getD (r26_ranged_c3 terms cols v1).toNat zeroTerm)) (Term.kids (terms.getD (r26_ranged_c3 terms cols v1).toNat zeroTerm)) (Term.sub (terms.getD (r26_ranged_c3 terms cols v1).toNat zeroTerm)) (Term.type (terms.getD (r26_ranged_c3 terms cols v1).toNat zeroTerm))])))
    (cnd (decide (r26_first terms (cols.getD v1.toNat (0 : Int)) (13 : Int) (14 : Int) ≥ (0 : Int)))
     (K (A_r26_ranged (r26_ranged_c4 terms cols v0 v1, r26_ranged_c5 terms cols v0 v1, IntKind.i64.wrap (v1 + (1 : Int)), v2 ++ [Term.mk (Term.op (terms.getD (r26_ranged_c2 terms cols v1).toNat zeroTerm)) (Term.v (terms.getD (r26_ranged_c2 terms cols v1).toNat zeroTerm)) (Term.depth (terms.getD (r26_ranged_c2 terms cols v1).toNat zeroTerm)) (Term.at_ (terms.getD (r26_ranged_c2 terms cols v1).toNat zeroTerm)) (Term.name (terms.getD (r26_ranged_c2 terms cols v1).toNat zeroTerm)) (Term.kids (terms.getD (r26_ranged_c2 terms cols v1).toNat zeroTerm)) (Term.sub (terms.getD (r26_ranged_c2 terms cols v1).toNat zeroTerm)) (Term.type (terms.getD (r26_ranged_c2 terms cols v1).toNat zeroTerm))] ++ [Term.mk (Term.op (terms.getD (r26_ranged_c3 terms cols v1).toNat zeroTerm)) (Term.v (terms.getD (r26_ranged_c3 terms cols v1).toNat zeroTerm)) (Term.depth (terms.getD (r26_ranged_c3 terms cols v1).toNat zeroTerm)) (Term.at_ (terms.getD (r26_ranged_c3 terms cols v1).toNat zeroTerm)) (Term.name (terms.getD (r26_ranged_c3 terms cols v1).toNat zeroTerm)) (Term.kids (terms.getD (r26_ranged_c3 terms cols v1).toNat zeroTerm)) (Term.sub (terms.getD (r26_ranged_c3 terms cols v1).toNat zeroTerm)) (Term.type (terms.getD (r26_ranged_c3 terms cols v1).toNat zeroTerm))])) (O_r26_ranged (r26_ranged_c4 terms cols v0 v1, r26_ranged_c5 terms cols v0 v1, IntKind.i64.wrap (v1 + (1 : Int)), v2 ++ [Term.mk (Term.op (terms.getD (r26_ranged_c2 terms cols v1).toNat zeroTerm)) (Term.v (terms.getD (r26_ranged_c2 terms cols v1).toNat zeroTerm)) (Term.depth (terms.getD (r26_ranged_c2 terms cols v1).toNat zeroTerm)) (Term.at_ (terms.getD (r26_ranged_c2 terms cols v1).toNat zeroTerm)) (Term.name (terms.getD (r26_ranged_c2 terms cols v1).toNat zeroTerm)) (Term.kids (terms.getD (r26_ranged_c2 terms cols v1).toNat zeroTerm)) (Term.sub (terms.getD (r26_ranged_c2 terms cols v1).toNat zeroTerm)) (Term.type (terms.getD (r26_ranged_c2 terms cols v1).toNat zeroTerm))] ++ [Term.mk (Term.op (terms.getD (r26_ranged_c3 terms cols v1).toNat zeroTerm)) (Term.v (terms.getD (r26_ranged_c3 terms cols v1).toNat zeroTerm)) (Term.depth (terms.getD (r26_ranged_c3 terms cols v1).toNat zeroTerm)) (Term.at_ (terms.getD (r26_ranged_c3 terms cols v1).toNat zeroTerm)) (Term.name (terms.getD (r26_ranged_c3 terms cols v1).toNat zeroTerm)) (Term.kids (terms.getD (r26_ranged_c3 terms cols v1).toNat zeroTerm)) (Term.sub (terms.getD (r26_ranged_c3 terms cols v1).toNat zeroTerm)) (Term.type (terms.getD (r26_ranged_c3 terms cols v1).toNat zeroTerm))])))
     (K (A_r26_ranged (r26_ranged_c4 terms cols v0 v1, r26_ranged_c5 terms cols v0 v1, v1, v2 ++ [Term.mk (Term.op (terms.getD (r26_ranged_c2 terms cols v1).toNat zeroTerm)) (Term.v (terms.getD (r26_ranged_c2 terms cols v1).toNat zeroTerm)) (Term.depth (terms.getD (r26_ranged_c2 terms cols v1).toNat zeroTerm)) (Term.at_ (terms.getD (r26_ranged_c2 terms cols v1).toNat zeroTerm)) (Term.name (terms.getD (r26_ranged_c2 terms cols v1).toNat zeroTerm)) (Term.kids (terms.getD (r26_ranged_c2 terms cols v1).toNat zeroTerm)) (Term.sub (terms.getD (r26_ranged_c2 terms cols v1).toNat zeroTerm)) (Term.type (terms.getD (r26_ranged_c2 terms cols v1).toNat zeroTerm))] ++ [Term.mk (Term.op (terms.getD (r26_ranged_c3 terms cols v1).toNat zeroTerm)) (Term.v (terms.getD (r26_ranged_c3 terms cols v1).toNat zeroTerm)) (Term.depth (terms.getD (r26_ranged_c3 terms cols v1).toNat zeroTerm)) (Term.at_ (terms.getD (r26_ranged_c3 terms cols v1).toNat zeroTerm)) (Term.name (terms.getD (r26_ranged_c3 terms cols v1).toNat zeroTerm)) (Term.kids (terms.getD (r26_ranged_c3 terms cols v1).toNat zeroTerm)) (Term.sub (terms.getD (r26_ranged_c3 terms cols v1).toNat zeroTerm)) (Term.type (terms.getD (r26_ranged_c3 terms cols v1).toNat zeroTerm))])) (O_r26_ranged (r26_ranged_c4 terms cols v0 v1, r26_ranged_c5 terms cols v0 v1, v1, v2 ++ [Term.mk (Term.op (terms.getD (r26_ranged_c2 terms cols v1).toNat zeroTerm)) (Term.v (terms.getD (r26_ranged_c2 terms cols v1).toNat zeroTerm)) (Term.depth (terms.getD (r26_ranged_c2 terms cols v1).toNat zeroTerm)) (Term.at_ (terms.getD (r26_ranged_c2 terms cols v1).toNat zeroTerm)) (Term.name (terms.getD (r26_ranged_c2 terms cols v1).toNat zeroTerm)) (Term.kids (terms.getD (r26_ranged_c2 terms cols v1).toNat zeroTerm)) (Term.sub (terms.getD (r26_ranged_c2 terms cols v1).toNat zeroTerm)) (Term.type (terms.getD (r26_ranged_c2 terms cols v1).toNat zeroTerm))] ++ [Term.mk (Term.op (terms.getD (r26_ranged_c3 terms cols v1).toNat zeroTerm)) (Term.v (terms.getD (r26_ranged_c3 terms cols v1).toNat zeroTerm)) (Term.depth (terms.getD (r26_ranged_c3 terms cols v1).toNat zeroTerm)) (Term.at_ (terms.getD (r26_ranged_c3 terms cols v1).toNat zeroTerm)) (Term.name (terms.getD (r26_ranged_c3 terms cols v1).toNat zeroTerm)) (Term.kids (terms.getD (r26_ranged_c3 terms cols v1).toNat zeroTerm)) (Term.sub (terms.getD (r26_ranged_c3 terms cols v1).toNat zeroTerm)) (Term.type (terms.getD (r26_ranged_c3 terms cols v1).toNat zeroTerm))])))))))
   (cnd (decide (r26_first terms (cols.getD v1.toNat (0 : Int)) (15 : Int) (16 : Int) ≥ (0 : Int)))
    (K (A_r26_ranged (r26_ranged_c4 terms cols v0 v1, r26_ranged_c5 terms cols v0 v1, IntKind.i64.wrap (v1 + (1 : Int)), v2 ++ [Term.mk (Term.op (terms.getD (r26_ranged_c2 terms cols v1).toNat zeroTerm)) (Term.v (terms.getD (r26_ranged_c2 terms cols v1).toNat zeroTerm)) (Term.depth (terms.getD (r26_ranged_c2 terms cols v1).toNat zeroTerm)) (Term.at_ (terms.getD (r26_ranged_c2 terms cols v1).toNat zeroTerm)) (Term.name (terms.getD (r26_ranged_c2 terms cols v1).toNat zeroTerm)) (Term.kids (terms.getD (r26_ranged_c2 terms cols v1).toNat zeroTerm)) (Term.sub (terms.getD (r26_ranged_c2 terms cols v1).toNat zeroTerm)) (Term.type (terms.getD (r26_ranged_c2 terms cols v1).toNat zeroTerm))])) (O_r26_ranged (r26_ranged_c4 terms cols v0 v1, r26_ranged_c5 terms cols v0 v1, IntKind.i64.wrap (v1 + (1 : Int)), v2 ++ [Term.mk (Term.op (terms.getD (r26_ranged_c2 terms cols v1).toNat zeroTerm)) (Term.v (terms.getD (r26_ranged_c2 terms cols v1).toNat zeroTerm)) (Term.depth (terms.getD (r26_ranged_c2 terms cols v1).toNat zeroTerm)) (Term.at_ (terms.getD (r26_ranged_c2 terms cols v1).toNat zeroTerm)) (Term.name (terms.getD (r26_ranged_c2 terms cols v1).toNat zeroTerm)) (Term.kids (terms.getD (r26_ranged_c2 terms cols v1).toNat zeroTerm)) (Term.sub (terms.getD (r26_ranged_c2 terms cols v1).toNat zeroTerm)) (Term.type (terms.getD (r26_ranged_c2 terms cols v1).toNat zeroTerm))])))
    (cnd (decide (r26_first terms (cols.getD v1.toNat (0 : Int)) (13 : Int) (14 : Int) ≥ (0 : Int)))
     (K (A_r26_ranged (r26_ranged_c4 terms cols v0 v1, r26_ranged_c5 terms cols v0 v1, IntKind.i64.wrap (v1 + (1 : Int)), v2 ++ [Term.mk (Term.op (terms.getD (r26_ranged_c2 terms cols v1).toNat zeroTerm)) (Term.v (terms.getD (r26_ranged_c2 terms cols v1).toNat zeroTerm)) (Term.depth (terms.getD (r26_ranged_c2 terms cols v1).toNat zeroTerm)) (Term.at_ (terms.getD (r26_ranged_c2 terms cols v1).toNat zeroTerm)) (Term.name (terms.getD (r26_ranged_c2 terms cols v1).toNat zeroTerm)) (Term.kids (terms.getD (r26_ranged_c2 terms cols v1).toNat zeroTerm)) (Term.sub (terms.getD (r26_ranged_c2 terms cols v1).toNat zeroTerm)) (Term.type (terms.getD (r26_ranged_c2 terms cols v1).toNat zeroTerm))])) (O_r26_ranged (r26_ranged_c4 terms cols v0 v1, r26_ranged_c5 terms cols v0 v1, IntKind.i64.wrap (v1 + (1 : Int)), v2 ++ [Term.mk (Term.op (terms.getD (r26_ranged_c2 terms cols v1).toNat zeroTerm)) (Term.v (terms.getD (r26_ranged_c2 terms cols v1).toNat zeroTerm)) (Term.depth (terms.getD (r26_ranged_c2 terms cols v1).toNat zeroTerm)) (Term.at_ (terms.getD (r26_ranged_c2 terms cols v1).toNat zeroTerm)) (Term.name (terms.getD (r26_ranged_c2 terms cols v1).toNat zeroTerm)) (Term.kids (terms.getD (r26_ranged_c2 terms cols v1).toNat zeroTerm)) (Term.sub (terms.getD (r26_ranged_c2 terms cols v1).toNat zeroTerm)) (Term.type (terms.getD (r26_ranged_c2 terms cols v1).toNat zeroTerm))])))
     (K (A_r26_ranged (r26_ranged_c4 terms cols v0 v1, r26_ranged_c5 terms cols v0 v1, v1, v2 ++ [Term.mk (Term.op (terms.getD (r26_ranged_c2 terms cols v1).toNat zeroTerm)) (Term.v (terms.getD (r26_ranged_c2 terms cols v1).toNat zeroTerm)) (Term.depth (terms.getD (r26_ranged_c2 terms cols v1).toNat zeroTerm)) (Term.at_ (terms.getD (r26_ranged_c2 terms cols v1).toNat zeroTerm)) (Term.name (terms.getD (r26_ranged_c2 terms cols v1).toNat zeroTerm)) (Term.kids (terms.getD (r26_ranged_c2 terms cols v1).toNat zeroTerm)) (Term.sub (terms.getD (r26_ranged_c2 terms cols v1).toNat zeroTerm)) (Term.type (terms.getD (r26_ranged_c2 terms cols v1).toNat zeroTerm))])) (O_r26_ranged (r26_ranged_c4 terms cols v0 v1, r26_ranged_c5 terms cols v0 v1, v1, v2 ++ [Term.mk (Term.op (terms.getD (r26_ranged_c2 terms cols v1).toNat zeroTerm)) (Term.v (terms.getD (r26_ranged_c2 terms cols v1).toNat zeroTerm)) (Term.depth (terms.getD (r26_ranged_c2 terms cols v1).toNat zeroTerm)) (Term.at_ (terms.getD (r26_ranged_c2 terms cols v1).toNat zeroTerm)) (Term.name (terms.getD (r26_ranged_c2 terms cols v1).toNat zeroTerm)) (Term.kids (terms.getD (r26_ranged_c2 terms cols v1).toNat zeroTerm)) (Term.sub (terms.getD (r26_ranged_c2 terms cols v1).toNat zeroTerm)) (Term.type (terms.getD (r26_ranged_c2 terms cols v1).toNat zeroTerm))]))))))))
  (cnd (decide (r26_first terms (cols.getD v1.toNat (0 : Int)) (13 : Int) (14 : Int) ≥ (0 : Int)))
   (((0 : Int) ≤ r26_first terms (cols.getD v1.toNat (0 : Int)) (13 : Int) (14 : Int) ∧ r26_first terms (cols.getD v1.toNat (0 : Int)) (13 : Int) (14 : Int) < (↑terms.length : Int)) ∧
   (((v2.length + [Term.mk (Term.op (terms.getD (r26_ranged_c3 terms cols v1).toNat zeroTerm)) (Term.v (terms.getD (r26_ranged_c3 terms cols v1).toNat zeroTerm)) (Term.depth (terms.getD (r26_ranged_c3 terms cols v1).toNat zeroTerm)) (Term.at_ (terms.getD (r26_ranged_c3 terms cols v1).toNat zeroTerm)) (Term.name (terms.getD (r26_ranged_c3 terms cols v1).toNat zeroTerm)) (Term.kids (terms.getD (r26_ranged_c3 terms cols v1).toNat zeroTerm)) (Term.sub (terms.getD (r26_ranged_c3 terms cols v1).toNat zeroTerm)) (Term.type (terms.getD (r26_ranged_c3 terms cols v1).toNat zeroTerm))].length) * (128 : Nat) ≤ roomB) ∧
   (cnd (decide (r26_first terms (cols.getD v1.toNat (0 : Int)) (15 : Int) (16 : Int) ≥ (0 : Int)))
    (K (A_r26_ranged (r26_ranged_c4 terms cols v0 v1, r26_ranged_c5 terms cols v0 v1, IntKind.i64.wrap (v1 + (1 : Int)), v2 ++ [Term.mk (Term.op (terms.getD (r26_ranged_c3 terms cols v1).toNat zeroTerm)) (Term.v (terms.getD (r26_ranged_c3 terms cols v1).toNat zeroTerm)) (Term.depth (terms.getD (r26_ranged_c3 terms cols v1).toNat zeroTerm)) (Term.at_ (terms.getD (r26_ranged_c3 terms cols v1).toNat zeroTerm)) (Term.name (terms.getD (r26_ranged_c3 terms cols v1).toNat zeroTerm)) (Term.kids (terms.getD (r26_ranged_c3 terms cols v1).toNat zeroTerm)) (Term.sub (terms.getD (r26_ranged_c3 terms cols v1).toNat zeroTerm)) (Term.type (terms.getD (r26_ranged_c3 terms cols v1).toNat zeroTerm))])) (O_r26_ranged (r26_ranged_c4 terms cols v0 v1, r26_ranged_c5 terms cols v0 v1, IntKind.i64.wrap (v1 + (1 : Int)), v2 ++ [Term.mk (Term.op (terms.getD (r26_ranged_c3 terms cols v1).toNat zeroTerm)) (Term.v (terms.getD (r26_ranged_c3 terms cols v1).toNat zeroTerm)) (Term.depth (terms.getD (r26_ranged_c3 terms cols v1).toNat zeroTerm)) (Term.at_ (terms.getD (r26_ranged_c3 terms cols v1).toNat zeroTerm)) (Term.name (terms.getD (r26_ranged_c3 terms cols v1).toNat zeroTerm)) (Term.kids (terms.getD (r26_ranged_c3 terms cols v1).toNat zeroTerm)) (Term.sub (terms.getD (r26_ranged_c3 terms cols v1).toNat zeroTerm)) (Term.type (terms.getD (r26_ranged_c3 terms cols v1).toNat zeroTerm))])))
    (cnd (decide (r26_first terms (cols.getD v1.toNat (0 : Int)) (13 : Int) (14 : Int) ≥ (0 : Int)))
     (K (A_r26_ranged (r26_ranged_c4 terms cols v0 v1, r26_ranged_c5 terms cols v0 v1, IntKind.i64.wrap (v1 + (1 : Int)), v2 ++ [Term.mk (Term.op (terms.getD (r26_ranged_c3 terms cols v1).toNat zeroTerm)) (Term.v (terms.getD (r26_ranged_c3 terms cols v1).toNat zeroTerm)) (Term.depth (terms.getD (r26_ranged_c3 terms cols v1).toNat zeroTerm)) (Term.at_ (terms.getD (r26_ranged_c3 terms cols v1).toNat zeroTerm)) (Term.name (terms.getD (r26_ranged_c3 terms cols v1).toNat zeroTerm)) (Term.kids (terms.getD (r26_ranged_c3 terms cols v1).toNat zeroTerm)) (Term.sub (terms.getD (r26_ranged_c3 terms cols v1).toNat zeroTerm)) (Term.type (terms.getD (r26_ranged_c3 terms cols v1).toNat zeroTerm))])) (O_r26_ranged (r26_ranged_c4 terms cols v0 v1, r26_ranged_c5 terms cols v0 v1, IntKind.i64.wrap (v1 + (1 : Int)), v2 ++ [Term.mk (Term.op (terms.getD (r26_ranged_c3 terms cols v1).toNat zeroTerm)) (Term.v (terms.getD (r26_ranged_c3 terms cols v1).toNat zeroTerm)) (Term.depth (terms.getD (r26_ranged_c3 terms cols v1).toNat zeroTerm)) (Term.at_ (terms.getD (r26_ranged_c3 terms cols v1).toNat zeroTerm)) (Term.name (terms.getD (r26_ranged_c3 terms cols v1).toNat zeroTerm)) (Term.kids (terms.getD (r26_ranged_c3 terms cols v1).toNat zeroTerm)) (Term.sub (terms.getD (r26_ranged_c3 terms cols v1).toNat zeroTerm)) (Term.type (terms.getD (r26_ranged_c3 terms cols v1).toNat zeroTerm))])))
     (K (A_r26_ranged (r26_ranged_c4 terms cols v0 v1, r26_ranged_c5 terms cols v0 v1, v1, v2 ++ [Term.mk (Term.op (terms.getD (r26_ranged_c3 terms cols v1).toNat zeroTerm)) (Term.v (terms.getD (r26_ranged_c3 terms cols v1).toNat zeroTerm)) (Term.depth (terms.getD (r26_ranged_c3 terms cols v1).toNat zeroTerm)) (Term.at_ (terms.getD (r26_ranged_c3 terms cols v1).toNat zeroTerm)) (Term.name (terms.getD (r26_ranged_c3 terms cols v1).toNat zeroTerm)) (Term.kids (terms.getD (r26_ranged_c3 terms cols v1).toNat zeroTerm)) (Term.sub (terms.getD (r26_ranged_c3 terms cols v1).toNat zeroTerm)) (Term.type (terms.getD (r26_ranged_c3 terms cols v1).toNat zeroTerm))])) (O_r26_ranged (r26_ranged_c4 terms cols v0 v1, r26_ranged_c5 terms cols v0 v1, v1, v2 ++ [Term.mk (Term.op (terms.getD (r26_ranged_c3 terms cols v1).toNat zeroTerm)) (Term.v (terms.getD (r26_ranged_c3 terms cols v1).toNat zeroTerm)) (Term.depth (terms.getD (r26_ranged_c3 terms cols v1).toNat zeroTerm)) (Term.at_ (terms.getD (r26_ranged_c3 terms cols v1).toNat zeroTerm)) (Term.name (terms.getD (r26_ranged_c3 terms cols v1).toNat zeroTerm)) (Term.kids (terms.getD (r26_ranged_c3 terms cols v1).toNat zeroTerm)) (Term.sub (terms.getD (r26_ranged_c3 terms cols v1).toNat zeroTerm)) (Term.type (terms.getD (r26_ranged_c3 terms cols v1).toNat zeroTerm))])))))))
   (cnd (decide (r26_first terms (cols.getD v1.toNat (0 : Int)) (15 : Int) (16 : Int) ≥ (0 : Int)))
    (K (A_r26_ranged (r26_ranged_c4 terms cols v0 v1, r26_ranged_c5 terms cols v0 v1, IntKind.i64.wrap (v1 + (1 : Int)), v2)) (O_r26_ranged (r26_ranged_c4 terms cols v0 v1, r26_ranged_c5 terms cols v0 v1, IntKind.i64.wrap (v1 + (1 : Int)), v2)))
    (cnd (decide (r26_first terms (cols.getD v1.toNat (0 : Int)) (13 : Int) (14 : Int) ≥ (0 : Int)))
     (K (A_r26_ranged (r26_ranged_c4 terms cols v0 v1, r26_ranged_c5 terms cols v0 v1, IntKind.i64.wrap (v1 + (1 : Int)), v2)) (O_r26_ranged (r26_ranged_c4 terms cols v0 v1, r26_ranged_c5 terms cols v0 v1, IntKind.i64.wrap (v1 + (1 : Int)), v2)))
     (K (A_r26_ranged (r26_ranged_c4 terms cols v0 v1, r26_ranged_c5 terms cols v0 v1, v1, v2)) (O_r26_ranged (r26_ranged_c4 terms cols v0 v1, r26_ranged_c5 terms cols v0 v1, v1, v2)))))))))))))))) := by kernel_rfl
theorem r26_ranged_a4_x0 (terms : List Term) (cols : List Int) (v0 : List Val) (v1 : Int) (v2 : List Term) (K : List (A Un) → List (Ob Un) → Prop) :
    ctxK M_r26_ranged N_r26_ranged (bodyOf Try.f15) [1, 1, 1, 1, 0, 2] (retQ M_r26_ranged Try.f15.results.toList [.d, .d, .d, .d] K) (.exit 0) (r26_ranged_s4 terms cols v0 v1 v2) =
(cnd (v1 == (↑cols.length : Int))
 (K (A_r26_ranged ({ is := decide (v1 > (0 : Int)), open_ := false, key := v0 }, { is := decide (v1 > (0 : Int)), open_ := false, key := v0 }, v1, v2)) (O_r26_ranged ({ is := decide (v1 > (0 : Int)), open_ := false, key := v0 }, { is := decide (v1 > (0 : Int)), open_ := false, key := v0 }, v1, v2)))
 (((0 : Int) ≤ v1 ∧ v1 < (↑cols.length : Int)) ∧
 (((0 : Int) ≤ v1 ∧ v1 < (↑cols.length : Int)) ∧
 (((0 : Int) ≤ v1 ∧ v1 < (↑cols.length : Int)) ∧
 ((v0.length ≤ (100000 : Nat)) ∧
 ((r26_first terms (cols.getD v1.toNat (0 : Int)) (15 : Int) (16 : Int) < (↑terms.length : Int)) ∧
 (((0 : Int) ≤ v1 ∧ v1 < (↑cols.length : Int)) ∧
 ((v0.length ≤ (100000 : Nat)) ∧
 ((r26_first terms (cols.getD v1.toNat (0 : Int)) (13 : Int) (14 : Int) < (↑terms.length : Int)) ∧
 (cnd (decide (r26_first terms (cols.getD v1.toNat (0 : Int)) (15 : Int) (16 : Int) ≥ (0 : Int)))
  (((0 : Int) ≤ r26_first terms (cols.getD v1.toNat (0 : Int)) (15 : Int) (16 : Int) ∧ r26_first terms (cols.getD v1.toNat (0 : Int)) (15 : Int) (16 : Int) < (↑terms.length : Int)) ∧
  (((v2.length + [(terms.getD (r26_ranged_c2 terms cols v1).toNat zeroTerm)].length) * (128 : Nat) ≤ roomB) ∧
  (cnd (decide (r26_first terms (cols.getD v1.toNat (0 : Int)) (13 : Int) (14 : Int) ≥ (0 : Int)))
   (((0 : Int) ≤ r26_first terms (cols.getD v1.toNat (0 : Int)) (13 : Int) (14 : Int) ∧ r26_first terms (cols.getD v1.toNat (0 : Int)) (13 : Int) (14 : Int) < (↑terms.length : Int)) ∧
   ((((v2 ++ [(terms.getD (r26_ranged_c2 terms cols v1).toNat zeroTerm)]).length + [(terms.getD (r26_ranged_c3 terms cols v1).toNat zeroTerm)].length) * (128 : Nat) ≤ roomB) ∧
   (cnd (decide (r26_first terms (cols.getD v1.toNat (0 : Int)) (15 : Int) (16 : Int) ≥ (0 : Int)))
    (K (A_r26_ranged (r26_ranged_c4 terms cols v0 v1, r26_ranged_c5 terms cols v0 v1, IntKind.i64.wrap (v1 + (1 : Int)), v2 ++ [(terms.getD (r26_ranged_c2 terms cols v1).toNat zeroTerm)] ++ [(terms.getD (r26_ranged_c3 terms cols v1).toNat zeroTerm)])) (O_r26_ranged (r26_ranged_c4 terms cols v0 v1, r26_ranged_c5 terms cols v0 v1, IntKind.i64.wrap (v1 + (1 : Int)), v2 ++ [(terms.getD (r26_ranged_c2 terms cols v1).toNat zeroTerm)] ++ [(terms.getD (r26_ranged_c3 terms cols v1).toNat zeroTerm)])))
    (cnd (decide (r26_first terms (cols.getD v1.toNat (0 : Int)) (13 : Int) (14 : Int) ≥ (0 : Int)))
     (K (A_r26_ranged (r26_ranged_c4 terms cols v0 v1, r26_ranged_c5 terms cols v0 v1, IntKind.i64.wrap (v1 + (1 : Int)), v2 ++ [(terms.getD (r26_ranged_c2 terms cols v1).toNat zeroTerm)] ++ [(terms.getD (r26_ranged_c3 terms cols v1).toNat zeroTerm)])) (O_r26_ranged (r26_ranged_c4 terms cols v0 v1, r26_ranged_c5 terms cols v0 v1, IntKind.i64.wrap (v1 + (1 : Int)), v2 ++ [(terms.getD (r26_ranged_c2 terms cols v1).toNat zeroTerm)] ++ [(terms.getD (r26_ranged_c3 terms cols v1).toNat zeroTerm)])))
     (K (A_r26_ranged (r26_ranged_c4 terms cols v0 v1, r26_ranged_c5 terms cols v0 v1, v1, v2 ++ [(terms.getD (r26_ranged_c2 terms cols v1).toNat zeroTerm)] ++ [(terms.getD (r26_ranged_c3 terms cols v1).toNat zeroTerm)])) (O_r26_ranged (r26_ranged_c4 terms cols v0 v1, r26_ranged_c5 terms cols v0 v1, v1, v2 ++ [(terms.getD (r26_ranged_c2 terms cols v1).toNat zeroTerm)] ++ [(terms.getD (r26_ranged_c3 terms cols v1).toNat zeroTerm)])))))))
   (cnd (decide (r26_first terms (cols.getD v1.toNat (0 : Int)) (15 : Int) (16 : Int) ≥ (0 : Int)))
    (K (A_r26_ranged (r26_ranged_c4 terms cols v0 v1, r26_ranged_c5 terms cols v0 v1, IntKind.i64.wrap (v1 + (1 : Int)), v2 ++ [(terms.getD (r26_ranged_c2 terms cols v1).toNat zeroTerm)])) (O_r26_ranged (r26_ranged_c4 terms cols v0 v1, r26_ranged_c5 terms cols v0 v1, IntKind.i64.wrap (v1 + (1 : Int)), v2 ++ [(terms.getD (r26_ranged_c2 terms cols v1).toNat zeroTerm)])))
    (cnd (decide (r26_first terms (cols.getD v1.toNat (0 : Int)) (13 : Int) (14 : Int) ≥ (0 : Int)))
     (K (A_r26_ranged (r26_ranged_c4 terms cols v0 v1, r26_ranged_c5 terms cols v0 v1, IntKind.i64.wrap (v1 + (1 : Int)), v2 ++ [(terms.getD (r26_ranged_c2 terms cols v1).toNat zeroTerm)])) (O_r26_ranged (r26_ranged_c4 terms cols v0 v1, r26_ranged_c5 terms cols v0 v1, IntKind.i64.wrap (v1 + (1 : Int)), v2 ++ [(terms.getD (r26_ranged_c2 terms cols v1).toNat zeroTerm)])))
     (K (A_r26_ranged (r26_ranged_c4 terms cols v0 v1, r26_ranged_c5 terms cols v0 v1, v1, v2 ++ [(terms.getD (r26_ranged_c2 terms cols v1).toNat zeroTerm)])) (O_r26_ranged (r26_ranged_c4 terms cols v0 v1, r26_ranged_c5 terms cols v0 v1, v1, v2 ++ [(terms.getD (r26_ranged_c2 terms cols v1).toNat zeroTerm)]))))))))
  (cnd (decide (r26_first terms (cols.getD v1.toNat (0 : Int)) (13 : Int) (14 : Int) ≥ (0 : Int)))
   (((0 : Int) ≤ r26_first terms (cols.getD v1.toNat (0 : Int)) (13 : Int) (14 : Int) ∧ r26_first terms (cols.getD v1.toNat (0 : Int)) (13 : Int) (14 : Int) < (↑terms.length : Int)) ∧
   (((v2.length + [(terms.getD (r26_ranged_c3 terms cols v1).toNat zeroTerm)].length) * (128 : Nat) ≤ roomB) ∧
   (cnd (decide (r26_first terms (cols.getD v1.toNat (0 : Int)) (15 : Int) (16 : Int) ≥ (0 : Int)))
    (K (A_r26_ranged (r26_ranged_c4 terms cols v0 v1, r26_ranged_c5 terms cols v0 v1, IntKind.i64.wrap (v1 + (1 : Int)), v2 ++ [(terms.getD (r26_ranged_c3 terms cols v1).toNat zeroTerm)])) (O_r26_ranged (r26_ranged_c4 terms cols v0 v1, r26_ranged_c5 terms cols v0 v1, IntKind.i64.wrap (v1 + (1 : Int)), v2 ++ [(terms.getD (r26_ranged_c3 terms cols v1).toNat zeroTerm)])))
    (cnd (decide (r26_first terms (cols.getD v1.toNat (0 : Int)) (13 : Int) (14 : Int) ≥ (0 : Int)))
     (K (A_r26_ranged (r26_ranged_c4 terms cols v0 v1, r26_ranged_c5 terms cols v0 v1, IntKind.i64.wrap (v1 + (1 : Int)), v2 ++ [(terms.getD (r26_ranged_c3 terms cols v1).toNat zeroTerm)])) (O_r26_ranged (r26_ranged_c4 terms cols v0 v1, r26_ranged_c5 terms cols v0 v1, IntKind.i64.wrap (v1 + (1 : Int)), v2 ++ [(terms.getD (r26_ranged_c3 terms cols v1).toNat zeroTerm)])))
     (K (A_r26_ranged (r26_ranged_c4 terms cols v0 v1, r26_ranged_c5 terms cols v0 v1, v1, v2 ++ [(terms.getD (r26_ranged_c3 terms cols v1).toNat zeroTerm)])) (O_r26_ranged (r26_ranged_c4 terms cols v0 v1, r26_ranged_c5 terms cols v0 v1, v1, v2 ++ [(terms.getD (r26_ranged_c3 terms cols v1).toNat zeroTerm)])))))))
   (cnd (decide (r26_first terms (cols.getD v1.toNat (0 : Int)) (15 : Int) (16 : Int) ≥ (0 : Int)))
    (K (A_r26_ranged (r26_ranged_c4 terms cols v0 v1, r26_ranged_c5 terms cols v0 v1, IntKind.i64.wrap (v1 + (1 : Int)), v2)) (O_r26_ranged (r26_ranged_c4 terms cols v0 v1, r26_ranged_c5 terms cols v0 v1, IntKind.i64.wrap (v1 + (1 : Int)), v2)))
    (cnd (decide (r26_first terms (cols.getD v1.toNat (0 : Int)) (13 : Int) (14 : Int) ≥ (0 : Int)))
     (K (A_r26_ranged (r26_ranged_c4 terms cols v0 v1, r26_ranged_c5 terms cols v0 v1, IntKind.i64.wrap (v1 + (1 : Int)), v2)) (O_r26_ranged (r26_ranged_c4 terms cols v0 v1, r26_ranged_c5 terms cols v0 v1, IntKind.i64.wrap (v1 + (1 : Int)), v2)))
     (K (A_r26_ranged (r26_ranged_c4 terms cols v0 v1, r26_ranged_c5 terms cols v0 v1, v1, v2)) (O_r26_ranged (r26_ranged_c4 terms cols v0 v1, r26_ranged_c5 terms cols v0 v1, v1, v2)))))))))))))))) :=
  (r26_ranged_a4_x0_raw terms cols v0 v1 v2 K).trans (by simp only [Term.eta])
def r26_ranged_S4 (terms : List Term) (cols : List Int) (v : List Val × Int × List Term) : Option ((List Val × Int × List Term) ⊕ (List Val × Int × List Term)) :=
  if (decide (v.2.1 < (↑cols.length : Int))) = true then
   if (0 : Int) ≤ v.2.1 ∧ v.2.1 < (↑cols.length : Int) then
    if (decide (r26_first terms (cols.getD v.2.1.toNat (0 : Int)) (11 : Int) (11 : Int) < (0 : Int))) = true then
     some (.inr (v.1, v.2.1, v.2.2))
    else
     if (0 : Int) ≤ r26_first terms (cols.getD v.2.1.toNat (0 : Int)) (11 : Int) (11 : Int) ∧ r26_first terms (cols.getD v.2.1.toNat (0 : Int)) (11 : Int) (11 : Int) < (↑terms.length : Int) then
      if (0 : Int) ≤ v.2.1 ∧ v.2.1 < (↑cols.length : Int) then
       if v.1.length ≤ (100000 : Nat) then
        if (0 : Int) ≤ r26_first terms (cols.getD v.2.1.toNat (0 : Int)) (11 : Int) (11 : Int) ∧ r26_first terms (cols.getD v.2.1.toNat (0 : Int)) (11 : Int) (11 : Int) < (↑terms.length : Int) then
         if (v.2.2.length + [(terms.getD (r26_ranged_c1 terms cols v.2.1).toNat zeroTerm)].length) * (128 : Nat) ≤ roomB then
          some (.inl ((r26_with v.1 (r26_bounding (terms.getD (r26_ranged_c1 terms cols v.2.1).toNat zeroTerm) (cols.getD v.2.1.toNat (0 : Int))).snd), (IntKind.i64.wrap (v.2.1 + (1 : Int))), (v.2.2 ++ [(terms.getD (r26_ranged_c1 terms cols v.2.1).toNat zeroTerm)])))
         else none
        else none
       else none
      else none
     else none
   else none
  else
   some (.inr (v.1, v.2.1, v.2.2))
def r26_ranged_L4 (terms : List Term) (cols : List Int) (v : List Val × Int × List Term) : Option (List Val × Int × List Term) := loopO (r26_ranged_S4 terms cols) v
theorem r26_ranged_L4_eq (terms : List Term) (cols : List Int) (v : List Val × Int × List Term) : r26_ranged_L4 terms cols v = stepB (r26_ranged_L4 terms cols) (r26_ranged_S4 terms cols v) := loopO_eq _ _
def r26_ranged_Q4 (terms : List Term) (cols : List Int) (r : List Val × Int × List Term) (Q : Exit → S Un → Prop) : Prop := Q (.exit 0) (r26_ranged_s4 terms cols r.1 r.2.1 r.2.2)
theorem r26_ranged_Q4_x0 {terms : List Term} {cols : List Int} {r : List Val × Int × List Term} {Q : Exit → S Un → Prop} (h : Q (.exit 0) (r26_ranged_s4 terms cols r.1 r.2.1 r.2.2)) : r26_ranged_Q4 terms cols r Q := h
theorem r26_ranged_L4_run {terms : List Term} {cols : List Int} {v : List Val × Int × List Term} {r : List Val × Int × List Term} (h : r26_ranged_L4 terms cols v = some r) (Q : Exit → S Un → Prop) (hQ : r26_ranged_Q4 terms cols r Q) : itersK (N_r26_ranged 4) (awp M_r26_ranged N_r26_ranged (sub (bodyOf Try.f15) [1, 1, 1, 1, 0, 2, 2])) Q (r26_ranged_s4 terms cols v.1 v.2.1 v.2.2) := by
  refine @loop_run _ _ (r26_ranged_S4 terms cols) (fun v => itersK (N_r26_ranged 4) (awp M_r26_ranged N_r26_ranged (sub (bodyOf Try.f15) [1, 1, 1, 1, 0, 2, 2])) Q (r26_ranged_s4 terms cols v.1 v.2.1 v.2.2)) (fun r => r26_ranged_Q4 terms cols r Q) ?_ v r h hQ
  intro v o h hI
  unfold r26_ranged_S4 at h
  rcases ite_some h with ⟨c1, h2⟩ | ⟨c1, h2⟩
  · obtain ⟨c3, h4⟩ := ob_some h2
    rcases ite_some h4 with ⟨c5, h6⟩ | ⟨c5, h6⟩
    · cases h6
      exact itersK_mk 1 (mpr (r26_ranged_l4 terms cols v.1 v.2.1 v.2.2 0 Q) (cnd_t c1 (And.intro c3 (cnd_t c5 hI))))
    · obtain ⟨c7, h8⟩ := ob_some h6
      obtain ⟨c9, h10⟩ := ob_some h8
      obtain ⟨c11, h12⟩ := ob_some h10
      obtain ⟨c13, h14⟩ := ob_some h12
      obtain ⟨c15, h16⟩ := ob_some h14
      cases h16
      obtain ⟨k17, hk18⟩ := itersK_get hI
      exact itersK_mk (k17 + 1) (mpr (r26_ranged_l4 terms cols v.1 v.2.1 v.2.2 k17 Q) (cnd_t c1 (And.intro c3 (cnd_f (bfalse c5) (And.intro c7 (And.intro c9 (And.intro c11 (And.intro c13 (And.intro c15 hk18)))))))))
  · cases h2
    exact itersK_mk 1 (mpr (r26_ranged_l4 terms cols v.1 v.2.1 v.2.2 0 Q) (cnd_f (bfalse c1) hI))
def r26_ranged_fn (terms : List Term) (cols : List Int) : Option (Bound × Bound × Int × List Term) :=
  (r26_ranged_L4 terms cols (([]), (0 : Int), ([]))) >>= fun o19 =>
   if (o19.2.1 == (↑cols.length : Int)) = true then
    some ({ is := decide (o19.2.1 > (0 : Int)), open_ := false, key := o19.1 }, { is := decide (o19.2.1 > (0 : Int)), open_ := false, key := o19.1 }, o19.2.1, o19.2.2)
   else
    if (0 : Int) ≤ o19.2.1 ∧ o19.2.1 < (↑cols.length : Int) then
     if (0 : Int) ≤ o19.2.1 ∧ o19.2.1 < (↑cols.length : Int) then
      if (0 : Int) ≤ o19.2.1 ∧ o19.2.1 < (↑cols.length : Int) then
       if o19.1.length ≤ (100000 : Nat) then
        if r26_first terms (cols.getD o19.2.1.toNat (0 : Int)) (15 : Int) (16 : Int) < (↑terms.length : Int) then
         if (0 : Int) ≤ o19.2.1 ∧ o19.2.1 < (↑cols.length : Int) then
          if o19.1.length ≤ (100000 : Nat) then
           if r26_first terms (cols.getD o19.2.1.toNat (0 : Int)) (13 : Int) (14 : Int) < (↑terms.length : Int) then
            if (decide (r26_first terms (cols.getD o19.2.1.toNat (0 : Int)) (15 : Int) (16 : Int) ≥ (0 : Int))) = true then
             if (0 : Int) ≤ r26_first terms (cols.getD o19.2.1.toNat (0 : Int)) (15 : Int) (16 : Int) ∧ r26_first terms (cols.getD o19.2.1.toNat (0 : Int)) (15 : Int) (16 : Int) < (↑terms.length : Int) then
              if (o19.2.2.length + [(terms.getD (r26_ranged_c2 terms cols o19.2.1).toNat zeroTerm)].length) * (128 : Nat) ≤ roomB then
               if (decide (r26_first terms (cols.getD o19.2.1.toNat (0 : Int)) (13 : Int) (14 : Int) ≥ (0 : Int))) = true then
                if (0 : Int) ≤ r26_first terms (cols.getD o19.2.1.toNat (0 : Int)) (13 : Int) (14 : Int) ∧ r26_first terms (cols.getD o19.2.1.toNat (0 : Int)) (13 : Int) (14 : Int) < (↑terms.length : Int) then
                 if ((o19.2.2 ++ [(terms.getD (r26_ranged_c2 terms cols o19.2.1).toNat zeroTerm)]).length + [(terms.getD (r26_ranged_c3 terms cols o19.2.1).toNat zeroTerm)].length) * (128 : Nat) ≤ roomB then
                  if (decide (r26_first terms (cols.getD o19.2.1.toNat (0 : Int)) (15 : Int) (16 : Int) ≥ (0 : Int))) = true then
                   some (r26_ranged_c4 terms cols o19.1 o19.2.1, r26_ranged_c5 terms cols o19.1 o19.2.1, IntKind.i64.wrap (o19.2.1 + (1 : Int)), o19.2.2 ++ [(terms.getD (r26_ranged_c2 terms cols o19.2.1).toNat zeroTerm)] ++ [(terms.getD (r26_ranged_c3 terms cols o19.2.1).toNat zeroTerm)])
                  else
                   if (decide (r26_first terms (cols.getD o19.2.1.toNat (0 : Int)) (13 : Int) (14 : Int) ≥ (0 : Int))) = true then
                    some (r26_ranged_c4 terms cols o19.1 o19.2.1, r26_ranged_c5 terms cols o19.1 o19.2.1, IntKind.i64.wrap (o19.2.1 + (1 : Int)), o19.2.2 ++ [(terms.getD (r26_ranged_c2 terms cols o19.2.1).toNat zeroTerm)] ++ [(terms.getD (r26_ranged_c3 terms cols o19.2.1).toNat zeroTerm)])
                   else
                    some (r26_ranged_c4 terms cols o19.1 o19.2.1, r26_ranged_c5 terms cols o19.1 o19.2.1, o19.2.1, o19.2.2 ++ [(terms.getD (r26_ranged_c2 terms cols o19.2.1).toNat zeroTerm)] ++ [(terms.getD (r26_ranged_c3 terms cols o19.2.1).toNat zeroTerm)])
                 else none
                else none
               else
                if (decide (r26_first terms (cols.getD o19.2.1.toNat (0 : Int)) (15 : Int) (16 : Int) ≥ (0 : Int))) = true then
                 some (r26_ranged_c4 terms cols o19.1 o19.2.1, r26_ranged_c5 terms cols o19.1 o19.2.1, IntKind.i64.wrap (o19.2.1 + (1 : Int)), o19.2.2 ++ [(terms.getD (r26_ranged_c2 terms cols o19.2.1).toNat zeroTerm)])
                else
                 if (decide (r26_first terms (cols.getD o19.2.1.toNat (0 : Int)) (13 : Int) (14 : Int) ≥ (0 : Int))) = true then
                  some (r26_ranged_c4 terms cols o19.1 o19.2.1, r26_ranged_c5 terms cols o19.1 o19.2.1, IntKind.i64.wrap (o19.2.1 + (1 : Int)), o19.2.2 ++ [(terms.getD (r26_ranged_c2 terms cols o19.2.1).toNat zeroTerm)])
                 else
                  some (r26_ranged_c4 terms cols o19.1 o19.2.1, r26_ranged_c5 terms cols o19.1 o19.2.1, o19.2.1, o19.2.2 ++ [(terms.getD (r26_ranged_c2 terms cols o19.2.1).toNat zeroTerm)])
              else none
             else none
            else
             if (decide (r26_first terms (cols.getD o19.2.1.toNat (0 : Int)) (13 : Int) (14 : Int) ≥ (0 : Int))) = true then
              if (0 : Int) ≤ r26_first terms (cols.getD o19.2.1.toNat (0 : Int)) (13 : Int) (14 : Int) ∧ r26_first terms (cols.getD o19.2.1.toNat (0 : Int)) (13 : Int) (14 : Int) < (↑terms.length : Int) then
               if (o19.2.2.length + [(terms.getD (r26_ranged_c3 terms cols o19.2.1).toNat zeroTerm)].length) * (128 : Nat) ≤ roomB then
                if (decide (r26_first terms (cols.getD o19.2.1.toNat (0 : Int)) (15 : Int) (16 : Int) ≥ (0 : Int))) = true then
                 some (r26_ranged_c4 terms cols o19.1 o19.2.1, r26_ranged_c5 terms cols o19.1 o19.2.1, IntKind.i64.wrap (o19.2.1 + (1 : Int)), o19.2.2 ++ [(terms.getD (r26_ranged_c3 terms cols o19.2.1).toNat zeroTerm)])
                else
                 if (decide (r26_first terms (cols.getD o19.2.1.toNat (0 : Int)) (13 : Int) (14 : Int) ≥ (0 : Int))) = true then
                  some (r26_ranged_c4 terms cols o19.1 o19.2.1, r26_ranged_c5 terms cols o19.1 o19.2.1, IntKind.i64.wrap (o19.2.1 + (1 : Int)), o19.2.2 ++ [(terms.getD (r26_ranged_c3 terms cols o19.2.1).toNat zeroTerm)])
                 else
                  some (r26_ranged_c4 terms cols o19.1 o19.2.1, r26_ranged_c5 terms cols o19.1 o19.2.1, o19.2.1, o19.2.2 ++ [(terms.getD (r26_ranged_c3 terms cols o19.2.1).toNat zeroTerm)])
               else none
              else none
             else
              if (decide (r26_first terms (cols.getD o19.2.1.toNat (0 : Int)) (15 : Int) (16 : Int) ≥ (0 : Int))) = true then
               some (r26_ranged_c4 terms cols o19.1 o19.2.1, r26_ranged_c5 terms cols o19.1 o19.2.1, IntKind.i64.wrap (o19.2.1 + (1 : Int)), o19.2.2)
              else
               if (decide (r26_first terms (cols.getD o19.2.1.toNat (0 : Int)) (13 : Int) (14 : Int) ≥ (0 : Int))) = true then
                some (r26_ranged_c4 terms cols o19.1 o19.2.1, r26_ranged_c5 terms cols o19.1 o19.2.1, IntKind.i64.wrap (o19.2.1 + (1 : Int)), o19.2.2)
               else
                some (r26_ranged_c4 terms cols o19.1 o19.2.1, r26_ranged_c5 terms cols o19.1 o19.2.1, o19.2.1, o19.2.2)
           else none
          else none
         else none
        else none
       else none
      else none
     else none
    else none
theorem r26_ranged_run {terms : List Term} {cols : List Int} {r : Bound × Bound × Int × List Term} (h : r26_ranged_fn terms cols = some r) : Runs (awp M_r26_ranged N_r26_ranged (bodyOf Try.f15) (entry Try.f15.ntmps 1 [.d (.v (.dat (U := Un) Ty.term terms)), .d (.v (.dat (U := Un) Ty.int cols))]) (retQ M_r26_ranged Try.f15.results.toList [.d, .d, .d, .d] fun rs os => rs = A_r26_ranged r ∧ os = O_r26_ranged r)) := by
  constructor
  rw [r26_ranged_in terms cols (fun rs os => rs = A_r26_ranged r ∧ os = O_r26_ranged r)]
  unfold r26_ranged_fn at h
  obtain ⟨o20, ho21, h22⟩ := bind_some h
  rcases ite_some h22 with ⟨c23, h24⟩ | ⟨c23, h24⟩
  · cases h24
    exact (r26_ranged_L4_run ho21 _ (r26_ranged_Q4_x0 (mpr (r26_ranged_a4_x0 terms cols o20.1 o20.2.1 o20.2.2 _) (cnd_t c23 ⟨rfl, rfl⟩))))
  · obtain ⟨c25, h26⟩ := ob_some h24
    obtain ⟨c27, h28⟩ := ob_some h26
    obtain ⟨c29, h30⟩ := ob_some h28
    obtain ⟨c31, h32⟩ := ob_some h30
    obtain ⟨c33, h34⟩ := ob_some h32
    obtain ⟨c35, h36⟩ := ob_some h34
    obtain ⟨c37, h38⟩ := ob_some h36
    obtain ⟨c39, h40⟩ := ob_some h38
    rcases ite_some h40 with ⟨c41, h42⟩ | ⟨c41, h42⟩
    · obtain ⟨c43, h44⟩ := ob_some h42
      obtain ⟨c45, h46⟩ := ob_some h44
      rcases ite_some h46 with ⟨c47, h48⟩ | ⟨c47, h48⟩
      · obtain ⟨c49, h50⟩ := ob_some h48
        obtain ⟨c51, h52⟩ := ob_some h50
        rcases ite_some h52 with ⟨c53, h54⟩ | ⟨c53, h54⟩
        · cases h54
          exact (r26_ranged_L4_run ho21 _ (r26_ranged_Q4_x0 (mpr (r26_ranged_a4_x0 terms cols o20.1 o20.2.1 o20.2.2 _) (cnd_f (bfalse c23) (And.intro c25 (And.intro c27 (And.intro c29 (And.intro c31 (And.intro c33 (And.intro c35 (And.intro c37 (And.intro c39 (cnd_t c41 (And.intro c43 (And.intro c45 (cnd_t c47 (And.intro c49 (And.intro c51 (cnd_t c53 ⟨rfl, rfl⟩)))))))))))))))))))
        · rcases ite_some h54 with ⟨c55, h56⟩ | ⟨c55, h56⟩
          · cases h56
            exact (r26_ranged_L4_run ho21 _ (r26_ranged_Q4_x0 (mpr (r26_ranged_a4_x0 terms cols o20.1 o20.2.1 o20.2.2 _) (cnd_f (bfalse c23) (And.intro c25 (And.intro c27 (And.intro c29 (And.intro c31 (And.intro c33 (And.intro c35 (And.intro c37 (And.intro c39 (cnd_t c41 (And.intro c43 (And.intro c45 (cnd_t c47 (And.intro c49 (And.intro c51 (cnd_f (bfalse c53) (cnd_t c55 ⟨rfl, rfl⟩))))))))))))))))))))
          · cases h56
            exact (r26_ranged_L4_run ho21 _ (r26_ranged_Q4_x0 (mpr (r26_ranged_a4_x0 terms cols o20.1 o20.2.1 o20.2.2 _) (cnd_f (bfalse c23) (And.intro c25 (And.intro c27 (And.intro c29 (And.intro c31 (And.intro c33 (And.intro c35 (And.intro c37 (And.intro c39 (cnd_t c41 (And.intro c43 (And.intro c45 (cnd_t c47 (And.intro c49 (And.intro c51 (cnd_f (bfalse c53) (cnd_f (bfalse c55) ⟨rfl, rfl⟩))))))))))))))))))))
      · rcases ite_some h48 with ⟨c57, h58⟩ | ⟨c57, h58⟩
        · cases h58
          exact (r26_ranged_L4_run ho21 _ (r26_ranged_Q4_x0 (mpr (r26_ranged_a4_x0 terms cols o20.1 o20.2.1 o20.2.2 _) (cnd_f (bfalse c23) (And.intro c25 (And.intro c27 (And.intro c29 (And.intro c31 (And.intro c33 (And.intro c35 (And.intro c37 (And.intro c39 (cnd_t c41 (And.intro c43 (And.intro c45 (cnd_f (bfalse c47) (cnd_t c57 ⟨rfl, rfl⟩)))))))))))))))))
        · rcases ite_some h58 with ⟨c59, h60⟩ | ⟨c59, h60⟩
          · cases h60
            exact (r26_ranged_L4_run ho21 _ (r26_ranged_Q4_x0 (mpr (r26_ranged_a4_x0 terms cols o20.1 o20.2.1 o20.2.2 _) (cnd_f (bfalse c23) (And.intro c25 (And.intro c27 (And.intro c29 (And.intro c31 (And.intro c33 (And.intro c35 (And.intro c37 (And.intro c39 (cnd_t c41 (And.intro c43 (And.intro c45 (cnd_f (bfalse c47) (cnd_f (bfalse c57) (cnd_t c59 ⟨rfl, rfl⟩))))))))))))))))))
          · cases h60
            exact (r26_ranged_L4_run ho21 _ (r26_ranged_Q4_x0 (mpr (r26_ranged_a4_x0 terms cols o20.1 o20.2.1 o20.2.2 _) (cnd_f (bfalse c23) (And.intro c25 (And.intro c27 (And.intro c29 (And.intro c31 (And.intro c33 (And.intro c35 (And.intro c37 (And.intro c39 (cnd_t c41 (And.intro c43 (And.intro c45 (cnd_f (bfalse c47) (cnd_f (bfalse c57) (cnd_f (bfalse c59) ⟨rfl, rfl⟩))))))))))))))))))
    · rcases ite_some h42 with ⟨c61, h62⟩ | ⟨c61, h62⟩
      · obtain ⟨c63, h64⟩ := ob_some h62
        obtain ⟨c65, h66⟩ := ob_some h64
        rcases ite_some h66 with ⟨c67, h68⟩ | ⟨c67, h68⟩
        · cases h68
          exact (r26_ranged_L4_run ho21 _ (r26_ranged_Q4_x0 (mpr (r26_ranged_a4_x0 terms cols o20.1 o20.2.1 o20.2.2 _) (cnd_f (bfalse c23) (And.intro c25 (And.intro c27 (And.intro c29 (And.intro c31 (And.intro c33 (And.intro c35 (And.intro c37 (And.intro c39 (cnd_f (bfalse c41) (cnd_t c61 (And.intro c63 (And.intro c65 (cnd_t c67 ⟨rfl, rfl⟩)))))))))))))))))
        · rcases ite_some h68 with ⟨c69, h70⟩ | ⟨c69, h70⟩
          · cases h70
            exact (r26_ranged_L4_run ho21 _ (r26_ranged_Q4_x0 (mpr (r26_ranged_a4_x0 terms cols o20.1 o20.2.1 o20.2.2 _) (cnd_f (bfalse c23) (And.intro c25 (And.intro c27 (And.intro c29 (And.intro c31 (And.intro c33 (And.intro c35 (And.intro c37 (And.intro c39 (cnd_f (bfalse c41) (cnd_t c61 (And.intro c63 (And.intro c65 (cnd_f (bfalse c67) (cnd_t c69 ⟨rfl, rfl⟩))))))))))))))))))
          · cases h70
            exact (r26_ranged_L4_run ho21 _ (r26_ranged_Q4_x0 (mpr (r26_ranged_a4_x0 terms cols o20.1 o20.2.1 o20.2.2 _) (cnd_f (bfalse c23) (And.intro c25 (And.intro c27 (And.intro c29 (And.intro c31 (And.intro c33 (And.intro c35 (And.intro c37 (And.intro c39 (cnd_f (bfalse c41) (cnd_t c61 (And.intro c63 (And.intro c65 (cnd_f (bfalse c67) (cnd_f (bfalse c69) ⟨rfl, rfl⟩))))))))))))))))))
      · rcases ite_some h62 with ⟨c71, h72⟩ | ⟨c71, h72⟩
        · cases h72
          exact (r26_ranged_L4_run ho21 _ (r26_ranged_Q4_x0 (mpr (r26_ranged_a4_x0 terms cols o20.1 o20.2.1 o20.2.2 _) (cnd_f (bfalse c23) (And.intro c25 (And.intro c27 (And.intro c29 (And.intro c31 (And.intro c33 (And.intro c35 (And.intro c37 (And.intro c39 (cnd_f (bfalse c41) (cnd_f (bfalse c61) (cnd_t c71 ⟨rfl, rfl⟩)))))))))))))))
        · rcases ite_some h72 with ⟨c73, h74⟩ | ⟨c73, h74⟩
          · cases h74
            exact (r26_ranged_L4_run ho21 _ (r26_ranged_Q4_x0 (mpr (r26_ranged_a4_x0 terms cols o20.1 o20.2.1 o20.2.2 _) (cnd_f (bfalse c23) (And.intro c25 (And.intro c27 (And.intro c29 (And.intro c31 (And.intro c33 (And.intro c35 (And.intro c37 (And.intro c39 (cnd_f (bfalse c41) (cnd_f (bfalse c61) (cnd_f (bfalse c71) (cnd_t c73 ⟨rfl, rfl⟩))))))))))))))))
          · cases h74
            exact (r26_ranged_L4_run ho21 _ (r26_ranged_Q4_x0 (mpr (r26_ranged_a4_x0 terms cols o20.1 o20.2.1 o20.2.2 _) (cnd_f (bfalse c23) (And.intro c25 (And.intro c27 (And.intro c29 (And.intro c31 (And.intro c33 (And.intro c35 (And.intro c37 (And.intro c39 (cnd_f (bfalse c41) (cnd_f (bfalse c61) (cnd_f (bfalse c71) (cnd_f (bfalse c73) ⟨rfl, rfl⟩))))))))))))))))

def r26_ranged (terms : List Term) (cols : List Int) : Bound × Bound × Int × List Term := ((spanT terms cols).lo, (spanT terms cols).hi, (spanT terms cols).n, (spanT terms cols).counts)

theorem r26_ranged_loop (terms : List Term) (cols : List Int) (hc : cols.length ≤ 100000) : ∀ (r : List Int) (k : List Val) (u : List Term), k.length = u.length → cols.drop k.length = r → k.length ≤ cols.length →
    r26_ranged_L4 terms cols (k, (k.length : Int), u) = some (k ++ (eqsT terms r).1, (((k ++ (eqsT terms r).1).length : Nat) : Int), u ++ (eqsT terms r).2) := by
  intro r
  induction r with
  | nil =>
    intro k u hl h1 h2
    have e1 := drop_nil h1
    have hn : ¬ ((k.length : Int) < cols.length) := by omega
    rw [r26_ranged_L4_eq, r26_ranged_S4]
    simp [hn, eqsT]
  | cons c r ih =>
    intro k u hl h1 h2
    obtain ⟨a1, a2, a3, _⟩ := drop_cons h1
    have hp : (k.length : Int) < cols.length := by omega
    have hi : (0 : Int) ≤ (k.length : Int) := by omega
    have hc1 : r26_ranged_c1 terms cols k.length = r26_first terms c 11 11 := by unfold r26_ranged_c1; rw [Int.toNat_natCast, a2]
    rw [r26_ranged_L4_eq, r26_ranged_S4]
    simp only [hp, hi, decide_true, if_true, and_self, hc1, Int.toNat_natCast, a2]
    unfold r26_first eqsT
    cases hf : firstT c 11 11 terms 0 with
    | none => simp
    | some x =>
      obtain ⟨i, op, v⟩ := x
      have hi := (firstT_spec hf).2.1
      have hb := (firstT_spec hf).2.2.1
      simp only [Nat.sub_zero] at hb
      have e1 : ¬ ((i : Int) < 0) := by omega
      have e2 : (0 : Int) ≤ (i : Int) ∧ (i : Int) < (terms.length : Int) := by omega
      have e3 : k.length ≤ 100000 := by omega
      have e4 : (u.length + [terms.getD i zeroTerm].length) * 128 ≤ roomB := by unfold roomB; simp; omega
      have e5 : IntKind.i64.wrap ((k.length : Int) + 1) = (((k ++ [v]).length : Nat) : Int) := by rw [wrap_id (by omega)]; simp
      simp only [e1, e2, e3, e4, decide_false, Bool.false_eq_true, if_false, if_true, and_self, Int.toNat_natCast, stepB_inl, r26_bounding, hb, r26_with, e5]
      rw [ih (k ++ [v]) (u ++ [terms.getD i zeroTerm]) (by simp; omega) (by simp; exact a3) (by simp; omega)]
      simp
theorem r26_ranged_spec (terms : List Term) (cols : List Int) (_ht : WL .term terms) (_h : WL .int cols) (hc : cols.length ≤ 100000) : r26_ranged_fn terms cols = some (r26_ranged terms cols) := by
  have hl := r26_ranged_loop terms cols hc _ [] [] rfl rfl (by simp)
  have hlen := eqsT_len terms cols
  unfold r26_ranged_fn r26_ranged spanT
  simp only [List.nil_append, List.length_nil, List.drop_zero, Int.natCast_zero, Int.ofNat_zero] at hl
  rw [hl]
  generalize hk : (eqsT terms cols).1 = k at *
  generalize hu : (eqsT terms cols).2 = u at *
  have hd : ((k.length : Int) > 0) = (k.length > 0) := by simp
  simp only [Option.bind_eq_bind, Option.bind_some, hd, beq_iff_eq, Int.natCast_inj]
  by_cases h : k.length = cols.length
  · rw [if_pos h, if_pos h]
  · rw [if_neg h, if_neg h]
    have e0 : (0 : Int) ≤ (k.length : Int) ∧ (k.length : Int) < (cols.length : Int) := by omega
    have e1 : k.length ≤ 100000 := by omega
    obtain ⟨col, hcol⟩ : ∃ c, cols.getD k.length 0 = c := ⟨_, rfl⟩
    simp only [Int.toNat_natCast, hcol]
    have cc : ∀ (x y : Int), r26_first terms (cols.getD ((k.length : Int)).toNat 0) x y = r26_first terms col x y := by intro x y; rw [Int.toNat_natCast, hcol]
    have c2 : r26_ranged_c2 terms cols k.length = r26_first terms col 15 16 := cc _ _
    have c3 : r26_ranged_c3 terms cols k.length = r26_first terms col 13 14 := cc _ _
    have bb : ∀ (x y : Int), r26_bound k terms (r26_first terms col x y) col x = (endT terms k col x y).1 := by
      intro x y
      unfold r26_bound endT r26_first
      cases hf : firstT col x y terms 0 with
      | none => simp
      | some z =>
        obtain ⟨i, op, v⟩ := z
        have hb := (firstT_spec hf).2.2.1
        simp only [Nat.sub_zero] at hb
        have : ¬ ((i : Int) < 0) := by omega
        simp only [this, if_false, Int.toNat_natCast, r26_bounding, hb]
    have c4 : r26_ranged_c4 terms cols k k.length = (endT terms k col 15 16).1 := by unfold r26_ranged_c4; rw [c2, Int.toNat_natCast, hcol]; exact bb 15 16
    have c5 : r26_ranged_c5 terms cols k k.length = (endT terms k col 13 14).1 := by unfold r26_ranged_c5; rw [c3, Int.toNat_natCast, hcol]; exact bb 13 14
    have hx : ∀ (x y : Int), (r26_first terms col x y = -1 ∧ (endT terms k col x y).2 = []) ∨ (∃ i : Nat, r26_first terms col x y = i ∧ i < terms.length ∧ (endT terms k col x y).2 = [terms.getD i zeroTerm]) := by
      intro x y
      unfold r26_first endT
      cases hf : firstT col x y terms 0 with
      | none => exact .inl ⟨rfl, rfl⟩
      | some z =>
        obtain ⟨i, op, v⟩ := z
        have hi := (firstT_spec hf).2.1
        exact .inr ⟨i, rfl, by omega, rfl⟩
    have ew : IntKind.i64.wrap ((k.length : Int) + 1) = (k.length : Int) + 1 := wrap_id (by omega)
    simp only [e0, e1, c2, c3, c4, c5, ew, if_true, and_self]
    have en : (-1 : Int) < (terms.length : Int) := by omega
    rcases hx 15 16 with ⟨a1, a2⟩ | ⟨i, a1, a2, a3⟩ <;> rcases hx 13 14 with ⟨b1, b2⟩ | ⟨j, b1, b2, b3⟩
    · simp [a1, a2, b1, b2, en]
    · have x1 : (u.length + [terms.getD j zeroTerm].length) * 128 ≤ roomB := by unfold roomB; simp; omega
      have x2 : (0 : Int) ≤ (j : Int) ∧ (j : Int) < terms.length := by omega
      simp only [a1, a2, b1, b3, Int.toNat_natCast, x1, x2, en, show ¬ ((-1 : Int) ≥ 0) from by decide, show (j : Int) ≥ 0 from Int.natCast_nonneg j, decide_true, decide_false, if_true, if_false, Bool.false_eq_true, and_self]
      simp
    · have x1 : (u.length + [terms.getD i zeroTerm].length) * 128 ≤ roomB := by unfold roomB; simp; omega
      have x2 : (0 : Int) ≤ (i : Int) ∧ (i : Int) < terms.length := by omega
      simp only [a1, a3, b1, b2, Int.toNat_natCast, x1, x2, en, show ¬ ((-1 : Int) ≥ 0) from by decide, show (i : Int) ≥ 0 from Int.natCast_nonneg i, decide_true, decide_false, if_true, if_false, Bool.false_eq_true, and_self]
      simp
    · have x1 : (u.length + [terms.getD i zeroTerm].length) * 128 ≤ roomB := by unfold roomB; simp; omega
      have x2 : (0 : Int) ≤ (i : Int) ∧ (i : Int) < terms.length := by omega
      have y1 : ((u ++ [terms.getD i zeroTerm]).length + [terms.getD j zeroTerm].length) * 128 ≤ roomB := room_ok (by simp; omega)
      have y2 : (0 : Int) ≤ (j : Int) ∧ (j : Int) < terms.length := by omega
      simp only [a1, a3, b1, b3, Int.toNat_natCast, x1, x2, y1, y2, show (i : Int) ≥ 0 from Int.natCast_nonneg i, show (j : Int) ≥ 0 from Int.natCast_nonneg j, decide_true, if_true, and_self]
      simp

def F_r26_ranged : FnC Un := fun args => match args with
  | [x0, x1] => (dL .term x0).bind fun terms => (dL .int x1).bind fun cols => some ([cols.length ≤ 100000], A_r26_ranged (r26_ranged terms cols), O_r26_ranged (r26_ranged terms cols))
  | _ => none

theorem ok_r26_ranged : FnOK 15 F_r26_ranged := by
  intro args ob rs os h hob
  unfold F_r26_ranged at h
  split at h
  · simp only [Option.bind_eq_some_iff, Option.some.injEq, Prod.mk.injEq] at h
    obtain ⟨terms, e0, cols, e1, rfl, rfl, rfl⟩ := h
    obtain rfl := dL_eq e0
    obtain rfl := dL_eq e1
    exact ⟨fn_contract (M := M_r26_ranged) rfl (tbl_ok (l1 := [(19, F_r26_first), (20, F_r26_bounding), (21, F_r26_with), (22, F_r26_bound)]) (l2 := []) (l3 := []) (l4 := []) ⟨ok_r26_first, ok_r26_bounding, ok_r26_with, ok_r26_bound, trivial⟩ trivial trivial trivial) Try.func15 (by kernel_rfl) N_r26_ranged 1 [.d, .d, .d, .d] (fun hwf => r26_ranged_run (r26_ranged_spec terms cols (wfArg hwf (a := .d (.v (.dat (U := Un) Ty.term terms))) (by simp)) (wfArg hwf (a := .d (.v (.dat (U := Un) Ty.int cols))) (by simp)) (hob _ (by simp)))), hasBody_of Try.func15 (by kernel_rfl) (by kernel_rfl)⟩
  · simp at h


/-! ### tabellionref26.Range -/
def M_r26_Range : Mc Un := mach (tbl [(15, F_r26_ranged)]) (tbl []) (tbl []) (tbl [])
def N_r26_Range : Nat → NS := fun l => (look l []).getD ⟨[], [], [], [], []⟩
def A_r26_Range (r : Bound × Bound × Int) : List (A Un) := [.agg (encC Ty.bound r.1), .agg (encC Ty.bound r.2.1), .c (.s (.int .i64 r.2.2))]
def O_r26_Range (_r : Bound × Bound × Int) : List (Ob Un) := []
theorem r26_Range_in (terms : List Term) (cols : List Int) (K : List (A Un) → List (Ob Un) → Prop) :
    awp M_r26_Range N_r26_Range (bodyOf Try.f7) (entry Try.f7.ntmps 0 [.d (.v (.dat (U := Un) Ty.term terms)), .d (.v (.dat (U := Un) Ty.int cols))]) (retQ M_r26_Range Try.f7.results.toList [.d, .d, .d] K) =
((cols.length ≤ (100000 : Nat)) ∧
(K (A_r26_Range ((r26_ranged terms cols).fst, (r26_ranged terms cols).snd.fst, (r26_ranged terms cols).snd.snd.fst)) (O_r26_Range ((r26_ranged terms cols).fst, (r26_ranged terms cols).snd.fst, (r26_ranged terms cols).snd.snd.fst)))) := by kernel_rfl
def r26_Range_fn (terms : List Term) (cols : List Int) : Option (Bound × Bound × Int) :=
  if cols.length ≤ (100000 : Nat) then
   some ((r26_ranged terms cols).fst, (r26_ranged terms cols).snd.fst, (r26_ranged terms cols).snd.snd.fst)
  else none
theorem r26_Range_run {terms : List Term} {cols : List Int} {r : Bound × Bound × Int} (h : r26_Range_fn terms cols = some r) : Runs (awp M_r26_Range N_r26_Range (bodyOf Try.f7) (entry Try.f7.ntmps 0 [.d (.v (.dat (U := Un) Ty.term terms)), .d (.v (.dat (U := Un) Ty.int cols))]) (retQ M_r26_Range Try.f7.results.toList [.d, .d, .d] fun rs os => rs = A_r26_Range r ∧ os = O_r26_Range r)) := by
  constructor
  rw [r26_Range_in terms cols (fun rs os => rs = A_r26_Range r ∧ os = O_r26_Range r)]
  unfold r26_Range_fn at h
  obtain ⟨c1, h2⟩ := ob_some h
  cases h2
  exact (And.intro c1 ⟨rfl, rfl⟩)

def r26_Range (terms : List Term) (cols : List Int) : Bound × Bound × Int := ((spanT terms cols).lo, (spanT terms cols).hi, (spanT terms cols).n)

theorem r26_Range_spec (terms : List Term) (cols : List Int) (_ht : WL .term terms) (_h : WL .int cols) (hc : cols.length ≤ 100000) : r26_Range_fn terms cols = some (r26_Range terms cols) := by
  unfold r26_Range_fn r26_Range
  simp [hc, r26_ranged]

def F_r26_Range : FnC Un := fun args => match args with
  | [x0, x1] => (dL .term x0).bind fun terms => (dL .int x1).bind fun cols => some ([cols.length ≤ 100000], A_r26_Range (r26_Range terms cols), O_r26_Range (r26_Range terms cols))
  | _ => none

theorem ok_r26_Range : FnOK 7 F_r26_Range := by
  intro args ob rs os h hob
  unfold F_r26_Range at h
  split at h
  · simp only [Option.bind_eq_some_iff, Option.some.injEq, Prod.mk.injEq] at h
    obtain ⟨terms, e0, cols, e1, rfl, rfl, rfl⟩ := h
    obtain rfl := dL_eq e0
    obtain rfl := dL_eq e1
    exact ⟨fn_contract (M := M_r26_Range) rfl (tbl_ok (l1 := [(15, F_r26_ranged)]) (l2 := []) (l3 := []) (l4 := []) ⟨ok_r26_ranged, trivial⟩ trivial trivial trivial) Try.func7 (by kernel_rfl) N_r26_Range 0 [.d, .d, .d] (fun hwf => r26_Range_run (r26_Range_spec terms cols (wfArg hwf (a := .d (.v (.dat (U := Un) Ty.term terms))) (by simp)) (wfArg hwf (a := .d (.v (.dat (U := Un) Ty.int cols))) (by simp)) (hob _ (by simp)))), hasBody_of Try.func7 (by kernel_rfl) (by kernel_rfl)⟩
  · simp at h


end
end Go.Proofs.Ytohpgnpjijpedaa.B
