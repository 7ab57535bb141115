/- Functions: conj4. (Printed by wip/tools/mkfn.py out of wip/src/conj4.src.) -/
import Derived.Test.YtaepcbdcjbfgjaaBAwf
import Derived.Test.YtaepcbdcjbfgjaaSspec
import Derived.Test.YtaepcbdcjbfgjaaSterms
import Derived.Test.YtaepcbdcjbfgjaaStermsz
import Derived.Test.YtaepcbdcjbfgjaaSconjspec
import Derived.Test.YtaepcbdcjbfgjaaSsorted
import Derived.Test.YtaepcbdcjbfgjaaSconjU
import Derived.Test.YtaepcbdcjbfgjaaSconj2
import Derived.Test.YtaepcbdcjbfgjaaSconj3
namespace Go.Proofs.Ytaepcbdcjbfgjaa.B
open Go Go.RowKit
set_option maxRecDepth 100000
noncomputable section
attribute [local irreducible] awp ctxK itersK iterK retQ retGQ awf ctxF loopF

/-! ### value.Bool -/
def M_value_Bool : Mc Un := mach (tbl []) (tbl []) (tbl []) (tbl []) (tbl [])
def A_value_Bool (r : Val) : List (A Un) := [.agg (encC Ty.val r)]
def O_value_Bool (_r : Val) : List (Ob Un) := []
def R_value_Bool (r : Val) : RF Un := (A_value_Bool r, O_value_Bool r)
def N_value_Bool : Nat → NS := fun l => (look l []).getD ⟨[], [], [], [], []⟩
def value_Bool_fn (b : Bool) : Option (RF Un) := awf M_value_Bool N_value_Bool (bodyOf Try.f35) (entry Try.f35.ntmps 0 [.d (.v (cb b))]) (retF M_value_Bool Try.f35.results.toList [.d])
theorem value_Bool_in (b : Bool) : value_Bool_fn b =
 cndO (b)
  (some (R_value_Bool ({ kind := (1 : Int), n := (1 : Int), s := (ByteArray.mk #[]) })))
  (some (R_value_Bool ({ kind := (1 : Int), n := (0 : Int), s := (ByteArray.mk #[]) }))) := by kernel_rfl
def value_Bool (b : Bool) : Val :=
  if (b) = true then
   ({ kind := (1 : Int), n := (1 : Int), s := (ByteArray.mk #[]) })
  else
   ({ kind := (1 : Int), n := (0 : Int), s := (ByteArray.mk #[]) })
theorem value_Bool_eq (b : Bool) : value_Bool_fn b = some (R_value_Bool (value_Bool b)) := by rw [value_Bool_in]; unfold value_Bool; simp only [cndO_eq]; repeat (first | rfl | split)

def F_value_Bool : FnC Un := fun args => match args with
  | [x0] => (dB x0).bind fun b => some ([], A_value_Bool (value_Bool b), O_value_Bool (value_Bool b))
  | _ => none

theorem ok_value_Bool : FnOK 35 F_value_Bool := by
  intro args ob rs os h hob
  unfold F_value_Bool at h
  split at h
  · simp only [Option.bind_eq_some_iff, Option.some.injEq, Prod.mk.injEq] at h
    obtain ⟨b, e0, rfl, rfl, rfl⟩ := h
    obtain rfl := dB_eq e0
    exact ⟨fn_contractF (M := M_value_Bool) rfl (tbl_ok (l1 := []) (l2 := []) (l3 := []) (l4 := []) (l5 := []) trivial trivial trivial trivial trivial) Try.func35 (by kernel_rfl) N_value_Bool 0 [.d] (fun hwf => (value_Bool_eq b)), hasBody_of Try.func35 (by kernel_rfl) (by kernel_rfl)⟩
  · simp at h

def boolV (b : Bool) : Val := ⟨1, if b = true then 1 else 0, ⟨#[]⟩⟩
@[simp] theorem value_Bool_spec (b : Bool) : value_Bool b = boolV b := by unfold value_Bool boolV; cases b <;> rfl
def and2 (a b : Term) : Term := .mk 17 zeroVal 0 0 ⟨#[]⟩ [a, b] [] 1
def joinT : List Term → Term
  | [] => .mk 1 (boolV true) 0 0 ⟨#[]⟩ [] [] 1
  | x :: r => r.foldl and2 x


/-! ### conj.Join -/
def M_conj_Join : Mc Un := mach (tbl [(35, F_value_Bool)]) (tbl []) (tbl []) (tbl []) (tbl [])
def A_conj_Join (r : Term) : List (A Un) := [.agg (encC Ty.term r)]
def O_conj_Join (_r : Term) : List (Ob Un) := []
def R_conj_Join (r : Term) : RF Un := (A_conj_Join r, O_conj_Join r)
def N_conj_Join : Nat → NS := fun l => (look l [(5, { ts := bl 27 229388, bs := bl 27 12, nm := [], gb := [2, 3] })]).getD ⟨[], [], [], [], []⟩
def conj_Join_s5 (l : List Term) (b2 : Term) (b3 : Term) (v0 : Int) : S Un := (st 27 27 108 0 [(2, ax 2), (3, ax 3), (15, al .term (List.drop 1 l)), (16, ai (↑(List.drop 1 l).length : Int)), (17, ai v0)] [(2, bg .term b2), (3, bg .term b3)] [])
def conj_Join_B5 : Code := sub (bodyOf Try.f14) [1, 1, 1, 0, 1, 2, 2]
def conj_Join_L5 : S Un → Option (EX Un) := loopF (N_conj_Join 5) (fun s Q => awf M_conj_Join N_conj_Join conj_Join_B5 s Q)
def conj_Join_C5 : Exit → S Un → Option (RF Un) := ctxF M_conj_Join N_conj_Join (bodyOf Try.f14) [1, 1, 1, 0, 1, 2] (retF M_conj_Join Try.f14.results.toList [.d])
def conj_Join_fn (l : List Term) : Option (RF Un) := awf M_conj_Join N_conj_Join (bodyOf Try.f14) (entry Try.f14.ntmps 0 [.d (.v (.dat (U := Un) Ty.term l))]) (retF M_conj_Join Try.f14.results.toList [.d])
theorem conj_Join_in (l : List Term) : conj_Join_fn l =
 cndO ((↑l.length : Int) == (0 : Int))
  (some (R_conj_Join (Term.mk (1 : Int) { kind := (1 : Int), n := (1 : Int), s := (value_Bool true).s } (0 : Int) (0 : Int) (ByteArray.mk #[]) [] [] (1 : Int))))
  (obO ((0 : Int) ≤ (0 : Int) ∧ (0 : Int) < (↑l.length : Int))
   (obO ((0 : Int) ≤ (1 : Int) ∧ (1 : Int) ≤ (↑l.length : Int))
    ((conj_Join_L5 (conj_Join_s5 l zeroTerm (l.getD 0 zeroTerm) (0 : Int))).bind (thenX conj_Join_C5)))) := by kernel_rfl
theorem conj_Join_l5 (l : List Term) (b2 : Term) (b3 : Term) (v0 : Int) : conj_Join_L5 (conj_Join_s5 l b2 b3 v0) =
 cndO (decide (v0 < (↑(List.drop 1 l).length : Int)))
  (obO (0 ≤ v0 ∧ v0 < (↑(List.drop 1 l).length : Int))
   (conj_Join_L5 (conj_Join_s5 l b2 (Term.mk (17 : Int) zeroVal (0 : Int) (0 : Int) (ByteArray.mk #[]) [(Term.ids b3), (Term.ids ((List.drop 1 l).getD v0.toNat zeroTerm))] [] (1 : Int)) (IntKind.i64.wrap (v0 + 1)))))
  (some (.exit 0, (conj_Join_s5 l b2 b3 v0))) := (loopF_eq (N_conj_Join 5) conj_Join_B5 _).trans (by kernel_rfl)
theorem conj_Join_a5_x0 (l : List Term) (b2 : Term) (b3 : Term) (v0 : Int) : conj_Join_C5 (.exit 0) (conj_Join_s5 l b2 b3 v0) =
 some (R_conj_Join (b3)) := by kernel_rfl

def conj_Join (l : List Term) : Term := joinT l
@[simp] theorem conj_Join_eq (l : List Term) : conj_Join l = joinT l := by unfold conj_Join; rfl
theorem conj_Join_spec (l : List Term) (hl : WL .term l) : conj_Join_fn l = some (R_conj_Join (conj_Join l)) := by
  rw [conj_Join_in]
  unfold conj_Join
  cases l with
  | nil => simp only [cndO_eq, joinT, value_Bool_spec]; rfl
  | cons x r =>
    have hlen := hl.len
    have hd : List.drop 1 (x :: r) = r := rfl
    have hg : (x :: r).getD 0 zeroTerm = x := rfl
    rw [List.length_cons] at hlen
    obtain ⟨lp, _⟩ := loop_fold (e := .exit 0) (L := conj_Join_L5) (st := fun b i => conj_Join_s5 (x :: r) zeroTerm b i) (l := r) (d := zeroTerm) (g := and2) (fun _ _ => True) (by omega)
      (fun b i y hi hy _ => ⟨trivial, by
        rw [conj_Join_l5]
        simp only [hd, Term.ids_eq, cndO_eq, hi, decide_true, if_true, and_true, Int.toNat_natCast, hy]
        rw [obO_pos (by omega)]
        rfl⟩)
      (fun b _ => by rw [conj_Join_l5]; simp [cndO_eq]) x trivial
    rw [cndO_eq, if_neg (by rw [List.length_cons, beq_iff_eq]; omega), obO_pos (by rw [List.length_cons]; omega), obO_pos (by rw [List.length_cons]; omega), hg, loop_end lp, conj_Join_a5_x0]
    try rfl

def F_conj_Join : FnC Un := fun args => match args with
  | [x0] => (dL .term x0).bind fun l => some ([], A_conj_Join (conj_Join l), O_conj_Join (conj_Join l))
  | _ => none

theorem ok_conj_Join : FnOK 14 F_conj_Join := by
  intro args ob rs os h hob
  unfold F_conj_Join at h
  split at h
  · simp only [Option.bind_eq_some_iff, Option.some.injEq, Prod.mk.injEq] at h
    obtain ⟨l, e0, rfl, rfl, rfl⟩ := h
    obtain rfl := dL_eq e0
    exact ⟨fn_contractF (M := M_conj_Join) rfl (tbl_ok (l1 := [(35, F_value_Bool)]) (l2 := []) (l3 := []) (l4 := []) (l5 := []) ⟨ok_value_Bool, trivial⟩ trivial trivial trivial trivial) Try.func14 (by kernel_rfl) N_conj_Join 0 [.d] (fun hwf => (conj_Join_spec l (wfArg hwf (a := .d (.v (.dat (U := Un) Ty.term l))) (List.mem_of_getElem? (i := 0) rfl)))), hasBody_of Try.func14 (by kernel_rfl) (by kernel_rfl)⟩
  · simp at h


/-! ### conj.Within$1 -/
def M_within1 : Mc Un := mach (tbl []) (tbl []) (tbl []) (tbl []) (tbl [])
def A_within1 (r : Bool) : List (A Un) := [.c (.s (.bool r))]
def O_within1 (_r : Bool) : List (Ob Un) := []
def R_within1 (r : Bool) : RF Un := (A_within1 r, O_within1 r)
def N_within1 : Nat → NS := fun l => (look l []).getD ⟨[], [], [], [], []⟩
def within1_fn (at_ : Int) (from_ : Int) (to_ : Int) : Option (RF Un) := awf M_within1 N_within1 (bodyOf Try.f51) (entry Try.f51.ntmps 0 [.d (.v (.s (.int .i64 at_))), .box [.v (.s (.int .i64 from_))], .box [.v (.s (.int .i64 to_))]]) (retF M_within1 Try.f51.results.toList [.d])
theorem within1_in (at_ : Int) (from_ : Int) (to_ : Int) : within1_fn at_ from_ to_ =
 cndO (decide (at_ < from_))
  (some (R_within1 (true)))
  (some (R_within1 (decide (at_ ≥ to_)))) := by kernel_rfl

def within1 (a f t : Int) : Bool := decide (a < f ∨ a ≥ t)
theorem within1_spec (a f t : Int) (_ha : WI a) (_hf : WI f) (_ht : WI t) : within1_fn a f t = some (R_within1 (within1 a f t)) := by
  rw [within1_in]
  unfold within1
  simp only [cndO_eq, decide_eq_true_eq]
  by_cases h : a < f
  · rw [if_pos h, decide_eq_true (.inl h)]
  · rw [if_neg h]
    congr 2
    by_cases h2 : a ≥ t
    · rw [decide_eq_true h2, decide_eq_true (.inr h2)]
    · rw [decide_eq_false h2, decide_eq_false (by rintro (e | e); exact h e; exact h2 e)]

def L_within1 : List (List (DC Un)) → Option (FV Un) := fun dl => match dl with
  | [b0, b1] => (bI .i64 b0).bind fun from_ => (bI .i64 b1).bind fun to_ => some (fv_i_i64_to_b (fun at_ => within1 at_ from_ to_))
  | _ => none

theorem okL_within1 : ClOK 51 L_within1 := by
  refine ⟨hasBody_of Try.func51 (by kernel_rfl) (by kernel_rfl), fun dl φ args ob rs hF hφ hob => ?_⟩
  unfold L_within1 at hF
  split at hF
  · simp only [Option.bind_eq_some_iff, Option.some.injEq] at hF
    obtain ⟨from_, g0, to_, g1, hE⟩ := hF
    subst hE
    obtain rfl := bI_eq g0
    obtain rfl := bI_eq g1
    unfold fv_i_i64_to_b at hφ
    split at hφ
    · simp only [Option.bind_eq_some_iff, Option.some.injEq, Prod.mk.injEq] at hφ
      obtain ⟨at_, e0, rfl, rfl⟩ := hφ
      simp only [List.map_cons, List.map_nil, List.cons_append, List.nil_append]
      rw [dI_eq e0]
      exact Contract.data (fn_contractF (M := M_within1) rfl (tbl_ok (l1 := []) (l2 := []) (l3 := []) (l4 := []) (l5 := []) trivial trivial trivial trivial trivial) Try.func51 (by kernel_rfl) N_within1 0 [.d] (fun hwf => (within1_spec at_ from_ to_ (wfArg hwf (a := .d (.v (.s (.int .i64 at_)))) (List.mem_of_getElem? (i := 0) rfl)) (wfArg hwf (a := .box [.v (.s (.int .i64 from_))]) (List.mem_of_getElem? (i := 1) rfl)) (wfArg hwf (a := .box [.v (.s (.int .i64 to_))]) (List.mem_of_getElem? (i := 2) rfl)))))
    · simp at hφ
  · simp at hF


/-! ### conj.Within -/
def M_conj_Within : Mc Un := mach (tbl [(17, F_conj_Uses), (50, F_conf_int)]) (tbl []) (tbl [(51, L_within1)]) (tbl []) (tbl [])
def A_conj_Within (r : Bool) : List (A Un) := [.c (.s (.bool r))]
def O_conj_Within (_r : Bool) : List (Ob Un) := []
def R_conj_Within (r : Bool) : RF Un := (A_conj_Within r, O_conj_Within r)
def N_conj_Within : Nat → NS := fun l => (look l []).getD ⟨[], [], [], [], []⟩
def conj_Within_fn (t : Term) (from_ : Int) (to_ : Int) : Option (RF Un) := awf M_conj_Within N_conj_Within (bodyOf Try.f21) (entry Try.f21.ntmps 0 [.d (.agg (enc Ty.term t)), .d (.v (.s (.int .i64 from_))), .d (.v (.s (.int .i64 to_)))]) (retF M_conj_Within Try.f21.results.toList [.d])
theorem conj_Within_in (t : Term) (from_ : Int) (to_ : Int) : conj_Within_fn t from_ to_ =
 obO (useOK (Term.ids t) (0 : Int))
  (obO ((fv_i_i64_to_b fun at_ => within1 at_ from_ to_) = fv_i_i64_to_b (pf_i_i64_to_b (fv_i_i64_to_b fun at_ => within1 at_ from_ to_)))
   (some (R_conj_Within (!conf_int (conj_Uses (Term.ids t) (0 : Int)) (pf_i_i64_to_b (fv_i_i64_to_b fun at_ => within1 at_ from_ to_)))))) := by kernel_rfl

def withinA (t : Term) (f u : Int) : Bool := (usesA t 0).all fun a => decide (f ≤ a ∧ a < u)
def conj_Within (t : Term) (from_ to_ : Int) : Bool := withinA t from_ to_
@[simp] theorem conj_Within_eq (t : Term) (from_ to_ : Int) : conj_Within t from_ to_ = withinA t from_ to_ := by unfold conj_Within; rfl
theorem conj_Within_spec (t : Term) (from_ to_ : Int) (_ht : WS .term t) (_hf : WI from_) (_hu : WI to_) (h : t.sz ≤ 1000000) : conj_Within_fn t from_ to_ = some (R_conj_Within (conj_Within t from_ to_)) := by
  rw [conj_Within_in, Term.ids_eq]
  simp only [pfv_i_i64_to_b, conf_int_eq, conj_Uses_eq]
  rw [obO_pos ⟨by omega, h⟩, obO_pos trivial]
  unfold conj_Within withinA
  congr 2
  induction usesA t 0 with
  | nil => rfl
  | cons x l ih =>
    rw [List.any_cons, List.all_cons, Bool.not_or, ih]
    congr 1
    unfold within1
    by_cases h1 : from_ ≤ x ∧ x < to_
    · rw [decide_eq_true h1, decide_eq_false (by omega)]; rfl
    · rw [decide_eq_false h1, decide_eq_true (by omega)]; rfl

def F_conj_Within : FnC Un := fun args => match args with
  | [x0, x1, x2] => (dS .term x0).bind fun t => (dI .i64 x1).bind fun from_ => (dI .i64 x2).bind fun to_ => some ([t.sz ≤ 1000000], A_conj_Within (conj_Within t from_ to_), O_conj_Within (conj_Within t from_ to_))
  | _ => none

theorem ok_conj_Within : FnOK 21 F_conj_Within := by
  intro args ob rs os h hob
  unfold F_conj_Within at h
  split at h
  · simp only [Option.bind_eq_some_iff, Option.some.injEq, Prod.mk.injEq] at h
    obtain ⟨t, e0, from_, e1, to_, e2, rfl, rfl, rfl⟩ := h
    obtain rfl := dS_eq e0
    obtain rfl := dI_eq e1
    obtain rfl := dI_eq e2
    exact ⟨fn_contractF (M := M_conj_Within) rfl (tbl_ok (l1 := [(17, F_conj_Uses), (50, F_conf_int)]) (l2 := []) (l3 := [(51, L_within1)]) (l4 := []) (l5 := []) ⟨ok_conj_Uses, ok_conf_int, trivial⟩ trivial ⟨okL_within1, trivial⟩ trivial trivial) Try.func21 (by kernel_rfl) N_conj_Within 0 [.d] (fun hwf => (conj_Within_spec t from_ to_ (wfArg hwf (a := .d (.agg (enc Ty.term t))) (List.mem_of_getElem? (i := 0) rfl)) (wfArg hwf (a := .d (.v (.s (.int .i64 from_)))) (List.mem_of_getElem? (i := 1) rfl)) (wfArg hwf (a := .d (.v (.s (.int .i64 to_)))) (List.mem_of_getElem? (i := 2) rfl)) (hob _ (List.mem_of_getElem? (i := 0) rfl)))), hasBody_of Try.func21 (by kernel_rfl) (by kernel_rfl)⟩
  · simp at h


end
end Go.Proofs.Ytaepcbdcjbfgjaa.B
