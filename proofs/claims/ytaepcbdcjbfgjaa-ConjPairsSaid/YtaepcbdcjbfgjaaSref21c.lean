/- Functions: ref21c. (Printed by wip/tools/mkfn.py out of wip/src/ref21c.src.) -/
import Derived.Test.YtaepcbdcjbfgjaaBAwf
import Derived.Test.YtaepcbdcjbfgjaaSspec
import Derived.Test.YtaepcbdcjbfgjaaSterms
import Derived.Test.YtaepcbdcjbfgjaaStermsz
import Derived.Test.YtaepcbdcjbfgjaaSconjspec
import Derived.Test.YtaepcbdcjbfgjaaSsorted
import Derived.Test.YtaepcbdcjbfgjaaSconjU
import Derived.Test.YtaepcbdcjbfgjaaSconj2
import Derived.Test.YtaepcbdcjbfgjaaSconj3
import Derived.Test.YtaepcbdcjbfgjaaSconj4
import Derived.Test.YtaepcbdcjbfgjaaSsame
import Derived.Test.YtaepcbdcjbfgjaaSsame2
import Derived.Test.YtaepcbdcjbfgjaaSsame3
import Derived.Test.YtaepcbdcjbfgjaaSsame4
import Derived.Test.YtaepcbdcjbfgjaaSsame5
import Derived.Test.YtaepcbdcjbfgjaaSconj5
import Derived.Test.YtaepcbdcjbfgjaaSconj6
import Derived.Test.YtaepcbdcjbfgjaaSconj7
import Derived.Test.YtaepcbdcjbfgjaaSref03
import Derived.Test.YtaepcbdcjbfgjaaSref15
import Derived.Test.YtaepcbdcjbfgjaaSref15b
import Derived.Test.YtaepcbdcjbfgjaaSref21
import Derived.Test.YtaepcbdcjbfgjaaSref21b
namespace Go.Proofs.Ytaepcbdcjbfgjaa.B
open Go Go.RowKit
set_option maxRecDepth 100000
noncomputable section
attribute [local irreducible] awp ctxK itersK iterK retQ retGQ awf ctxF loopF

/-! ### tabellionref21.Uses -/
def M_r21_Uses : Mc Un := mach (tbl [(45, F_r21_in)]) (tbl []) (tbl []) (tbl []) (tbl [])
def A_r21_Uses (r : List Int) : List (A Un) := [.c (.ob 0 0)]
def O_r21_Uses (r : List Int) : List (Ob Un) := [⟨0, Ty.int, r, none, true⟩]
def R_r21_Uses (r : List Int) : RF Un := (A_r21_Uses r, O_r21_Uses r)
def N_r21_Uses : Nat → NS := fun l => (look l [(4, { ts := bl 70 224, bs := bl 70 0, nm := [(.sl 5, 280), (.sl 6, 281)] }), (7, { ts := bl 70 480, bs := bl 70 0, nm := [(.sl 5, 282), (.sl 6, 283)] })]).getD ⟨[], [], [], [], []⟩
def r21_Uses_s4 (t : Term) (depth : Int) (v0 : Int) (v1 : List Int) : S Un := (st 70 70 284 0 [(5, ao 280), (6, ao 281), (7, ai v0)] [] [(280, some ⟨(0 : Nat), Ty.int, r21_in (Term.ids t) depth, none, true⟩), (281, some ⟨(0 : Nat), Ty.int, v1, some (0 : Nat), true⟩)])
def r21_Uses_s7 (t : Term) (depth : Int) (v0 : Int) (v1 : List Int) (v2 : Int) : S Un := (st 70 70 284 0 [(5, ao 282), (6, ao 283), (7, ai v0), (8, ai v2)] [] [(282, some ⟨(0 : Nat), Ty.int, r21_in (Term.ids t) depth, none, true⟩), (283, some ⟨(0 : Nat), Ty.int, v1, some (0 : Nat), true⟩)])
def r21_Uses_B4 : Code := sub (bodyOf Try.f18) [1, 1, 1, 0, 1, 2, 2]
def r21_Uses_L4 : S Un → Option (EX Un) := loopF (N_r21_Uses 4) (fun s Q => awf M_r21_Uses N_r21_Uses r21_Uses_B4 s Q)
def r21_Uses_B7 : Code := sub (sub (bodyOf Try.f18) [1, 1, 1, 0, 1, 2, 2]) [1, 0, 2, 1, 0, 2, 2]
def r21_Uses_L7 : S Un → Option (EX Un) := loopF (N_r21_Uses 7) (fun s Q => awf M_r21_Uses N_r21_Uses r21_Uses_B7 s Q)
def r21_Uses_C4 : Exit → S Un → Option (RF Un) := ctxF M_r21_Uses N_r21_Uses (bodyOf Try.f18) [1, 1, 1, 0, 1, 2] (retF M_r21_Uses Try.f18.results.toList [.o])
def r21_Uses_C7 : Exit → S Un → Option (EX Un) := ctxF M_r21_Uses N_r21_Uses r21_Uses_B4 [1, 0, 2, 1, 0, 2] (roundF (N_r21_Uses 4) r21_Uses_L4)
def r21_Uses_fn (t : Term) (depth : Int) : Option (RF Un) := awf M_r21_Uses N_r21_Uses (bodyOf Try.f18) (entry Try.f18.ntmps 4 [.d (.agg (enc Ty.term t)), .d (.v (.s (.int .i64 depth)))]) (retF M_r21_Uses Try.f18.results.toList [.o])
theorem r21_Uses_in (t : Term) (depth : Int) : r21_Uses_fn t depth =
 obO (inOK depth (Term.ids t).sz)
  ((r21_Uses_L4 (r21_Uses_s4 t depth (0 : Int) ([]))).bind (thenX r21_Uses_C4)) := by kernel_rfl
theorem r21_Uses_l4 (t : Term) (depth : Int) (v0 : Int) (v1 : List Int) : r21_Uses_L4 (r21_Uses_s4 t depth v0 v1) =
 cndO (decide (v0 < (↑(r21_in (Term.ids t) depth).length : Int)))
  ((r21_Uses_L7 (r21_Uses_s7 t depth v0 v1 (0 : Int))).bind (thenX r21_Uses_C7))
  (some (.exit 0, (r21_Uses_s4 t depth v0 v1))) := (loopF_eq (N_r21_Uses 4) r21_Uses_B4 _).trans (by kernel_rfl)
theorem r21_Uses_a4_x0 (t : Term) (depth : Int) (v0 : Int) (v1 : List Int) : r21_Uses_C4 (.exit 0) (r21_Uses_s4 t depth v0 v1) =
 some (R_r21_Uses (v1)) := by kernel_rfl
theorem r21_Uses_l7 (t : Term) (depth : Int) (v0 : Int) (v1 : List Int) (v2 : Int) : r21_Uses_L7 (r21_Uses_s7 t depth v0 v1 v2) =
 cndO (decide (v2 < (↑v1.length : Int)))
  (obO (0 ≤ v2 ∧ v2 < (↑v1.length : Int))
   (obO (0 ≤ v0 ∧ v0 < (↑(r21_in (Term.ids t) depth).length : Int))
    (cndO (decide (v1.getD v2.toNat (0 : Int) < (r21_in (Term.ids t) depth).getD v0.toNat (0 : Int)))
     (r21_Uses_L7 (r21_Uses_s7 t depth v0 v1 (IntKind.i64.wrap (v2 + 1))))
     (some (.exit 2, (r21_Uses_s7 t depth v0 v1 v2))))))
  (some (.exit 2, (r21_Uses_s7 t depth v0 v1 v2))) := (loopF_eq (N_r21_Uses 7) r21_Uses_B7 _).trans (by kernel_rfl)
def r21_Uses_t1 (t : Term) (depth : Int) (v0 : Int) (v1 : List Int) (v2 : Int) : Option (EX Un) :=
 obO (0 ≤ v2 ∧ v2 ≤ (↑v1.length : Int))
  (obO ((0 + (List.take v2.toNat v1).length) * (8 : Nat) ≤ roomB)
   (obO (0 ≤ v0 ∧ v0 < (↑(r21_in (Term.ids t) depth).length : Int))
    (obO (((List.take v2.toNat v1).length + [(r21_in (Term.ids t) depth).getD v0.toNat (0 : Int)].length) * (8 : Nat) ≤ roomB)
     (obO (0 ≤ v2 ∧ v2 ≤ (↑v1.length : Int))
      (obO (((List.take v2.toNat v1 ++ [(r21_in (Term.ids t) depth).getD v0.toNat (0 : Int)]).length + (List.drop v2.toNat v1).length) * (8 : Nat) ≤ roomB)
       (r21_Uses_L4 (r21_Uses_s4 t depth (IntKind.i64.wrap (v0 + 1)) (List.take v2.toNat v1 ++ [(r21_in (Term.ids t) depth).getD v0.toNat (0 : Int)] ++ List.drop v2.toNat v1))))))))
theorem r21_Uses_a7_x2 (t : Term) (depth : Int) (v0 : Int) (v1 : List Int) (v2 : Int) : r21_Uses_C7 (.exit 2) (r21_Uses_s7 t depth v0 v1 v2) =
 cndO (decide (v2 < (↑v1.length : Int)))
  (obO (0 ≤ v2 ∧ v2 < (↑v1.length : Int))
   (obO (0 ≤ v0 ∧ v0 < (↑(r21_in (Term.ids t) depth).length : Int))
    (cndO (v1.getD v2.toNat (0 : Int) == (r21_in (Term.ids t) depth).getD v0.toNat (0 : Int))
     (r21_Uses_L4 (r21_Uses_s4 t depth (IntKind.i64.wrap (v0 + 1)) v1))
     (r21_Uses_t1 t depth v0 v1 v2))))
  (r21_Uses_t1 t depth v0 v1 v2) := by kernel_rfl

theorem tw_take {p : Int → Bool} : ∀ l : List Int, l.take (l.takeWhile p).length = l.takeWhile p
  | [] => rfl
  | y :: l => by
    rw [List.takeWhile_cons]
    cases p y with
    | true => simp only [if_true, List.length_cons, List.take_succ_cons]; rw [tw_take l]
    | false => simp
theorem tw_drop {p : Int → Bool} : ∀ l : List Int, l.drop (l.takeWhile p).length = l.dropWhile p
  | [] => rfl
  | y :: l => by
    rw [List.takeWhile_cons, List.dropWhile_cons]
    cases p y with
    | true => simp only [if_true, List.length_cons, List.drop_succ_cons]; rw [tw_drop l]
    | false => simp
theorem ins_at (x : Int) : ∀ {out : List Int}, Rises out → (x ∈ out ↔ ((out.takeWhile fun y => decide (y < x)).length < out.length ∧ out.getD (out.takeWhile fun y => decide (y < x)).length 0 = x))
  | [], _ => by simp
  | y :: out, h => by
    obtain ⟨h1, h2⟩ := List.pairwise_cons.1 h
    have ih := ins_at x (out := out) h2
    by_cases e : y < x
    · rw [List.takeWhile_cons, if_pos (by simpa using e), List.length_cons, List.length_cons, List.getD_cons_succ, List.mem_cons, ih]
      constructor
      · rintro (e2 | e2)
        · omega
        · exact ⟨by omega, e2.2⟩
      · rintro ⟨e2, e3⟩; exact .inr ⟨by omega, e3⟩
    · rw [List.takeWhile_cons, if_neg (by simpa using e), List.length_nil, List.length_cons, List.getD_cons_zero, List.mem_cons]
      constructor
      · rintro (e2 | e2)
        · exact ⟨by omega, e2.symm⟩
        · have := h1 x e2; omega
      · rintro ⟨_, e3⟩; exact .inl e3.symm
def r21_Uses (t : Term) (depth : Int) : List Int := usesA t depth
theorem r21_Uses_find (t : Term) (depth : Int) (out : List Int) (i : Nat) (hi : i < (inT depth t).length) (x : Int) (hx : (inT depth t).getD i 0 = x) (hl : out.length ≤ 1000000) : ∀ (r : List Int) (k : Nat), out.drop k = r → k ≤ out.length →
    r21_Uses_L7 (r21_Uses_s7 t depth (i : Int) out (k : Int)) = some (.exit 2, r21_Uses_s7 t depth (i : Int) out ((k + (r.takeWhile fun y => decide (y < x)).length : Nat) : Int)) := by
  intro r
  induction r with
  | nil =>
    intro k hr hk
    have : out.length ≤ k := by rw [← List.drop_eq_nil_iff]; exact hr
    rw [r21_Uses_l7, cndO_eq, if_neg (by rw [decide_eq_true_eq]; omega)]
    rfl
  | cons y r ih =>
    intro k hr hk
    obtain ⟨a1, a2, a3, _⟩ := drop_cons hr
    rw [r21_Uses_l7]
    simp only [cndO_eq, decide_eq_true_eq, Term.ids_eq, r21_in, Int.toNat_natCast, hx, a2]
    rw [if_pos (by omega), obO_pos (by omega), obO_pos (by omega), List.takeWhile_cons]
    by_cases e : y < x
    · rw [if_pos e, wrap_next a1 (by omega), ih (k + 1) a3 (by omega), if_pos (by simpa using e), List.length_cons]
      congr 4
      omega
    · rw [if_neg e, if_neg (by simpa using e)]
      rfl
theorem r21_Uses_spec (t : Term) (depth : Int) (_ht : WS .term t) (_hd : WI depth) (h : inOK depth t.sz) : r21_Uses_fn t depth = some (R_r21_Uses (r21_Uses t depth)) := by
  obtain ⟨h1, h2, h3⟩ := h
  have hin := inT_len depth t
  have l4 := (loop_fold (e := .exit 0) (L := r21_Uses_L4) (st := fun o i => r21_Uses_s4 t depth i o) (l := inT depth t) (d := (0 : Int)) (g := insI) (fun i o => Rises o ∧ o.length ≤ i) (by omega)
    (fun o i x hi hx hI => by
      have hil : i < (inT depth t).length := by omega
      obtain ⟨hR, hol⟩ : Rises o ∧ o.length ≤ i := hI
      have hil2 : (insI o x).length ≤ o.length + 1 := by
        unfold insI
        split
        · omega
        · have e := congrArg List.length (List.takeWhile_append_dropWhile (p := fun z => decide (z < x)) (l := o))
          rw [List.length_append] at e
          rw [List.length_append, List.length_cons]; omega
      refine ⟨(show Rises (insI o x) ∧ (insI o x).length ≤ i + 1 from ⟨insI_rises hR x, by omega⟩), ?_⟩
      have hf := r21_Uses_find t depth o i hil x hx (by omega) o 0 rfl (by omega)
      rw [Nat.zero_add] at hf
      have hf' : r21_Uses_L7 (r21_Uses_s7 t depth (i : Int) o (0 : Int)) = some (.exit 2, r21_Uses_s7 t depth (i : Int) o (((o.takeWhile fun y => decide (y < x)).length : Nat) : Int)) := hf
      have hat := ins_at x hR
      have htk := tw_take (p := fun y => decide (y < x)) o
      have hdr := tw_drop (p := fun y => decide (y < x)) o
      have hkl : (o.takeWhile fun y => decide (y < x)).length ≤ o.length := (List.takeWhile_sublist _).length_le
      rw [r21_Uses_l4]
      simp only [Term.ids_eq, r21_in]
      rw [cndO_eq, if_pos (by rw [decide_eq_true_eq]; exact hi), loop_end hf', r21_Uses_a7_x2]
      unfold r21_Uses_t1
      simp only [cndO_eq, decide_eq_true_eq, beq_iff_eq, Term.ids_eq, r21_in, Int.toNat_natCast, hx]
      have t1 : ∀ X : Option (EX Un), obO (0 ≤ (((o.takeWhile fun y => decide (y < x)).length : Nat) : Int) ∧ (((o.takeWhile fun y => decide (y < x)).length : Nat) : Int) ≤ (o.length : Int))
          (obO ((0 + (o.take (o.takeWhile fun y => decide (y < x)).length).length) * 8 ≤ roomB) (obO (0 ≤ (i : Int) ∧ (i : Int) < ((inT depth t).length : Int))
          (obO (((o.take (o.takeWhile fun y => decide (y < x)).length).length + [x].length) * 8 ≤ roomB) (obO (0 ≤ (((o.takeWhile fun y => decide (y < x)).length : Nat) : Int) ∧ (((o.takeWhile fun y => decide (y < x)).length : Nat) : Int) ≤ (o.length : Int))
          (obO (((o.take (o.takeWhile fun y => decide (y < x)).length ++ [x]).length + (o.drop (o.takeWhile fun y => decide (y < x)).length).length) * 8 ≤ roomB) X))))) = X := by
        intro X
        have e1 : (o.take (o.takeWhile fun y => decide (y < x)).length).length ≤ o.length := by rw [List.length_take]; omega
        have e2 : (o.drop (o.takeWhile fun y => decide (y < x)).length).length ≤ o.length := by rw [List.length_drop]; omega
        rw [obO_pos (by omega), obO_pos (by unfold roomB; omega), obO_pos (by omega), obO_pos (by unfold roomB; rw [List.length_singleton]; omega), obO_pos (by omega), obO_pos (by unfold roomB; rw [List.length_append, List.length_singleton]; omega)]
      rw [t1, htk, hdr]
      by_cases hm : x ∈ o
      · have hm' := hat.1 hm
        rw [if_pos (by omega), obO_pos (by omega), obO_pos (by omega), if_pos hm'.2]
        unfold insI
        rw [if_pos hm]
      · have e : insI o x = (o.takeWhile fun y => decide (y < x)) ++ [x] ++ o.dropWhile fun y => decide (y < x) := by unfold insI; rw [if_neg hm, List.append_assoc]; rfl
        rw [e]
        by_cases hk : (o.takeWhile fun y => decide (y < x)).length < o.length
        · rw [if_pos (by omega), obO_pos (by omega), obO_pos (by omega), if_neg (fun e2 => hm (hat.2 ⟨hk, e2⟩))]
        · rw [if_neg (by omega)])
    (fun o _ => by
      rw [r21_Uses_l4]
      simp only [Term.ids_eq, r21_in]
      rw [cndO_eq, if_neg (by rw [decide_eq_true_eq]; omega)]) [] (show Rises [] ∧ ([] : List Int).length ≤ 0 from ⟨List.Pairwise.nil, Nat.le_refl _⟩)).1
  rw [r21_Uses_in, Term.ids_eq, obO_pos (show inOK _ _ from ⟨h1, h2, h3⟩), loop_end l4, r21_Uses_a4_x0]
  rfl

def F_r21_Uses : FnC Un := fun args => match args with
  | [x0, x1] => (dS .term x0).bind fun t => (dI .i64 x1).bind fun depth => some ([inOK depth t.sz], A_r21_Uses (r21_Uses t depth), O_r21_Uses (r21_Uses t depth))
  | _ => none

theorem ok_r21_Uses : FnOK 18 F_r21_Uses := by
  intro args ob rs os h hob
  unfold F_r21_Uses at h
  split at h
  · simp only [Option.bind_eq_some_iff, Option.some.injEq, Prod.mk.injEq] at h
    obtain ⟨t, e0, depth, e1, rfl, rfl, rfl⟩ := h
    obtain rfl := dS_eq e0
    obtain rfl := dI_eq e1
    exact ⟨fn_contractF (M := M_r21_Uses) rfl (tbl_ok (l1 := [(45, F_r21_in)]) (l2 := []) (l3 := []) (l4 := []) (l5 := []) ⟨ok_r21_in, trivial⟩ trivial trivial trivial trivial) Try.func18 (by kernel_rfl) N_r21_Uses 4 [.o] (fun hwf => (r21_Uses_spec t depth (wfArg hwf (a := .d (.agg (enc Ty.term t))) (List.mem_of_getElem? (i := 0) rfl)) (wfArg hwf (a := .d (.v (.s (.int .i64 depth)))) (List.mem_of_getElem? (i := 1) rfl)) (hob _ (List.mem_of_getElem? (i := 0) rfl)))), hasBody_of Try.func18 (by kernel_rfl) (by kernel_rfl)⟩
  · simp at h


/-! ### tabellionref21.Within -/
def M_r21_Within : Mc Un := mach (tbl [(18, F_r21_Uses)]) (tbl []) (tbl []) (tbl []) (tbl [])
def A_r21_Within (r : Bool) : List (A Un) := [.c (.s (.bool r))]
def O_r21_Within (_r : Bool) : List (Ob Un) := []
def R_r21_Within (r : Bool) : RF Un := (A_r21_Within r, O_r21_Within r)
def N_r21_Within : Nat → NS := fun l => (look l [(3, { ts := bl 31 454, bs := bl 31 0, nm := [(.sl 7, 124)] })]).getD ⟨[], [], [], [], []⟩
def r21_Within_s3 (t : Term) (from_ : Int) (to_ : Int) (v0 : Int) : S Un := (st 31 31 125 0 [(1, ai from_), (2, ai to_), (6, ab false), (7, ao 124), (8, ai v0)] [] [(124, some ⟨(0 : Nat), Ty.int, r21_Uses (Term.ids t) (0 : Int), none, true⟩)])
def r21_Within_B3 : Code := sub (bodyOf Try.f22) [1, 1, 0, 1, 2, 2]
def r21_Within_L3 : S Un → Option (EX Un) := loopF (N_r21_Within 3) (fun s Q => awf M_r21_Within N_r21_Within r21_Within_B3 s Q)
def r21_Within_C3 : Exit → S Un → Option (RF Un) := ctxF M_r21_Within N_r21_Within (bodyOf Try.f22) [1, 1, 0, 1, 2] (retF M_r21_Within Try.f22.results.toList [.d])
def r21_Within_fn (t : Term) (from_ : Int) (to_ : Int) : Option (RF Un) := awf M_r21_Within N_r21_Within (bodyOf Try.f22) (entry Try.f22.ntmps 1 [.d (.agg (enc Ty.term t)), .d (.v (.s (.int .i64 from_))), .d (.v (.s (.int .i64 to_)))]) (retF M_r21_Within Try.f22.results.toList [.d])
theorem r21_Within_in (t : Term) (from_ : Int) (to_ : Int) : r21_Within_fn t from_ to_ =
 obO (inOK (0 : Int) (Term.ids t).sz)
  ((r21_Within_L3 (r21_Within_s3 t from_ to_ (0 : Int))).bind (thenX r21_Within_C3)) := by kernel_rfl
theorem r21_Within_l3 (t : Term) (from_ : Int) (to_ : Int) (v0 : Int) : r21_Within_L3 (r21_Within_s3 t from_ to_ v0) =
 cndO (decide (v0 < (↑(r21_Uses (Term.ids t) (0 : Int)).length : Int)))
  (obO (0 ≤ v0 ∧ v0 < (↑(r21_Uses (Term.ids t) (0 : Int)).length : Int))
   (cndO (decide ((r21_Uses (Term.ids t) (0 : Int)).getD v0.toNat 0 < from_))
    (some (.ret, (r21_Within_s3 t from_ to_ v0)))
    (obO (0 ≤ v0 ∧ v0 < (↑(r21_Uses (Term.ids t) (0 : Int)).length : Int))
     (cndO (decide ((r21_Uses (Term.ids t) (0 : Int)).getD v0.toNat (0 : Int) ≥ to_))
      (some (.ret, (r21_Within_s3 t from_ to_ v0)))
      (r21_Within_L3 (r21_Within_s3 t from_ to_ (IntKind.i64.wrap (v0 + 1))))))))
  (some (.exit 0, (r21_Within_s3 t from_ to_ v0))) := (loopF_eq (N_r21_Within 3) r21_Within_B3 _).trans (by kernel_rfl)
theorem r21_Within_a3_ret (t : Term) (from_ : Int) (to_ : Int) (v0 : Int) : r21_Within_C3 .ret (r21_Within_s3 t from_ to_ v0) =
 some (R_r21_Within (false)) := by kernel_rfl
theorem r21_Within_a3_x0 (t : Term) (from_ : Int) (to_ : Int) (v0 : Int) : r21_Within_C3 (.exit 0) (r21_Within_s3 t from_ to_ v0) =
 some (R_r21_Within (true)) := by kernel_rfl

/-- Does each of a list pass? -/
theorem loop_all {α β : Type} {L : S Un → Option (EX Un)} {st : Int → S Un} {C : Exit → S Un → Option β} (R : Bool → Option β) {l : List α} {d : α} {e : Exit} (q : α → Bool) {b : Bool} (hl : l.length ≤ 9223372036854775807)
    (step : ∀ i : Nat, i < l.length → L (st i) = if q (l.getD i d) = true then L (st (IntKind.i64.wrap ((i : Int) + 1))) else some (.ret, st i))
    (stop : L (st (l.length : Int)) = some (e, st (l.length : Int))) (cr : ∀ i : Nat, C .ret (st i) = R false) (ce : C e (st (l.length : Int)) = R b) : (L (st (0 : Int))).bind (thenX C) = R (l.all q && b) := by
  have key : ∀ (r : List α) (i : Nat), l.drop i = r → i ≤ l.length → (L (st i)).bind (thenX C) = R (r.all q && b) := by
    intro r
    induction r with
    | nil =>
      intro i hr hi
      have : l.length ≤ i := by rw [← List.drop_eq_nil_iff]; exact hr
      obtain rfl : i = l.length := by omega
      rw [loop_end stop, ce]; rfl
    | cons x r ih =>
      intro i hr hi
      obtain ⟨a1, a2, a3, _⟩ := drop_cons hr
      have hs := step i a1
      rw [a2] at hs
      rw [List.all_cons]
      by_cases hq : q x = true
      · rw [if_pos hq, wrap_next a1 hl] at hs
        rw [hs, ih (i + 1) a3 (by omega), hq, Bool.true_and]
      · rw [if_neg hq] at hs
        have hq' : q x = false := by simpa using hq
        rw [loop_end hs, cr, hq', Bool.false_and, Bool.false_and]
  exact key l 0 rfl (by omega)
def r21_Within (t : Term) (from_ to_ : Int) : Bool := withinA t from_ to_
theorem usesA_len (t : Term) (d : Int) : (usesA t d).length ≤ t.sz := by have := riseI_len (inT d t); have := inT_len d t; unfold usesA; omega
theorem r21_Within_spec (t : Term) (from_ to_ : Int) (_ht : WS .term t) (_hf : WI from_) (_hu : WI to_) (h : t.sz ≤ 1000000) : r21_Within_fn t from_ to_ = some (R_r21_Within (r21_Within t from_ to_)) := by
  have hul := usesA_len t 0
  rw [r21_Within_in, Term.ids_eq, obO_pos (show inOK _ _ from ⟨by omega, by omega, h⟩)]
  refine (loop_all (L := r21_Within_L3) (st := fun i => r21_Within_s3 t from_ to_ i) (fun r => some (R_r21_Within r)) (l := usesA t 0) (d := 0) (fun a => decide (from_ ≤ a ∧ a < to_)) (b := true) (by omega)
    (fun i hi => by
      rw [r21_Within_l3]
      simp only [cndO_eq, decide_eq_true_eq, Term.ids_eq, r21_Uses, Int.toNat_natCast]
      rw [if_pos (by omega), obO_pos (by omega), obO_pos (by omega)]
      generalize (usesA t 0).getD i 0 = x
      by_cases e1 : x < from_
      · rw [if_pos e1, if_neg (by omega)]
      · rw [if_neg e1]
        by_cases e2 : x ≥ to_
        · rw [if_pos e2, if_neg (by omega)]
        · rw [if_neg e2, if_pos (by omega)])
    (by
      rw [r21_Within_l3]
      simp only [cndO_eq, decide_eq_true_eq, Term.ids_eq, r21_Uses]
      rw [if_neg (by omega)]) (fun i => r21_Within_a3_ret _ _ _ _) (r21_Within_a3_x0 _ _ _ _)).trans ?_
  rw [Bool.and_true]
  rfl

def F_r21_Within : FnC Un := fun args => match args with
  | [x0, x1, x2] => (dS .term x0).bind fun t => (dI .i64 x1).bind fun from_ => (dI .i64 x2).bind fun to_ => some ([t.sz ≤ 1000000], A_r21_Within (r21_Within t from_ to_), O_r21_Within (r21_Within t from_ to_))
  | _ => none

theorem ok_r21_Within : FnOK 22 F_r21_Within := by
  intro args ob rs os h hob
  unfold F_r21_Within at h
  split at h
  · simp only [Option.bind_eq_some_iff, Option.some.injEq, Prod.mk.injEq] at h
    obtain ⟨t, e0, from_, e1, to_, e2, rfl, rfl, rfl⟩ := h
    obtain rfl := dS_eq e0
    obtain rfl := dI_eq e1
    obtain rfl := dI_eq e2
    exact ⟨fn_contractF (M := M_r21_Within) rfl (tbl_ok (l1 := [(18, F_r21_Uses)]) (l2 := []) (l3 := []) (l4 := []) (l5 := []) ⟨ok_r21_Uses, trivial⟩ trivial trivial trivial trivial) Try.func22 (by kernel_rfl) N_r21_Within 1 [.d] (fun hwf => (r21_Within_spec t from_ to_ (wfArg hwf (a := .d (.agg (enc Ty.term t))) (List.mem_of_getElem? (i := 0) rfl)) (wfArg hwf (a := .d (.v (.s (.int .i64 from_)))) (List.mem_of_getElem? (i := 1) rfl)) (wfArg hwf (a := .d (.v (.s (.int .i64 to_)))) (List.mem_of_getElem? (i := 2) rfl)) (hob _ (List.mem_of_getElem? (i := 0) rfl)))), hasBody_of Try.func22 (by kernel_rfl) (by kernel_rfl)⟩
  · simp at h


/-! ### tabellionref21.above -/
def M_r21_above : Mc Un := mach (tbl [(18, F_r21_Uses)]) (tbl []) (tbl []) (tbl []) (tbl [])
def A_r21_above (r : Bool) : List (A Un) := [.c (.s (.bool r))]
def O_r21_above (_r : Bool) : List (Ob Un) := []
def R_r21_above (r : Bool) : RF Un := (A_r21_above r, O_r21_above r)
def N_r21_above : Nat → NS := fun l => (look l [(3, { ts := bl 24 114, bs := bl 24 0, nm := [(.sl 5, 96)] })]).getD ⟨[], [], [], [], []⟩
def r21_above_s3 (t : Term) (cut : Int) (v0 : Int) : S Un := (st 24 24 97 0 [(1, ai cut), (4, ab false), (5, ao 96), (6, ai v0)] [] [(96, some ⟨(0 : Nat), Ty.int, r21_Uses (Term.ids t) (0 : Int), none, true⟩)])
def r21_above_B3 : Code := sub (bodyOf Try.f57) [1, 1, 0, 1, 2, 2]
def r21_above_L3 : S Un → Option (EX Un) := loopF (N_r21_above 3) (fun s Q => awf M_r21_above N_r21_above r21_above_B3 s Q)
def r21_above_C3 : Exit → S Un → Option (RF Un) := ctxF M_r21_above N_r21_above (bodyOf Try.f57) [1, 1, 0, 1, 2] (retF M_r21_above Try.f57.results.toList [.d])
def r21_above_fn (t : Term) (cut : Int) : Option (RF Un) := awf M_r21_above N_r21_above (bodyOf Try.f57) (entry Try.f57.ntmps 1 [.d (.agg (enc Ty.term t)), .d (.v (.s (.int .i64 cut)))]) (retF M_r21_above Try.f57.results.toList [.d])
theorem r21_above_in (t : Term) (cut : Int) : r21_above_fn t cut =
 obO (inOK (0 : Int) (Term.ids t).sz)
  ((r21_above_L3 (r21_above_s3 t cut (0 : Int))).bind (thenX r21_above_C3)) := by kernel_rfl
theorem r21_above_l3 (t : Term) (cut : Int) (v0 : Int) : r21_above_L3 (r21_above_s3 t cut v0) =
 cndO (decide (v0 < (↑(r21_Uses (Term.ids t) (0 : Int)).length : Int)))
  (obO (0 ≤ v0 ∧ v0 < (↑(r21_Uses (Term.ids t) (0 : Int)).length : Int))
   (cndO (decide ((r21_Uses (Term.ids t) (0 : Int)).getD v0.toNat 0 < cut))
    (some (.ret, (r21_above_s3 t cut v0)))
    (r21_above_L3 (r21_above_s3 t cut (IntKind.i64.wrap (v0 + 1))))))
  (some (.exit 0, (r21_above_s3 t cut v0))) := (loopF_eq (N_r21_above 3) r21_above_B3 _).trans (by kernel_rfl)
theorem r21_above_a3_ret (t : Term) (cut : Int) (v0 : Int) : r21_above_C3 .ret (r21_above_s3 t cut v0) =
 some (R_r21_above (false)) := by kernel_rfl
theorem r21_above_a3_x0 (t : Term) (cut : Int) (v0 : Int) : r21_above_C3 (.exit 0) (r21_above_s3 t cut v0) =
 some (R_r21_above (decide ((↑(r21_Uses (Term.ids t) (0 : Int)).length : Int) > (0 : Int)))) := by kernel_rfl

def r21_above (t : Term) (cut : Int) : Bool := (usesA t 0).all (fun a => decide (cut ≤ a)) && decide (((usesA t 0).length : Int) > 0)
theorem r21_above_spec (t : Term) (cut : Int) (_ht : WS .term t) (_hf : WI cut) (h : t.sz ≤ 1000000) : r21_above_fn t cut = some (R_r21_above (r21_above t cut)) := by
  have hul := usesA_len t 0
  rw [r21_above_in, Term.ids_eq, obO_pos (show inOK _ _ from ⟨by omega, by omega, h⟩)]
  exact loop_all (L := r21_above_L3) (st := fun i => r21_above_s3 t cut i) (fun r => some (R_r21_above r)) (l := usesA t 0) (d := 0) (fun a => decide (cut ≤ a)) (by omega)
    (fun i hi => by
      rw [r21_above_l3]
      simp only [cndO_eq, decide_eq_true_eq, Term.ids_eq, r21_Uses, Int.toNat_natCast]
      rw [if_pos (by omega), obO_pos (by omega)]
      generalize (usesA t 0).getD i 0 = x
      by_cases e1 : x < cut
      · rw [if_pos e1, if_neg (by omega)]
      · rw [if_neg e1, if_pos (by omega)])
    (by
      rw [r21_above_l3]
      simp only [cndO_eq, decide_eq_true_eq, Term.ids_eq, r21_Uses]
      rw [if_neg (by omega)]) (fun i => r21_above_a3_ret _ _ _) (by rw [r21_above_a3_x0, Term.ids_eq]; rfl)

def F_r21_above : FnC Un := fun args => match args with
  | [x0, x1] => (dS .term x0).bind fun t => (dI .i64 x1).bind fun cut => some ([t.sz ≤ 1000000], A_r21_above (r21_above t cut), O_r21_above (r21_above t cut))
  | _ => none

theorem ok_r21_above : FnOK 57 F_r21_above := by
  intro args ob rs os h hob
  unfold F_r21_above at h
  split at h
  · simp only [Option.bind_eq_some_iff, Option.some.injEq, Prod.mk.injEq] at h
    obtain ⟨t, e0, cut, e1, rfl, rfl, rfl⟩ := h
    obtain rfl := dS_eq e0
    obtain rfl := dI_eq e1
    exact ⟨fn_contractF (M := M_r21_above) rfl (tbl_ok (l1 := [(18, F_r21_Uses)]) (l2 := []) (l3 := []) (l4 := []) (l5 := []) ⟨ok_r21_Uses, trivial⟩ trivial trivial trivial trivial) Try.func57 (by kernel_rfl) N_r21_above 1 [.d] (fun hwf => (r21_above_spec t cut (wfArg hwf (a := .d (.agg (enc Ty.term t))) (List.mem_of_getElem? (i := 0) rfl)) (wfArg hwf (a := .d (.v (.s (.int .i64 cut)))) (List.mem_of_getElem? (i := 1) rfl)) (hob _ (List.mem_of_getElem? (i := 0) rfl)))), hasBody_of Try.func57 (by kernel_rfl) (by kernel_rfl)⟩
  · simp at h


/-! ### tabellionref21.below -/
def M_r21_below : Mc Un := mach (tbl [(18, F_r21_Uses), (22, F_r21_Within)]) (tbl []) (tbl []) (tbl []) (tbl [])
def A_r21_below (r : Bool) : List (A Un) := [.c (.s (.bool r))]
def O_r21_below (_r : Bool) : List (Ob Un) := []
def R_r21_below (r : Bool) : RF Un := (A_r21_below r, O_r21_below r)
def N_r21_below : Nat → NS := fun l => (look l []).getD ⟨[], [], [], [], []⟩
def r21_below_fn (t : Term) (cut : Int) : Option (RF Un) := awf M_r21_below N_r21_below (bodyOf Try.f56) (entry Try.f56.ntmps 0 [.d (.agg (enc Ty.term t)), .d (.v (.s (.int .i64 cut)))]) (retF M_r21_below Try.f56.results.toList [.d])
theorem r21_below_in (t : Term) (cut : Int) : r21_below_fn t cut =
 obO (inOK (0 : Int) (Term.ids t).sz)
  (cndO (decide ((↑(r21_Uses (Term.ids t) (0 : Int)).length : Int) > (0 : Int)))
   (obO ((Term.ids t).sz ≤ (1000000 : Nat))
    (some (R_r21_below (r21_Within (Term.ids t) (-9223372036854775808 : Int) cut))))
   (some (R_r21_below (false)))) := by kernel_rfl

def r21_below (t : Term) (cut : Int) : Bool := decide (((usesA t 0).length : Int) > 0) && withinA t (-9223372036854775808) cut
theorem r21_below_spec (t : Term) (cut : Int) (_ht : WS .term t) (_hf : WI cut) (h : t.sz ≤ 1000000) : r21_below_fn t cut = some (R_r21_below (r21_below t cut)) := by
  rw [r21_below_in]
  simp only [Term.ids_eq, r21_Uses, r21_Within]
  rw [obO_pos (show inOK _ _ from ⟨by omega, by omega, h⟩), obO_pos (by omega), cndO_and R_r21_below]
  rfl

def F_r21_below : FnC Un := fun args => match args with
  | [x0, x1] => (dS .term x0).bind fun t => (dI .i64 x1).bind fun cut => some ([t.sz ≤ 1000000], A_r21_below (r21_below t cut), O_r21_below (r21_below t cut))
  | _ => none

theorem ok_r21_below : FnOK 56 F_r21_below := by
  intro args ob rs os h hob
  unfold F_r21_below at h
  split at h
  · simp only [Option.bind_eq_some_iff, Option.some.injEq, Prod.mk.injEq] at h
    obtain ⟨t, e0, cut, e1, rfl, rfl, rfl⟩ := h
    obtain rfl := dS_eq e0
    obtain rfl := dI_eq e1
    exact ⟨fn_contractF (M := M_r21_below) rfl (tbl_ok (l1 := [(18, F_r21_Uses), (22, F_r21_Within)]) (l2 := []) (l3 := []) (l4 := []) (l5 := []) ⟨ok_r21_Uses, ok_r21_Within, trivial⟩ trivial trivial trivial trivial) Try.func56 (by kernel_rfl) N_r21_below 0 [.d] (fun hwf => (r21_below_spec t cut (wfArg hwf (a := .d (.agg (enc Ty.term t))) (List.mem_of_getElem? (i := 0) rfl)) (wfArg hwf (a := .d (.v (.s (.int .i64 cut)))) (List.mem_of_getElem? (i := 1) rfl)) (hob _ (List.mem_of_getElem? (i := 0) rfl)))), hasBody_of Try.func56 (by kernel_rfl) (by kernel_rfl)⟩
  · simp at h

def r21_plain (t : Term) : Bool := plainT t
theorem plainTs_all : ∀ l : List Term, l.all plainT = plainTs l
  | [] => rfl
  | t :: r => by simp only [List.all_cons, plainTs, plainTs_all r]
mutual
def lowerT (cut : Int) : Term → Term
  | .mk op v depth at_ name kids sub type => .mk op v depth (if op = 2 ∧ depth = 0 then IntKind.i64.wrap (at_ - cut) else at_) name (lowerTs cut kids) sub type
def lowerTs (cut : Int) : List Term → List Term
  | [] => []
  | t :: r => lowerT cut t :: lowerTs cut r
end
theorem lowerTs_map (cut : Int) : ∀ l, lowerTs cut l = l.map (lowerT cut)
  | [] => rfl
  | t :: r => by simp only [lowerTs, List.map_cons, lowerTs_map cut r]
theorem lowerT_eq (cut : Int) (t : Term) : lowerT cut t = .mk t.op t.v t.depth (if t.op = 2 ∧ t.depth = 0 then IntKind.i64.wrap (t.at_ - cut) else t.at_) t.name (lowerTs cut t.kids) t.sub t.type := by cases t; simp only [lowerT]; rfl
def r21_lower (t : Term) (cut : Int) : Term := lowerT cut t


def A_r21_plain (r : Bool) : List (A Un) := [.c (.s (.bool r))]
def O_r21_plain (_r : Bool) : List (Ob Un) := []

def Fm_r21_plain (m : Nat) : FnC Un := fun args => match args with
  | [x0] => (dS .term x0).bind fun t => some ([t.ht < m], A_r21_plain (r21_plain t), O_r21_plain (r21_plain t))
  | _ => none

/-! ### tabellionref21.plain -/
def M_r21_plain (m : Nat) : Mc Un := mach (tbl [(55, Fm_r21_plain m)]) (tbl []) (tbl []) (tbl []) (tbl [])
def R_r21_plain (r : Bool) : RF Un := (A_r21_plain r, O_r21_plain r)
def N_r21_plain : Nat → NS := fun l => (look l [(2, { ts := bl 22 14, bs := bl 22 2, nm := [] })]).getD ⟨[], [], [], [], []⟩
def r21_plain_s2 (t : Term) (v0 : Int) : S Un := (st 22 22 88 0 [(1, ax 1), (2, ab false), (3, ai v0)] [(1, bg .term t)] [])
def r21_plain_B2 : Code := sub (bodyOf Try.f55) [1, 0, 1, 2, 2]
def r21_plain_L2 (m : Nat) : S Un → Option (EX Un) := loopF (N_r21_plain 2) (fun s Q => awf (M_r21_plain m) N_r21_plain r21_plain_B2 s Q)
def r21_plain_C2 (m : Nat) : Exit → S Un → Option (RF Un) := ctxF (M_r21_plain m) N_r21_plain (bodyOf Try.f55) [1, 0, 1, 2] (retF (M_r21_plain m) Try.f55.results.toList [.d])
def r21_plain_fn (m : Nat) (t : Term) : Option (RF Un) := awf (M_r21_plain m) N_r21_plain (bodyOf Try.f55) (entry Try.f55.ntmps 0 [.d (.agg (enc Ty.term t))]) (retF (M_r21_plain m) Try.f55.results.toList [.d])
theorem r21_plain_in (m : Nat) (t : Term) : r21_plain_fn m t =
 (r21_plain_L2 m (r21_plain_s2 t (0 : Int))).bind (thenX (r21_plain_C2 m)) := by kernel_rfl
theorem r21_plain_l2 (m : Nat) (t : Term) (v0 : Int) : r21_plain_L2 m (r21_plain_s2 t v0) =
 cndO (decide (v0 < (↑t.kids.length : Int)))
  (obO (0 ≤ v0 ∧ v0 < (↑t.kids.length : Int))
   (obO ((Term.ids (t.kids.getD v0.toNat zeroTerm)).ht < m)
    (cndO (!r21_plain (Term.ids (t.kids.getD v0.toNat zeroTerm)))
     (some (.ret, (r21_plain_s2 t v0)))
     (r21_plain_L2 m (r21_plain_s2 t (IntKind.i64.wrap (v0 + 1)))))))
  (some (.exit 0, (r21_plain_s2 t v0))) := (loopF_eq (N_r21_plain 2) r21_plain_B2 _).trans (by kernel_rfl)
theorem r21_plain_a2_ret (m : Nat) (t : Term) (v0 : Int) : r21_plain_C2 m .ret (r21_plain_s2 t v0) =
 some (R_r21_plain (false)) := by kernel_rfl
theorem r21_plain_a2_x0 (m : Nat) (t : Term) (v0 : Int) : r21_plain_C2 m (.exit 0) (r21_plain_s2 t v0) =
 some (R_r21_plain ((↑t.sub.length : Int) == (0 : Int))) := by kernel_rfl

theorem r21_plain_spec (m : Nat) (t : Term) (ht : WS .term t) (hm : t.ht < m + 1) : r21_plain_fn m t = some (R_r21_plain (r21_plain t)) := by
  rw [r21_plain_in]
  refine (loop_all (L := r21_plain_L2 m) (st := fun i => r21_plain_s2 t i) (fun r => some (R_r21_plain r)) (l := t.kids) (d := zeroTerm) plainT (ht.term_kids).len
    (fun i hi => by
      have := Term.ht_kid (getD_mem (d := zeroTerm) hi)
      rw [r21_plain_l2]
      simp only [cndO_eq, decide_eq_true_eq, Term.ids_eq, r21_plain, Int.toNat_natCast]
      rw [if_pos (by omega), obO_pos (by omega), obO_pos (by omega)]
      cases plainT (t.kids.getD i zeroTerm) <;> simp)
    (by
      rw [r21_plain_l2]
      simp [cndO_eq]) (fun i => r21_plain_a2_ret _ _ _) (r21_plain_a2_x0 _ _ _)).trans ?_
  unfold r21_plain
  rw [plainT_eq, plainTs_all, Bool.and_comm]
  congr 3
  cases t.sub with
  | nil => rfl
  | cons x l => rw [List.isEmpty_cons, beq_eq_false_iff_ne, List.length_cons]; omega

theorem okm_r21_plain (m : Nat) (h_r21_plain : FnOK 55 (Fm_r21_plain m)) : FnOK 55 (Fm_r21_plain (m + 1)) := by
  intro args ob rs os h hob
  unfold Fm_r21_plain at h
  split at h
  · simp only [Option.bind_eq_some_iff, Option.some.injEq, Prod.mk.injEq] at h
    obtain ⟨t, e0, rfl, rfl, rfl⟩ := h
    obtain rfl := dS_eq e0
    exact ⟨fn_contractF (M := (M_r21_plain m)) rfl (tbl_ok (l1 := [(55, Fm_r21_plain m)]) (l2 := []) (l3 := []) (l4 := []) (l5 := []) ⟨h_r21_plain, trivial⟩ trivial trivial trivial trivial) Try.func55 (by kernel_rfl) N_r21_plain 0 [.d] (fun hwf => (r21_plain_spec m t (wfArg hwf (a := .d (.agg (enc Ty.term t))) (List.mem_of_getElem? (i := 0) rfl)) (hob _ (List.mem_of_getElem? (i := 0) rfl)))), hasBody_of Try.func55 (by kernel_rfl) (by kernel_rfl)⟩
  · simp at h


theorem okAll_r21plainG : ∀ m, FnOK 55 (Fm_r21_plain m)
  | 0 => by
    skip
    intro args ob rs os h hob
    unfold Fm_r21_plain at h
    split at h
    · simp only [Option.bind_eq_some_iff, Option.some.injEq, Prod.mk.injEq] at h
      obtain ⟨_, _, rfl, _, _⟩ := h
      exact absurd (hob _ (List.mem_of_getElem? (i := 0) rfl)) (Nat.not_lt_zero _)
    · simp at h
  | m + 1 => by
    have ih := okAll_r21plainG m
    exact okm_r21_plain m ih

def F_r21_plain : FnC Un := fun args => match args with
  | [x0] => (dS .term x0).bind fun t => some ([], A_r21_plain (r21_plain t), O_r21_plain (r21_plain t))
  | _ => none

theorem ok_r21_plain : FnOK 55 F_r21_plain := by
  intro args ob rs os h hob
  unfold F_r21_plain at h
  split at h
  · simp only [Option.bind_eq_some_iff, Option.some.injEq, Prod.mk.injEq] at h
    obtain ⟨t, e0, rfl, rfl, rfl⟩ := h
    refine ((okAll_r21plainG (t.ht + 1))) _ [t.ht < t.ht + 1] _ _ (?_ : Fm_r21_plain (t.ht + 1) _ = some _) ?_
    · unfold Fm_r21_plain
      simp only [e0, Option.bind_some]
    · intro p hp
      simp only [List.mem_cons, List.not_mem_nil, or_false] at hp
      subst hp
      exact Nat.lt_succ_self _
  · simp at h

def A_r21_lower (r : Term) : List (A Un) := [.agg (encC Ty.term r)]
def O_r21_lower (_r : Term) : List (Ob Un) := []

def Fm_r21_lower (m : Nat) : FnC Un := fun args => match args with
  | [x0, x1] => (dS .term x0).bind fun t => (dI .i64 x1).bind fun cut => some ([t.ht < m, t.sz ≤ 1000000], A_r21_lower (r21_lower t cut), O_r21_lower (r21_lower t cut))
  | _ => none

/-! ### tabellionref21.lower -/
def M_r21_lower (m : Nat) : Mc Un := mach (tbl [(58, Fm_r21_lower m)]) (tbl []) (tbl []) (tbl []) (tbl [])
def R_r21_lower (r : Term) : RF Un := (A_r21_lower r, O_r21_lower r)
def N_r21_lower : Nat → NS := fun l => (look l [(5, { ts := bl 41 118, bs := bl 41 20, nm := [(.sl 5, 164)], gb := [2] })]).getD ⟨[], [], [], [], []⟩
def r21_lower_c1 (cut : Int) (b2 : Term) (v0 : Int) := r21_lower (Term.mk (Term.op (b2.kids.getD v0.toNat zeroTerm)) (Term.v (b2.kids.getD v0.toNat zeroTerm)) (Term.depth (b2.kids.getD v0.toNat zeroTerm)) (Term.at_ (b2.kids.getD v0.toNat zeroTerm)) (Term.name (b2.kids.getD v0.toNat zeroTerm)) (Term.kids (b2.kids.getD v0.toNat zeroTerm)) (Term.sub (b2.kids.getD v0.toNat zeroTerm)) (Term.type (b2.kids.getD v0.toNat zeroTerm))) cut
def r21_lower_s5 (cut : Int) (b2 : Term) (v0 : Int) (v1 : List Term) : S Un := (st 41 41 165 0 [(1, ai cut), (2, ax 2), (4, ax 4), (5, ao 164), (6, ai v0)] [(2, bg .term b2), (4, some (false, [C.s (Value.int IntKind.i64 (0 : Int)), C.s (Value.int IntKind.i64 (0 : Int)), C.s (Value.int IntKind.i64 (0 : Int)), C.s (Value.string (ByteArray.mk #[])), C.s (Value.int IntKind.i64 (0 : Int)), C.s (Value.int IntKind.i64 (0 : Int)), C.s (Value.string (ByteArray.mk #[])), C.sl Ty.term [] true, C.sl Ty.rel [] true, C.s (Value.int IntKind.i64 (0 : Int))]))] [(164, some ⟨(0 : Nat), Ty.term, v1, some (0 : Nat), true⟩)])
def r21_lower_B5 : Code := sub (bodyOf Try.f58) [1, 1, 1, 0, 1, 2, 2]
def r21_lower_L5 (m : Nat) : S Un → Option (EX Un) := loopF (N_r21_lower 5) (fun s Q => awf (M_r21_lower m) N_r21_lower r21_lower_B5 s Q)
def r21_lower_C5 (m : Nat) : Exit → S Un → Option (RF Un) := ctxF (M_r21_lower m) N_r21_lower (bodyOf Try.f58) [1, 1, 1, 0, 1, 2] (retF (M_r21_lower m) Try.f58.results.toList [.d])
def r21_lower_fn (m : Nat) (t : Term) (cut : Int) : Option (RF Un) := awf (M_r21_lower m) N_r21_lower (bodyOf Try.f58) (entry Try.f58.ntmps 1 [.d (.agg (enc Ty.term t)), .d (.v (.s (.int .i64 cut)))]) (retF (M_r21_lower m) Try.f58.results.toList [.d])
theorem r21_lower_in (m : Nat) (t : Term) (cut : Int) : r21_lower_fn m t cut =
 cndO (t.op == 2)
  (cndO (t.depth == 0)
   ((r21_lower_L5 m (r21_lower_s5 cut (Term.mk t.op t.v t.depth (IntKind.i64.wrap (t.at_ - cut)) t.name t.kids t.sub t.type) (0 : Int) ([]))).bind (thenX (r21_lower_C5 m)))
   ((r21_lower_L5 m (r21_lower_s5 cut t (0 : Int) ([]))).bind (thenX (r21_lower_C5 m))))
  ((r21_lower_L5 m (r21_lower_s5 cut t (0 : Int) ([]))).bind (thenX (r21_lower_C5 m))) := by kernel_rfl
theorem r21_lower_l5 (m : Nat) (cut : Int) (b2 : Term) (v0 : Int) (v1 : List Term) : r21_lower_L5 m (r21_lower_s5 cut b2 v0 v1) =
 cndO (decide (v0 < (↑b2.kids.length : Int)))
  (obO (0 ≤ v0 ∧ v0 < (↑b2.kids.length : Int))
   (obO ((Term.ids (b2.kids.getD v0.toNat zeroTerm)).ht < m)
    (obO ((Term.ids (b2.kids.getD v0.toNat zeroTerm)).sz ≤ (1000000 : Nat))
     (obO ((v1.length + [(Term.mk (r21_lower_c1 cut b2 v0).op (r21_lower_c1 cut b2 v0).v (r21_lower_c1 cut b2 v0).depth (r21_lower_c1 cut b2 v0).at_ (r21_lower_c1 cut b2 v0).name (r21_lower_c1 cut b2 v0).kids (r21_lower_c1 cut b2 v0).sub (r21_lower_c1 cut b2 v0).type)].length) * (128 : Nat) ≤ roomB)
      (r21_lower_L5 m (r21_lower_s5 cut b2 (IntKind.i64.wrap (v0 + 1)) (v1 ++ [(Term.mk (r21_lower_c1 cut b2 v0).op (r21_lower_c1 cut b2 v0).v (r21_lower_c1 cut b2 v0).depth (r21_lower_c1 cut b2 v0).at_ (r21_lower_c1 cut b2 v0).name (r21_lower_c1 cut b2 v0).kids (r21_lower_c1 cut b2 v0).sub (r21_lower_c1 cut b2 v0).type)])))))))
  (some (.exit 0, (r21_lower_s5 cut b2 v0 v1))) := (loopF_eq (N_r21_lower 5) r21_lower_B5 _).trans (by kernel_rfl)
theorem r21_lower_a5_x0 (m : Nat) (cut : Int) (b2 : Term) (v0 : Int) (v1 : List Term) : r21_lower_C5 m (.exit 0) (r21_lower_s5 cut b2 v0 v1) =
 some (R_r21_lower (Term.mk b2.op b2.v b2.depth b2.at_ b2.name v1 b2.sub b2.type)) := by kernel_rfl

theorem r21_lower_end (m : Nat) (b2 : Term) (cut : Int) (hs : szTs b2.kids ≤ 1000000) (hh : htTs b2.kids < m) :
    (r21_lower_L5 m (r21_lower_s5 cut b2 (0 : Int) ([]))).bind (thenX (r21_lower_C5 m)) = some (R_r21_lower (Term.mk b2.op b2.v b2.depth b2.at_ b2.name (lowerTs cut b2.kids) b2.sub b2.type)) := by
  have hsl := szTs_len b2.kids
  have l5 := (loop_fold (e := .exit 0) (L := r21_lower_L5 m) (st := fun o i => r21_lower_s5 cut b2 i o) (l := b2.kids) (d := zeroTerm) (g := fun o x => o ++ [lowerT cut x]) (fun i o => o.length = i) (by omega)
    (fun o i x hi hx hI => by
      have hil : i < b2.kids.length := by omega
      have hI' : o.length = i := hI
      have hmem : x ∈ b2.kids := by rw [← hx]; exact getD_mem hil
      have hsz := szTs_mem hmem
      have hht := htTs_mem hmem
      refine ⟨by show (o ++ [lowerT cut x]).length = i + 1; rw [List.length_append, List.length_singleton]; omega, ?_⟩
      rw [r21_lower_l5]
      simp only [r21_lower_c1, term_eta, Term.ids_eq, cndO_eq, hi, decide_true, if_true, and_true, Int.toNat_natCast, hx, r21_lower]
      rw [obO_pos (by omega), obO_pos (by omega), obO_pos (by omega), obO_pos (by unfold roomB; rw [List.length_singleton]; omega)])
    (fun o _ => by rw [r21_lower_l5]; simp [cndO_eq]) [] rfl).1
  rw [foldl_snoc, List.nil_append] at l5
  rw [loop_end l5, r21_lower_a5_x0, lowerTs_map]
theorem r21_lower_spec (m : Nat) (t : Term) (cut : Int) (_ht : WS .term t) (_hc : WI cut) (hm : t.ht < m + 1) (h : t.sz ≤ 1000000) : r21_lower_fn m t cut = some (R_r21_lower (r21_lower t cut)) := by
  have hsz := t.sz_eq
  have hk : htTs t.kids < t.ht := by cases t; simp only [Term.ht, Term.kids_mk]; omega
  rw [r21_lower_in, r21_lower_end m t cut (by omega) (by omega), r21_lower_end m _ cut (by rw [Term.kids_mk]; omega) (by rw [Term.kids_mk]; omega)]
  simp only [Term.op_mk, Term.v_mk, Term.depth_mk, Term.at__mk, Term.name_mk, Term.kids_mk, Term.sub_mk, Term.type_mk, cndO_eq, beq_iff_eq]
  unfold r21_lower
  rw [lowerT_eq]
  by_cases e1 : t.op = 2
  · by_cases e2 : t.depth = 0
    · rw [if_pos e1, if_pos e2, if_pos (show t.op = 2 ∧ t.depth = 0 from ⟨e1, e2⟩)]
    · rw [if_pos e1, if_neg e2, if_neg (fun e => e2 e.2)]
  · rw [if_neg e1, if_neg (fun e => e1 e.1)]

theorem okm_r21_lower (m : Nat) (h_r21_lower : FnOK 58 (Fm_r21_lower m)) : FnOK 58 (Fm_r21_lower (m + 1)) := by
  intro args ob rs os h hob
  unfold Fm_r21_lower at h
  split at h
  · simp only [Option.bind_eq_some_iff, Option.some.injEq, Prod.mk.injEq] at h
    obtain ⟨t, e0, cut, e1, rfl, rfl, rfl⟩ := h
    obtain rfl := dS_eq e0
    obtain rfl := dI_eq e1
    exact ⟨fn_contractF (M := (M_r21_lower m)) rfl (tbl_ok (l1 := [(58, Fm_r21_lower m)]) (l2 := []) (l3 := []) (l4 := []) (l5 := []) ⟨h_r21_lower, trivial⟩ trivial trivial trivial trivial) Try.func58 (by kernel_rfl) N_r21_lower 1 [.d] (fun hwf => (r21_lower_spec m t cut (wfArg hwf (a := .d (.agg (enc Ty.term t))) (List.mem_of_getElem? (i := 0) rfl)) (wfArg hwf (a := .d (.v (.s (.int .i64 cut)))) (List.mem_of_getElem? (i := 1) rfl)) (hob _ (List.mem_of_getElem? (i := 0) rfl)) (hob _ (List.mem_of_getElem? (i := 1) rfl)))), hasBody_of Try.func58 (by kernel_rfl) (by kernel_rfl)⟩
  · simp at h


theorem okAll_r21lowerG : ∀ m, FnOK 58 (Fm_r21_lower m)
  | 0 => by
    skip
    intro args ob rs os h hob
    unfold Fm_r21_lower at h
    split at h
    · simp only [Option.bind_eq_some_iff, Option.some.injEq, Prod.mk.injEq] at h
      obtain ⟨_, _, _, _, rfl, _, _⟩ := h
      exact absurd (hob _ (List.mem_of_getElem? (i := 0) rfl)) (Nat.not_lt_zero _)
    · simp at h
  | m + 1 => by
    have ih := okAll_r21lowerG m
    exact okm_r21_lower m ih

def F_r21_lower : FnC Un := fun args => match args with
  | [x0, x1] => (dS .term x0).bind fun t => (dI .i64 x1).bind fun cut => some ([t.sz ≤ 1000000], A_r21_lower (r21_lower t cut), O_r21_lower (r21_lower t cut))
  | _ => none

theorem ok_r21_lower : FnOK 58 F_r21_lower := by
  intro args ob rs os h hob
  unfold F_r21_lower at h
  split at h
  · simp only [Option.bind_eq_some_iff, Option.some.injEq, Prod.mk.injEq] at h
    obtain ⟨t, e0, cut, e1, rfl, rfl, rfl⟩ := h
    refine ((okAll_r21lowerG (t.ht + 1))) _ [t.ht < t.ht + 1, t.sz ≤ 1000000] _ _ (?_ : Fm_r21_lower (t.ht + 1) _ = some _) ?_
    · unfold Fm_r21_lower
      simp only [e0, e1, Option.bind_some]
    · intro p hp
      simp only [List.mem_cons, List.not_mem_nil, or_false] at hp
      rcases hp with rfl | rfl
      · exact Nat.lt_succ_self _
      · exact hob _ (List.mem_of_getElem? (i := 0) rfl)
  · simp at h

/-! ### tabellionref21.Pair -/
def M_r21_Pair : Mc Un := mach (tbl [(55, F_r21_plain), (56, F_r21_below), (57, F_r21_above), (58, F_r21_lower)]) (tbl []) (tbl []) (tbl []) (tbl [])
def A_r21_Pair (r : Term × Term × Bool) : List (A Un) := [.agg (encC Ty.term r.1), .agg (encC Ty.term r.2.1), .c (.s (.bool r.2.2))]
def O_r21_Pair (_r : Term × Term × Bool) : List (Ob Un) := []
def R_r21_Pair (r : Term × Term × Bool) : RF Un := (A_r21_Pair r, O_r21_Pair r)
def N_r21_Pair : Nat → NS := fun l => (look l []).getD ⟨[], [], [], [], []⟩
def r21_Pair_fn (t : Term) (cut : Int) : Option (RF Un) := awf M_r21_Pair N_r21_Pair (bodyOf Try.f24) (entry Try.f24.ntmps 0 [.d (.agg (enc Ty.term t)), .d (.v (.s (.int .i64 cut)))]) (retF M_r21_Pair Try.f24.results.toList [.d, .d, .d])
def r21_Pair_t1 (t : Term) (cut : Int) : Option (RF Un) :=
 obO ((Term.ids (t.kids.getD 1 zeroTerm)).sz ≤ (1000000 : Nat))
  (cndO (r21_below (Term.ids (t.kids.getD 1 zeroTerm)) cut)
   (obO ((Term.ids (t.kids.getD 0 zeroTerm)).sz ≤ (1000000 : Nat))
    (cndO (r21_above (Term.ids (t.kids.getD 0 zeroTerm)) cut)
     (obO ((Term.ids (t.kids.getD 0 zeroTerm)).sz ≤ (1000000 : Nat))
      (some (R_r21_Pair (t.kids.getD 1 zeroTerm, r21_lower (Term.ids (t.kids.getD 0 zeroTerm)) cut, true))))
     (some (R_r21_Pair (zeroTerm, zeroTerm, false)))))
   (some (R_r21_Pair (zeroTerm, zeroTerm, false))))
theorem r21_Pair_in (t : Term) (cut : Int) : r21_Pair_fn t cut =
 cndO (t.op != 11)
  (some (R_r21_Pair (zeroTerm, zeroTerm, false)))
  (cndO ((↑t.kids.length : Int) != (2 : Int))
   (some (R_r21_Pair (zeroTerm, zeroTerm, false)))
   (cndO (!r21_plain (Term.ids t))
    (some (R_r21_Pair (zeroTerm, zeroTerm, false)))
    (obO ((0 : Int) ≤ (0 : Int) ∧ (0 : Int) < (↑t.kids.length : Int))
     (obO ((0 : Int) ≤ (1 : Int) ∧ (1 : Int) < (↑t.kids.length : Int))
      (obO ((Term.ids (t.kids.getD 0 zeroTerm)).sz ≤ (1000000 : Nat))
       (cndO (r21_below (Term.ids (t.kids.getD 0 zeroTerm)) cut)
        (obO ((Term.ids (t.kids.getD 1 zeroTerm)).sz ≤ (1000000 : Nat))
         (cndO (r21_above (Term.ids (t.kids.getD 1 zeroTerm)) cut)
          (obO ((Term.ids (t.kids.getD 1 zeroTerm)).sz ≤ (1000000 : Nat))
           (some (R_r21_Pair (t.kids.getD 0 zeroTerm, r21_lower (Term.ids (t.kids.getD 1 zeroTerm)) cut, true))))
          (r21_Pair_t1 t cut)))
        (r21_Pair_t1 t cut))))))) := by kernel_rfl

def r21_Pair (t : Term) (cut : Int) : Term × Term × Bool :=
  if t.op = 11 ∧ t.kids.length = 2 ∧ plainT t = true then
    (if r21_below (t.kids.getD 0 zeroTerm) cut = true ∧ r21_above (t.kids.getD 1 zeroTerm) cut = true then (t.kids.getD 0 zeroTerm, lowerT cut (t.kids.getD 1 zeroTerm), true)
     else if r21_below (t.kids.getD 1 zeroTerm) cut = true ∧ r21_above (t.kids.getD 0 zeroTerm) cut = true then (t.kids.getD 1 zeroTerm, lowerT cut (t.kids.getD 0 zeroTerm), true) else (zeroTerm, zeroTerm, false))
  else (zeroTerm, zeroTerm, false)
theorem r21_Pair_t1_eq (t : Term) (cut : Int) (h0 : (t.kids.getD 0 zeroTerm).sz ≤ 1000000) (h1 : (t.kids.getD 1 zeroTerm).sz ≤ 1000000) : r21_Pair_t1 t cut = some (R_r21_Pair (if r21_below (t.kids.getD 1 zeroTerm) cut = true ∧ r21_above (t.kids.getD 0 zeroTerm) cut = true then (t.kids.getD 1 zeroTerm, lowerT cut (t.kids.getD 0 zeroTerm), true) else (zeroTerm, zeroTerm, false))) := by
  unfold r21_Pair_t1
  simp only [Term.ids_eq, r21_lower, cndO_eq]
  rw [obO_pos h1, obO_pos h0, obO_pos h0]
  cases r21_below (t.kids.getD 1 zeroTerm) cut <;> cases r21_above (t.kids.getD 0 zeroTerm) cut <;> simp
theorem r21_Pair_spec (t : Term) (cut : Int) (_ht : WS .term t) (_hc : WI cut) (h : t.sz ≤ 1000000) : r21_Pair_fn t cut = some (R_r21_Pair (r21_Pair t cut)) := by
  rw [r21_Pair_in]
  simp only [Term.ids_eq, r21_lower, r21_plain]
  unfold r21_Pair
  simp only [cndO_eq, bne_iff_ne, ne_eq, beq_iff_eq, Bool.not_eq_true']
  by_cases h1 : t.op = 11
  · by_cases h2 : t.kids.length = 2
    · by_cases h3 : plainT t = true
      · have s0 := sz_kidD (t := t) (i := 0) (by omega)
        have s1 := sz_kidD (t := t) (i := 1) (by omega)
        rw [r21_Pair_t1_eq t cut (by omega) (by omega)]
        rw [if_neg (by simpa using h1), if_neg (by omega), if_neg (by rw [h3]; decide), if_pos (show t.op = 11 ∧ t.kids.length = 2 ∧ plainT t = true from ⟨h1, h2, h3⟩), obO_pos (by omega), obO_pos (by omega), obO_pos (by omega), obO_pos (by omega), obO_pos (by omega)]
        cases r21_below (t.kids.getD 0 zeroTerm) cut <;> cases r21_above (t.kids.getD 1 zeroTerm) cut <;> simp
      · rw [if_neg (by simpa using h1), if_neg (by omega), if_pos (by simpa using h3), if_neg (fun e => h3 e.2.2)]
    · rw [if_neg (by simpa using h1), if_pos (by omega), if_neg (fun e => h2 e.2.1)]
  · rw [if_pos (by simpa using h1), if_neg (fun e => h1 e.1)]

def F_r21_Pair : FnC Un := fun args => match args with
  | [x0, x1] => (dS .term x0).bind fun t => (dI .i64 x1).bind fun cut => some ([t.sz ≤ 1000000], A_r21_Pair (r21_Pair t cut), O_r21_Pair (r21_Pair t cut))
  | _ => none

theorem ok_r21_Pair : FnOK 24 F_r21_Pair := by
  intro args ob rs os h hob
  unfold F_r21_Pair at h
  split at h
  · simp only [Option.bind_eq_some_iff, Option.some.injEq, Prod.mk.injEq] at h
    obtain ⟨t, e0, cut, e1, rfl, rfl, rfl⟩ := h
    obtain rfl := dS_eq e0
    obtain rfl := dI_eq e1
    exact ⟨fn_contractF (M := M_r21_Pair) rfl (tbl_ok (l1 := [(55, F_r21_plain), (56, F_r21_below), (57, F_r21_above), (58, F_r21_lower)]) (l2 := []) (l3 := []) (l4 := []) (l5 := []) ⟨ok_r21_plain, ok_r21_below, ok_r21_above, ok_r21_lower, trivial⟩ trivial trivial trivial trivial) Try.func24 (by kernel_rfl) N_r21_Pair 0 [.d, .d, .d] (fun hwf => (r21_Pair_spec t cut (wfArg hwf (a := .d (.agg (enc Ty.term t))) (List.mem_of_getElem? (i := 0) rfl)) (wfArg hwf (a := .d (.v (.s (.int .i64 cut)))) (List.mem_of_getElem? (i := 1) rfl)) (hob _ (List.mem_of_getElem? (i := 0) rfl)))), hasBody_of Try.func24 (by kernel_rfl) (by kernel_rfl)⟩
  · simp at h


end
end Go.Proofs.Ytaepcbdcjbfgjaa.B
