/- Functions: ref21i. (Printed by wip/tools/mkfn.py out of wip/src/ref21i.src.) -/
import Derived.Test.YtaepcbdcjbfgjaaBAwf
import Derived.Test.YtaepcbdcjbfgjaaSspec
import Derived.Test.YtaepcbdcjbfgjaaSterms
import Derived.Test.YtaepcbdcjbfgjaaStermsz
import Derived.Test.YtaepcbdcjbfgjaaSconjspec
import Derived.Test.YtaepcbdcjbfgjaaSsorted
import Derived.Test.YtaepcbdcjbfgjaaSconjU
import Derived.Test.YtaepcbdcjbfgjaaSconj2
import Derived.Test.YtaepcbdcjbfgjaaSconj3
import Derived.Test.YtaepcbdcjbfgjaaSconj4
import Derived.Test.YtaepcbdcjbfgjaaSsame
import Derived.Test.YtaepcbdcjbfgjaaSsame2
import Derived.Test.YtaepcbdcjbfgjaaSsame3
import Derived.Test.YtaepcbdcjbfgjaaSsame4
import Derived.Test.YtaepcbdcjbfgjaaSsame5
import Derived.Test.YtaepcbdcjbfgjaaSref03
import Derived.Test.YtaepcbdcjbfgjaaSref15
import Derived.Test.YtaepcbdcjbfgjaaSref15b
import Derived.Test.YtaepcbdcjbfgjaaSref21
namespace Go.Proofs.Ytaepcbdcjbfgjaa.B
open Go Go.RowKit
set_option maxRecDepth 100000
noncomputable section
attribute [local irreducible] awp ctxK itersK iterK retQ retGQ awf ctxF loopF

def inOK (depth : Int) (n : Nat) : Prop := -1000000 ≤ depth ∧ depth + n ≤ 10000000 ∧ n ≤ 1000000
def r21_inRel (r : Rel) (depth : Int) : List Int := inR depth r
def r21_in (t : Term) (depth : Int) : List Int := inT depth t
theorem inTs_append (d : Int) : ∀ (a b : List Term), inTs d (a ++ b) = inTs d a ++ inTs d b
  | [], b => by simp [inTs]
  | x :: a, b => by simp only [List.cons_append, inTs, inTs_append d a b, List.append_assoc]
theorem inTs_agg (d : Int) : ∀ l : List Agg, inTs d (aggTs l) = inAs d l
  | [] => rfl
  | x :: l => by simp only [aggTs, inAs, inTs_append, inTs_agg d l, inA_eq]

def A_r21_inRel (r : List Int) : List (A Un) := [.c (.ob 0 0)]
def O_r21_inRel (r : List Int) : List (Ob Un) := [⟨0, Ty.int, r, none, true⟩]

def Fm_r21_inRel (m : Nat) : FnC Un := fun args => match args with
  | [x0, x1] => (dS .rel x0).bind fun r => (dI .i64 x1).bind fun depth => some ([r.ht < m, inOK depth r.sz], A_r21_inRel (r21_inRel r depth), O_r21_inRel (r21_inRel r depth))
  | _ => none

def A_r21_in (r : List Int) : List (A Un) := [.c (.ob 0 0)]
def O_r21_in (r : List Int) : List (Ob Un) := [⟨0, Ty.int, r, none, true⟩]

def Fm_r21_in (m : Nat) : FnC Un := fun args => match args with
  | [x0, x1] => (dS .term x0).bind fun t => (dI .i64 x1).bind fun depth => some ([t.ht < m, inOK depth t.sz], A_r21_in (r21_in t depth), O_r21_in (r21_in t depth))
  | _ => none

/-! ### tabellionref21.inRel -/
def M_r21_inRel (m : Nat) : Mc Un := mach (tbl [(101, F_r21_Terms), (45, Fm_r21_in m), (79, Fm_r21_inRel m)]) (tbl []) (tbl []) (tbl []) (tbl [])
def R_r21_inRel (r : List Int) : RF Un := (A_r21_inRel r, O_r21_inRel r)
def N_r21_inRel : Nat → NS := fun l => (look l [(4, { ts := bl 43 230, bs := bl 43 4, nm := [(.sl 5, 172), (.sl 6, 173)] }), (8, { ts := bl 43 294, bs := bl 43 4, nm := [(.sl 5, 174)] })]).getD ⟨[], [], [], [], []⟩
def r21_inRel_c1 (r : Rel) := r21_Terms (Rel.mk r.op r.table r.cols r.kids r.terms r.aggs r.keys r.limit r.skip r.all r.rows)
def r21_inRel_s4 (r : Rel) (depth : Int) (v0 : Int) (v1 : List Int) : S Un := (st 43 43 175 0 [(1, ai depth), (2, ax 2), (5, ao 172), (6, ao 173), (7, ai v0)] [(2, bg .rel r)] [(172, some ⟨(0 : Nat), Ty.int, v1, some (0 : Nat), true⟩), (173, some ⟨(0 : Nat), Ty.term, r21_Terms (Rel.ids r), none, true⟩)])
def r21_inRel_s8 (r : Rel) (depth : Int) (v1 : List Int) (v2 : Int) : S Un := (st 43 43 175 0 [(1, ai depth), (2, ax 2), (5, ao 174), (8, ai v2)] [(2, bg .rel r)] [(174, some ⟨(0 : Nat), Ty.int, v1, some (0 : Nat), true⟩)])
def r21_inRel_B4 : Code := sub (bodyOf Try.f79) [1, 1, 1, 0, 1, 2, 2]
def r21_inRel_L4 (m : Nat) : S Un → Option (EX Un) := loopF (N_r21_inRel 4) (fun s Q => awf (M_r21_inRel m) N_r21_inRel r21_inRel_B4 s Q)
def r21_inRel_B8 : Code := sub (bodyOf Try.f79) [1, 1, 1, 1, 0, 1, 2, 2]
def r21_inRel_L8 (m : Nat) : S Un → Option (EX Un) := loopF (N_r21_inRel 8) (fun s Q => awf (M_r21_inRel m) N_r21_inRel r21_inRel_B8 s Q)
def r21_inRel_C4 (m : Nat) : Exit → S Un → Option (RF Un) := ctxF (M_r21_inRel m) N_r21_inRel (bodyOf Try.f79) [1, 1, 1, 0, 1, 2] (retF (M_r21_inRel m) Try.f79.results.toList [.o])
def r21_inRel_C8 (m : Nat) : Exit → S Un → Option (RF Un) := ctxF (M_r21_inRel m) N_r21_inRel (bodyOf Try.f79) [1, 1, 1, 1, 0, 1, 2] (retF (M_r21_inRel m) Try.f79.results.toList [.o])
def r21_inRel_fn (m : Nat) (r : Rel) (depth : Int) : Option (RF Un) := awf (M_r21_inRel m) N_r21_inRel (bodyOf Try.f79) (entry Try.f79.ntmps 3 [.d (.agg (enc Ty.rel r)), .d (.v (.s (.int .i64 depth)))]) (retF (M_r21_inRel m) Try.f79.results.toList [.o])
theorem r21_inRel_in (m : Nat) (r : Rel) (depth : Int) : r21_inRel_fn m r depth =
 obO ((Rel.ids r).sz ≤ (1000000 : Nat))
  ((r21_inRel_L4 m (r21_inRel_s4 r depth (0 : Int) ([]))).bind (thenX (r21_inRel_C4 m))) := by kernel_rfl
theorem r21_inRel_l4 (m : Nat) (r : Rel) (depth : Int) (v0 : Int) (v1 : List Int) : r21_inRel_L4 m (r21_inRel_s4 r depth v0 v1) =
 cndO (decide (v0 < (↑(r21_inRel_c1 r).length : Int)))
  (obO (0 ≤ v0 ∧ v0 < (↑(r21_inRel_c1 r).length : Int))
   (obO ((Term.ids ((r21_inRel_c1 r).getD v0.toNat zeroTerm)).ht < m)
    (obO (inOK depth (Term.ids ((r21_inRel_c1 r).getD v0.toNat zeroTerm)).sz)
     (obO ((v1.length + (r21_in (Term.ids ((r21_inRel_c1 r).getD v0.toNat zeroTerm)) depth).length) * (8 : Nat) ≤ roomB)
      (r21_inRel_L4 m (r21_inRel_s4 r depth (IntKind.i64.wrap (v0 + 1)) (v1 ++ r21_in (Term.ids ((r21_inRel_c1 r).getD v0.toNat zeroTerm)) depth)))))))
  (some (.exit 0, (r21_inRel_s4 r depth v0 v1))) := (loopF_eq (N_r21_inRel 4) r21_inRel_B4 _).trans (by kernel_rfl)
theorem r21_inRel_a4_x0 (m : Nat) (r : Rel) (depth : Int) (v0 : Int) (v1 : List Int) : r21_inRel_C4 m (.exit 0) (r21_inRel_s4 r depth v0 v1) =
 (r21_inRel_L8 m (r21_inRel_s8 r depth v1 (0 : Int))).bind (thenX (r21_inRel_C8 m)) := by kernel_rfl
theorem r21_inRel_l8 (m : Nat) (r : Rel) (depth : Int) (v1 : List Int) (v2 : Int) : r21_inRel_L8 m (r21_inRel_s8 r depth v1 v2) =
 cndO (decide (v2 < (↑r.kids.length : Int)))
  (obO (0 ≤ v2 ∧ v2 < (↑r.kids.length : Int))
   (obO ((Rel.ids (r.kids.getD v2.toNat zeroRel)).ht < m)
    (obO (inOK depth (Rel.ids (r.kids.getD v2.toNat zeroRel)).sz)
     (obO ((v1.length + (r21_inRel (Rel.ids (r.kids.getD v2.toNat zeroRel)) depth).length) * (8 : Nat) ≤ roomB)
      (r21_inRel_L8 m (r21_inRel_s8 r depth (v1 ++ r21_inRel (Rel.ids (r.kids.getD v2.toNat zeroRel)) depth) (IntKind.i64.wrap (v2 + 1))))))))
  (some (.exit 2, (r21_inRel_s8 r depth v1 v2))) := (loopF_eq (N_r21_inRel 8) r21_inRel_B8 _).trans (by kernel_rfl)
theorem r21_inRel_a8_x2 (m : Nat) (r : Rel) (depth : Int) (v1 : List Int) (v2 : Int) : r21_inRel_C8 m (.exit 2) (r21_inRel_s8 r depth v1 v2) =
 some (R_r21_inRel (v1)) := by kernel_rfl

theorem r21_inRel_spec (m : Nat) (r : Rel) (depth : Int) (hr : WS .rel r) (_hd : WI depth) (hm : r.ht < m + 1) (h : inOK depth r.sz) : r21_inRel_fn m r depth = some (R_r21_inRel (r21_inRel r depth)) := by
  obtain ⟨h1, h2, h3⟩ := h
  have hsz := r.sz_eq
  have hk : htTs r.terms < r.ht ∧ htAs r.aggs < r.ht ∧ htRs r.kids < r.ht := by cases r; simp only [Rel.ht, Rel.kids_mk, Rel.terms_mk, Rel.aggs_mk]; omega
  have hTs : szTs (r21_Terms r) ≤ szTs r.terms + szAs r.aggs := by unfold r21_Terms; rw [szTs_append]; have := aggTs_sz r.aggs; omega
  have hTh : htTs (r21_Terms r) < r.ht := by unfold r21_Terms; rw [htTs_append]; have := aggTs_ht r.aggs; omega
  have hTl := szTs_len (r21_Terms r)
  have htl := inTs_len depth (r21_Terms r)
  have l4 := (loop_fold (e := .exit 0) (L := r21_inRel_L4 m) (st := fun o i => r21_inRel_s4 r depth i o) (l := r21_Terms r) (d := zeroTerm) (g := fun o x => o ++ inT depth x) (fun i o => o.length + szTs ((r21_Terms r).drop i) ≤ 1000000) (by omega)
    (fun o i x hi hx hI => by
      have hil : i < (r21_Terms r).length := by omega
      have hd := drop_getD (d := zeroTerm) hil
      have hI' : o.length + szTs ((r21_Terms r).drop i) ≤ 1000000 := hI
      have hmem : x ∈ r21_Terms r := by rw [← hx]; exact getD_mem hil
      have hsz := szTs_mem hmem
      have hht := htTs_mem hmem
      have hlen := inT_len depth x
      rw [hd, hx] at hI'
      simp only [szTs] at hI'
      refine ⟨by show (o ++ inT depth x).length + szTs ((r21_Terms r).drop (i + 1)) ≤ 1000000; rw [List.length_append]; omega, ?_⟩
      rw [r21_inRel_l4]
      simp only [r21_inRel_c1, rel_eta, Term.ids_eq, cndO_eq, hi, decide_true, if_true, and_true, Int.toNat_natCast, hx, r21_in]
      rw [obO_pos (by omega), obO_pos (by omega), obO_pos (show inOK _ _ from ⟨h1, by omega, by omega⟩), obO_pos (by unfold roomB; omega)])
    (fun o _ => by rw [r21_inRel_l4]; simp [cndO_eq, r21_inRel_c1, rel_eta]) [] (by show 0 + szTs ((r21_Terms r).drop 0) ≤ 1000000; rw [List.drop_zero]; omega)).1
  rw [inTs_fold, List.nil_append] at l4
  have l8 := (loop_fold (e := .exit 2) (L := r21_inRel_L8 m) (st := fun o i => r21_inRel_s8 r depth o i) (l := r.kids) (d := zeroRel) (g := fun o x => o ++ inR depth x) (fun i o => o.length + szRs (r.kids.drop i) ≤ 1000000) (hr.rel_kids).len
    (fun o i x hi hx hI => by
      have hil : i < r.kids.length := by omega
      have hd := drop_getD (d := zeroRel) hil
      have hI' : o.length + szRs (r.kids.drop i) ≤ 1000000 := hI
      have hmem : x ∈ r.kids := by rw [← hx]; exact getD_mem hil
      have hsz := szRs_mem hmem
      have hht := htRs_mem hmem
      have hlen := inR_len depth x
      rw [hd, hx] at hI'
      simp only [szRs] at hI'
      refine ⟨by show (o ++ inR depth x).length + szRs (r.kids.drop (i + 1)) ≤ 1000000; rw [List.length_append]; omega, ?_⟩
      rw [r21_inRel_l8]
      simp only [Rel.ids_eq, cndO_eq, hi, decide_true, if_true, and_true, Int.toNat_natCast, hx, r21_inRel]
      rw [obO_pos (by omega), obO_pos (by omega), obO_pos (show inOK _ _ from ⟨h1, by omega, by omega⟩), obO_pos (by unfold roomB; omega)])
    (fun o _ => by rw [r21_inRel_l8]; simp [cndO_eq]) (inTs depth (r21_Terms r)) (by show (inTs depth (r21_Terms r)).length + szRs (r.kids.drop 0) ≤ 1000000; rw [List.drop_zero]; omega)).1
  rw [inRs_fold] at l8
  rw [r21_inRel_in, Rel.ids_eq, obO_pos (by omega), loop_end l4, r21_inRel_a4_x0, loop_end l8, r21_inRel_a8_x2]
  unfold r21_inRel
  rw [inR_eq, r21_Terms, inTs_append, inTs_agg]

theorem okm_r21_inRel (m : Nat) (h_r21_inRel : FnOK 79 (Fm_r21_inRel m)) (h_r21_in : FnOK 45 (Fm_r21_in m)) : FnOK 79 (Fm_r21_inRel (m + 1)) := by
  intro args ob rs os h hob
  unfold Fm_r21_inRel at h
  split at h
  · simp only [Option.bind_eq_some_iff, Option.some.injEq, Prod.mk.injEq] at h
    obtain ⟨r, e0, depth, e1, rfl, rfl, rfl⟩ := h
    obtain rfl := dS_eq e0
    obtain rfl := dI_eq e1
    exact ⟨fn_contractF (M := (M_r21_inRel m)) rfl (tbl_ok (l1 := [(101, F_r21_Terms), (45, Fm_r21_in m), (79, Fm_r21_inRel m)]) (l2 := []) (l3 := []) (l4 := []) (l5 := []) ⟨ok_r21_Terms, h_r21_in, h_r21_inRel, trivial⟩ trivial trivial trivial trivial) Try.func79 (by kernel_rfl) N_r21_inRel 3 [.o] (fun hwf => (r21_inRel_spec m r depth (wfArg hwf (a := .d (.agg (enc Ty.rel r))) (List.mem_of_getElem? (i := 0) rfl)) (wfArg hwf (a := .d (.v (.s (.int .i64 depth)))) (List.mem_of_getElem? (i := 1) rfl)) (hob _ (List.mem_of_getElem? (i := 0) rfl)) (hob _ (List.mem_of_getElem? (i := 1) rfl)))), hasBody_of Try.func79 (by kernel_rfl) (by kernel_rfl)⟩
  · simp at h


/-! ### tabellionref21.in -/
def M_r21_in (m : Nat) : Mc Un := mach (tbl [(45, Fm_r21_in m), (79, Fm_r21_inRel m)]) (tbl []) (tbl []) (tbl []) (tbl [])
def R_r21_in (r : List Int) : RF Un := (A_r21_in r, O_r21_in r)
def N_r21_in : Nat → NS := fun l => (look l [(5, { ts := bl 57 102, bs := bl 57 4, nm := [(.sl 5, 228)] }), (9, { ts := bl 57 166, bs := bl 57 4, nm := [(.sl 5, 229)] })]).getD ⟨[], [], [], [], []⟩
def r21_in_s5 (t : Term) (depth : Int) (v0 : List Int) (v1 : Int) : S Un := (st 57 57 230 0 [(1, ai depth), (2, ax 2), (5, ao 228), (6, ai v1)] [(2, bg .term t)] [(228, some ⟨(0 : Nat), Ty.int, v0, some (0 : Nat), true⟩)])
def r21_in_s9 (t : Term) (depth : Int) (v0 : List Int) (v2 : Int) : S Un := (st 57 57 230 0 [(1, ai depth), (2, ax 2), (5, ao 229), (7, ai v2)] [(2, bg .term t)] [(229, some ⟨(0 : Nat), Ty.int, v0, some (0 : Nat), true⟩)])
def r21_in_B5 : Code := sub (bodyOf Try.f45) [1, 1, 1, 0, 1, 2, 2]
def r21_in_L5 (m : Nat) : S Un → Option (EX Un) := loopF (N_r21_in 5) (fun s Q => awf (M_r21_in m) N_r21_in r21_in_B5 s Q)
def r21_in_B9 : Code := sub (bodyOf Try.f45) [1, 1, 1, 1, 0, 1, 2, 2]
def r21_in_L9 (m : Nat) : S Un → Option (EX Un) := loopF (N_r21_in 9) (fun s Q => awf (M_r21_in m) N_r21_in r21_in_B9 s Q)
def r21_in_C5 (m : Nat) : Exit → S Un → Option (RF Un) := ctxF (M_r21_in m) N_r21_in (bodyOf Try.f45) [1, 1, 1, 0, 1, 2] (retF (M_r21_in m) Try.f45.results.toList [.o])
def r21_in_C9 (m : Nat) : Exit → S Un → Option (RF Un) := ctxF (M_r21_in m) N_r21_in (bodyOf Try.f45) [1, 1, 1, 1, 0, 1, 2] (retF (M_r21_in m) Try.f45.results.toList [.o])
def r21_in_fn (m : Nat) (t : Term) (depth : Int) : Option (RF Un) := awf (M_r21_in m) N_r21_in (bodyOf Try.f45) (entry Try.f45.ntmps 2 [.d (.agg (enc Ty.term t)), .d (.v (.s (.int .i64 depth)))]) (retF (M_r21_in m) Try.f45.results.toList [.o])
theorem r21_in_in (m : Nat) (t : Term) (depth : Int) : r21_in_fn m t depth =
 cndO (t.op == 2)
  (cndO (t.depth == depth)
   (obO ((0 + [t.at_].length) * (8 : Nat) ≤ roomB)
    ((r21_in_L5 m (r21_in_s5 t depth ([t.at_]) (0 : Int))).bind (thenX (r21_in_C5 m))))
   ((r21_in_L5 m (r21_in_s5 t depth ([]) (0 : Int))).bind (thenX (r21_in_C5 m))))
  ((r21_in_L5 m (r21_in_s5 t depth ([]) (0 : Int))).bind (thenX (r21_in_C5 m))) := by kernel_rfl
theorem r21_in_l5 (m : Nat) (t : Term) (depth : Int) (v0 : List Int) (v1 : Int) : r21_in_L5 m (r21_in_s5 t depth v0 v1) =
 cndO (decide (v1 < (↑t.kids.length : Int)))
  (obO (0 ≤ v1 ∧ v1 < (↑t.kids.length : Int))
   (obO ((Term.ids (t.kids.getD v1.toNat zeroTerm)).ht < m)
    (obO (inOK depth (Term.ids (t.kids.getD v1.toNat zeroTerm)).sz)
     (obO ((v0.length + (r21_in (Term.ids (t.kids.getD v1.toNat zeroTerm)) depth).length) * (8 : Nat) ≤ roomB)
      (r21_in_L5 m (r21_in_s5 t depth (v0 ++ r21_in (Term.ids (t.kids.getD v1.toNat zeroTerm)) depth) (IntKind.i64.wrap (v1 + 1))))))))
  (some (.exit 0, (r21_in_s5 t depth v0 v1))) := (loopF_eq (N_r21_in 5) r21_in_B5 _).trans (by kernel_rfl)
theorem r21_in_a5_x0 (m : Nat) (t : Term) (depth : Int) (v0 : List Int) (v1 : Int) : r21_in_C5 m (.exit 0) (r21_in_s5 t depth v0 v1) =
 (r21_in_L9 m (r21_in_s9 t depth v0 (0 : Int))).bind (thenX (r21_in_C9 m)) := by kernel_rfl
theorem r21_in_l9 (m : Nat) (t : Term) (depth : Int) (v0 : List Int) (v2 : Int) : r21_in_L9 m (r21_in_s9 t depth v0 v2) =
 cndO (decide (v2 < (↑t.sub.length : Int)))
  (obO (0 ≤ v2 ∧ v2 < (↑t.sub.length : Int))
   (obO ((Rel.ids (t.sub.getD v2.toNat zeroRel)).ht < m)
    (obO (inOK (IntKind.i64.wrap (depth + 1)) (Rel.ids (t.sub.getD v2.toNat zeroRel)).sz)
     (obO ((v0.length + (r21_inRel (Rel.ids (t.sub.getD v2.toNat zeroRel)) (IntKind.i64.wrap (depth + 1))).length) * (8 : Nat) ≤ roomB)
      (r21_in_L9 m (r21_in_s9 t depth (v0 ++ r21_inRel (Rel.ids (t.sub.getD v2.toNat zeroRel)) (IntKind.i64.wrap (depth + 1))) (IntKind.i64.wrap (v2 + 1))))))))
  (some (.exit 2, (r21_in_s9 t depth v0 v2))) := (loopF_eq (N_r21_in 9) r21_in_B9 _).trans (by kernel_rfl)
theorem r21_in_a9_x2 (m : Nat) (t : Term) (depth : Int) (v0 : List Int) (v2 : Int) : r21_in_C9 m (.exit 2) (r21_in_s9 t depth v0 v2) =
 some (R_r21_in (v0)) := by kernel_rfl

theorem r21_in_spec (m : Nat) (t : Term) (depth : Int) (ht : WS .term t) (_hd : WI depth) (hm : t.ht < m + 1) (h : inOK depth t.sz) : r21_in_fn m t depth = some (R_r21_in (r21_in t depth)) := by
  obtain ⟨h1, h2, h3⟩ := h
  have hsz := t.sz_eq
  have hk : htTs t.kids < t.ht ∧ htRs t.sub < t.ht := by cases t; simp only [Term.ht, Term.kids_mk, Term.sub_mk]; omega
  have hkl := inTs_len depth t.kids
  have hsl := szRs_len t.sub
  have hw : IntKind.i64.wrap (depth + 1) = depth + 1 := wrap_id (by omega)
  have key : ∀ o0 : List Int, o0.length ≤ 1 → (r21_in_L5 m (r21_in_s5 t depth o0 (0 : Int))).bind (thenX (r21_in_C5 m)) = some (R_r21_in (o0 ++ inTs depth t.kids ++ inRs (depth + 1) t.sub)) := by
    intro o0 ho
    have l5 := (loop_fold (e := .exit 0) (L := r21_in_L5 m) (st := fun o i => r21_in_s5 t depth o i) (l := t.kids) (d := zeroTerm) (g := fun o x => o ++ inT depth x) (fun i o => o.length + szTs (t.kids.drop i) ≤ 1000000) (ht.term_kids).len
      (fun o i x hi hx hI => by
        have hil : i < t.kids.length := by omega
        have hd := drop_getD (d := zeroTerm) hil
        have hI' : o.length + szTs (t.kids.drop i) ≤ 1000000 := hI
        have hmem : x ∈ t.kids := by rw [← hx]; exact getD_mem hil
        have hsz := szTs_mem hmem
        have hht := htTs_mem hmem
        have hlen := inT_len depth x
        rw [hd, hx] at hI'
        simp only [szTs] at hI'
        refine ⟨by show (o ++ inT depth x).length + szTs (t.kids.drop (i + 1)) ≤ 1000000; rw [List.length_append]; omega, ?_⟩
        rw [r21_in_l5]
        simp only [Term.ids_eq, cndO_eq, hi, decide_true, if_true, and_true, Int.toNat_natCast, hx, r21_in]
        rw [obO_pos (by omega), obO_pos (by omega), obO_pos (show inOK _ _ from ⟨h1, by omega, by omega⟩), obO_pos (by unfold roomB; omega)])
      (fun o _ => by rw [r21_in_l5]; simp [cndO_eq]) o0 (by show o0.length + szTs (t.kids.drop 0) ≤ 1000000; rw [List.drop_zero]; omega)).1
    rw [inTs_fold] at l5
    have l9 := (loop_fold (e := .exit 2) (L := r21_in_L9 m) (st := fun o i => r21_in_s9 t depth o i) (l := t.sub) (d := zeroRel) (g := fun o x => o ++ inR (depth + 1) x) (fun i o => o.length + szRs (t.sub.drop i) ≤ 1000000) (by omega)
      (fun o i x hi hx hI => by
        have hil : i < t.sub.length := by omega
        have hd := drop_getD (d := zeroRel) hil
        have hI' : o.length + szRs (t.sub.drop i) ≤ 1000000 := hI
        have hmem : x ∈ t.sub := by rw [← hx]; exact getD_mem hil
        have hsz := szRs_mem hmem
        have hht := htRs_mem hmem
        have hlen := inR_len (depth + 1) x
        rw [hd, hx] at hI'
        simp only [szRs] at hI'
        refine ⟨by show (o ++ inR (depth + 1) x).length + szRs (t.sub.drop (i + 1)) ≤ 1000000; rw [List.length_append]; omega, ?_⟩
        rw [r21_in_l9]
        simp only [Rel.ids_eq, cndO_eq, hi, decide_true, if_true, and_true, Int.toNat_natCast, hx, r21_inRel, hw]
        rw [obO_pos (by omega), obO_pos (by omega), obO_pos (show inOK _ _ from ⟨by omega, by omega, by omega⟩), obO_pos (by unfold roomB; omega)])
      (fun o _ => by rw [r21_in_l9]; simp [cndO_eq]) (o0 ++ inTs depth t.kids) (by show (o0 ++ inTs depth t.kids).length + szRs (t.sub.drop 0) ≤ 1000000; rw [List.drop_zero, List.length_append]; omega)).1
    rw [inRs_fold] at l9
    rw [loop_end l5, r21_in_a5_x0, loop_end l9, r21_in_a9_x2]
  rw [r21_in_in]
  simp only [cndO_eq, beq_iff_eq]
  unfold r21_in
  rw [inT_eq]
  by_cases e1 : t.op = 2
  · by_cases e2 : t.depth = depth
    · rw [if_pos e1, if_pos e2, if_pos (show t.op = 2 ∧ t.depth = depth from ⟨e1, e2⟩), obO_pos (by unfold roomB; simp), key _ (by simp)]
    · rw [if_pos e1, if_neg e2, if_neg (fun e => e2 e.2), key _ (by simp)]
  · rw [if_neg e1, if_neg (fun e => e1 e.1), key _ (by simp)]

theorem okm_r21_in (m : Nat) (h_r21_inRel : FnOK 79 (Fm_r21_inRel m)) (h_r21_in : FnOK 45 (Fm_r21_in m)) : FnOK 45 (Fm_r21_in (m + 1)) := by
  intro args ob rs os h hob
  unfold Fm_r21_in at h
  split at h
  · simp only [Option.bind_eq_some_iff, Option.some.injEq, Prod.mk.injEq] at h
    obtain ⟨t, e0, depth, e1, rfl, rfl, rfl⟩ := h
    obtain rfl := dS_eq e0
    obtain rfl := dI_eq e1
    exact ⟨fn_contractF (M := (M_r21_in m)) rfl (tbl_ok (l1 := [(45, Fm_r21_in m), (79, Fm_r21_inRel m)]) (l2 := []) (l3 := []) (l4 := []) (l5 := []) ⟨h_r21_in, h_r21_inRel, trivial⟩ trivial trivial trivial trivial) Try.func45 (by kernel_rfl) N_r21_in 2 [.o] (fun hwf => (r21_in_spec m t depth (wfArg hwf (a := .d (.agg (enc Ty.term t))) (List.mem_of_getElem? (i := 0) rfl)) (wfArg hwf (a := .d (.v (.s (.int .i64 depth)))) (List.mem_of_getElem? (i := 1) rfl)) (hob _ (List.mem_of_getElem? (i := 0) rfl)) (hob _ (List.mem_of_getElem? (i := 1) rfl)))), hasBody_of Try.func45 (by kernel_rfl) (by kernel_rfl)⟩
  · simp at h


theorem okAll_r21inG : ∀ m, FnOK 79 (Fm_r21_inRel m) ∧ FnOK 45 (Fm_r21_in m)
  | 0 => by
    refine ⟨?_, ?_⟩
    · intro args ob rs os h hob
      unfold Fm_r21_inRel at h
      split at h
      · simp only [Option.bind_eq_some_iff, Option.some.injEq, Prod.mk.injEq] at h
        obtain ⟨_, _, _, _, rfl, _, _⟩ := h
        exact absurd (hob _ (List.mem_of_getElem? (i := 0) rfl)) (Nat.not_lt_zero _)
      · simp at h
    · intro args ob rs os h hob
      unfold Fm_r21_in at h
      split at h
      · simp only [Option.bind_eq_some_iff, Option.some.injEq, Prod.mk.injEq] at h
        obtain ⟨_, _, _, _, rfl, _, _⟩ := h
        exact absurd (hob _ (List.mem_of_getElem? (i := 0) rfl)) (Nat.not_lt_zero _)
      · simp at h
  | m + 1 => by
    have ih := okAll_r21inG m
    exact ⟨okm_r21_inRel m ih.1 ih.2, okm_r21_in m ih.1 ih.2⟩

def F_r21_inRel : FnC Un := fun args => match args with
  | [x0, x1] => (dS .rel x0).bind fun r => (dI .i64 x1).bind fun depth => some ([inOK depth r.sz], A_r21_inRel (r21_inRel r depth), O_r21_inRel (r21_inRel r depth))
  | _ => none

theorem ok_r21_inRel : FnOK 79 F_r21_inRel := by
  intro args ob rs os h hob
  unfold F_r21_inRel at h
  split at h
  · simp only [Option.bind_eq_some_iff, Option.some.injEq, Prod.mk.injEq] at h
    obtain ⟨r, e0, depth, e1, rfl, rfl, rfl⟩ := h
    refine ((okAll_r21inG (r.ht + 1)).1) _ [r.ht < r.ht + 1, inOK depth r.sz] _ _ (?_ : Fm_r21_inRel (r.ht + 1) _ = some _) ?_
    · unfold Fm_r21_inRel
      simp only [e0, e1, Option.bind_some]
    · intro p hp
      simp only [List.mem_cons, List.not_mem_nil, or_false] at hp
      rcases hp with rfl | rfl
      · exact Nat.lt_succ_self _
      · exact hob _ (List.mem_of_getElem? (i := 0) rfl)
  · simp at h

def F_r21_in : FnC Un := fun args => match args with
  | [x0, x1] => (dS .term x0).bind fun t => (dI .i64 x1).bind fun depth => some ([inOK depth t.sz], A_r21_in (r21_in t depth), O_r21_in (r21_in t depth))
  | _ => none

theorem ok_r21_in : FnOK 45 F_r21_in := by
  intro args ob rs os h hob
  unfold F_r21_in at h
  split at h
  · simp only [Option.bind_eq_some_iff, Option.some.injEq, Prod.mk.injEq] at h
    obtain ⟨t, e0, depth, e1, rfl, rfl, rfl⟩ := h
    refine ((okAll_r21inG (t.ht + 1)).2) _ [t.ht < t.ht + 1, inOK depth t.sz] _ _ (?_ : Fm_r21_in (t.ht + 1) _ = some _) ?_
    · unfold Fm_r21_in
      simp only [e0, e1, Option.bind_some]
    · intro p hp
      simp only [List.mem_cons, List.not_mem_nil, or_false] at hp
      rcases hp with rfl | rfl
      · exact Nat.lt_succ_self _
      · exact hob _ (List.mem_of_getElem? (i := 0) rfl)
  · simp at h

/-! ### tabellionref21.Uses -/
def M_r21_Uses : Mc Un := mach (tbl [(45, F_r21_in)]) (tbl []) (tbl []) (tbl []) (tbl [])
def A_r21_Uses (r : List Int) : List (A Un) := [.c (.ob 0 0)]
def O_r21_Uses (r : List Int) : List (Ob Un) := [⟨0, Ty.int, r, none, true⟩]
def R_r21_Uses (r : List Int) : RF Un := (A_r21_Uses r, O_r21_Uses r)
def N_r21_Uses : Nat → NS := fun l => (look l [(4, { ts := bl 70 224, bs := bl 70 0, nm := [(.sl 5, 280), (.sl 6, 281)] }), (7, { ts := bl 70 480, bs := bl 70 0, nm := [(.sl 5, 282), (.sl 6, 283)] })]).getD ⟨[], [], [], [], []⟩
def r21_Uses_s4 (t : Term) (depth : Int) (v0 : Int) (v1 : List Int) : S Un := (st 70 70 284 0 [(5, ao 280), (6, ao 281), (7, ai v0)] [] [(280, some ⟨(0 : Nat), Ty.int, r21_in (Term.ids t) depth, none, true⟩), (281, some ⟨(0 : Nat), Ty.int, v1, some (0 : Nat), true⟩)])
def r21_Uses_s7 (t : Term) (depth : Int) (v0 : Int) (v1 : List Int) (v2 : Int) : S Un := (st 70 70 284 0 [(5, ao 282), (6, ao 283), (7, ai v0), (8, ai v2)] [] [(282, some ⟨(0 : Nat), Ty.int, r21_in (Term.ids t) depth, none, true⟩), (283, some ⟨(0 : Nat), Ty.int, v1, some (0 : Nat), true⟩)])
def r21_Uses_B4 : Code := sub (bodyOf Try.f18) [1, 1, 1, 0, 1, 2, 2]
def r21_Uses_L4 : S Un → Option (EX Un) := loopF (N_r21_Uses 4) (fun s Q => awf M_r21_Uses N_r21_Uses r21_Uses_B4 s Q)
def r21_Uses_B7 : Code := sub (sub (bodyOf Try.f18) [1, 1, 1, 0, 1, 2, 2]) [1, 0, 2, 1, 0, 2, 2]
def r21_Uses_L7 : S Un → Option (EX Un) := loopF (N_r21_Uses 7) (fun s Q => awf M_r21_Uses N_r21_Uses r21_Uses_B7 s Q)
def r21_Uses_C4 : Exit → S Un → Option (RF Un) := ctxF M_r21_Uses N_r21_Uses (bodyOf Try.f18) [1, 1, 1, 0, 1, 2] (retF M_r21_Uses Try.f18.results.toList [.o])
def r21_Uses_C7 : Exit → S Un → Option (EX Un) := ctxF M_r21_Uses N_r21_Uses r21_Uses_B4 [1, 0, 2, 1, 0, 2] (roundF (N_r21_Uses 4) r21_Uses_L4)
def r21_Uses_fn (t : Term) (depth : Int) : Option (RF Un) := awf M_r21_Uses N_r21_Uses (bodyOf Try.f18) (entry Try.f18.ntmps 4 [.d (.agg (enc Ty.term t)), .d (.v (.s (.int .i64 depth)))]) (retF M_r21_Uses Try.f18.results.toList [.o])
theorem r21_Uses_in (t : Term) (depth : Int) : r21_Uses_fn t depth =
 obO (inOK depth (Term.ids t).sz)
  ((r21_Uses_L4 (r21_Uses_s4 t depth (0 : Int) ([]))).bind (thenX r21_Uses_C4)) := by kernel_rfl
theorem r21_Uses_l4 (t : Term) (depth : Int) (v0 : Int) (v1 : List Int) : r21_Uses_L4 (r21_Uses_s4 t depth v0 v1) =
 cndO (decide (v0 < (↑(r21_in (Term.ids t) depth).length : Int)))
  ((r21_Uses_L7 (r21_Uses_s7 t depth v0 v1 (0 : Int))).bind (thenX r21_Uses_C7))
  (some (.exit 0, (r21_Uses_s4 t depth v0 v1))) := (loopF_eq (N_r21_Uses 4) r21_Uses_B4 _).trans (by kernel_rfl)
theorem r21_Uses_a4_x0 (t : Term) (depth : Int) (v0 : Int) (v1 : List Int) : r21_Uses_C4 (.exit 0) (r21_Uses_s4 t depth v0 v1) =
 some (R_r21_Uses (v1)) := by kernel_rfl
theorem r21_Uses_l7 (t : Term) (depth : Int) (v0 : Int) (v1 : List Int) (v2 : Int) : r21_Uses_L7 (r21_Uses_s7 t depth v0 v1 v2) =
 cndO (decide (v2 < (↑v1.length : Int)))
  (obO (0 ≤ v2 ∧ v2 < (↑v1.length : Int))
   (obO (0 ≤ v0 ∧ v0 < (↑(r21_in (Term.ids t) depth).length : Int))
    (cndO (decide (v1.getD v2.toNat (0 : Int) < (r21_in (Term.ids t) depth).getD v0.toNat (0 : Int)))
     (r21_Uses_L7 (r21_Uses_s7 t depth v0 v1 (IntKind.i64.wrap (v2 + 1))))
     (some (.exit 2, (r21_Uses_s7 t depth v0 v1 v2))))))
  (some (.exit 2, (r21_Uses_s7 t depth v0 v1 v2))) := (loopF_eq (N_r21_Uses 7) r21_Uses_B7 _).trans (by kernel_rfl)
def r21_Uses_t1 (t : Term) (depth : Int) (v0 : Int) (v1 : List Int) (v2 : Int) : Option (EX Un) :=
 obO (0 ≤ v2 ∧ v2 ≤ (↑v1.length : Int))
  (obO ((0 + (List.take v2.toNat v1).length) * (8 : Nat) ≤ roomB)
   (obO (0 ≤ v0 ∧ v0 < (↑(r21_in (Term.ids t) depth).length : Int))
    (obO (((List.take v2.toNat v1).length + [(r21_in (Term.ids t) depth).getD v0.toNat (0 : Int)].length) * (8 : Nat) ≤ roomB)
     (obO (0 ≤ v2 ∧ v2 ≤ (↑v1.length : Int))
      (obO (((List.take v2.toNat v1 ++ [(r21_in (Term.ids t) depth).getD v0.toNat (0 : Int)]).length + (List.drop v2.toNat v1).length) * (8 : Nat) ≤ roomB)
       (r21_Uses_L4 (r21_Uses_s4 t depth (IntKind.i64.wrap (v0 + 1)) (List.take v2.toNat v1 ++ [(r21_in (Term.ids t) depth).getD v0.toNat (0 : Int)] ++ List.drop v2.toNat v1))))))))
theorem r21_Uses_a7_x2 (t : Term) (depth : Int) (v0 : Int) (v1 : List Int) (v2 : Int) : r21_Uses_C7 (.exit 2) (r21_Uses_s7 t depth v0 v1 v2) =
 cndO (decide (v2 < (↑v1.length : Int)))
  (obO (0 ≤ v2 ∧ v2 < (↑v1.length : Int))
   (obO (0 ≤ v0 ∧ v0 < (↑(r21_in (Term.ids t) depth).length : Int))
    (cndO (v1.getD v2.toNat (0 : Int) == (r21_in (Term.ids t) depth).getD v0.toNat (0 : Int))
     (r21_Uses_L4 (r21_Uses_s4 t depth (IntKind.i64.wrap (v0 + 1)) v1))
     (r21_Uses_t1 t depth v0 v1 v2))))
  (r21_Uses_t1 t depth v0 v1 v2) := by kernel_rfl

theorem tw_take {p : Int → Bool} : ∀ l : List Int, l.take (l.takeWhile p).length = l.takeWhile p
  | [] => rfl
  | y :: l => by
    rw [List.takeWhile_cons]
    cases p y with
    | true => simp only [if_true, List.length_cons, List.take_succ_cons]; rw [tw_take l]
    | false => simp
theorem tw_drop {p : Int → Bool} : ∀ l : List Int, l.drop (l.takeWhile p).length = l.dropWhile p
  | [] => rfl
  | y :: l => by
    rw [List.takeWhile_cons, List.dropWhile_cons]
    cases p y with
    | true => simp only [if_true, List.length_cons, List.drop_succ_cons]; rw [tw_drop l]
    | false => simp
theorem ins_at (x : Int) : ∀ {out : List Int}, Rises out → (x ∈ out ↔ ((out.takeWhile fun y => decide (y < x)).length < out.length ∧ out.getD (out.takeWhile fun y => decide (y < x)).length 0 = x))
  | [], _ => by simp
  | y :: out, h => by
    obtain ⟨h1, h2⟩ := List.pairwise_cons.1 h
    have ih := ins_at x (out := out) h2
    by_cases e : y < x
    · rw [List.takeWhile_cons, if_pos (by simpa using e), List.length_cons, List.length_cons, List.getD_cons_succ, List.mem_cons, ih]
      constructor
      · rintro (e2 | e2)
        · omega
        · exact ⟨by omega, e2.2⟩
      · rintro ⟨e2, e3⟩; exact .inr ⟨by omega, e3⟩
    · rw [List.takeWhile_cons, if_neg (by simpa using e), List.length_nil, List.length_cons, List.getD_cons_zero, List.mem_cons]
      constructor
      · rintro (e2 | e2)
        · exact ⟨by omega, e2.symm⟩
        · have := h1 x e2; omega
      · rintro ⟨_, e3⟩; exact .inl e3.symm
def r21_Uses (t : Term) (depth : Int) : List Int := usesA t depth
theorem r21_Uses_find (t : Term) (depth : Int) (out : List Int) (i : Nat) (hi : i < (inT depth t).length) (x : Int) (hx : (inT depth t).getD i 0 = x) (hl : out.length ≤ 1000000) : ∀ (r : List Int) (k : Nat), out.drop k = r → k ≤ out.length →
    r21_Uses_L7 (r21_Uses_s7 t depth (i : Int) out (k : Int)) = some (.exit 2, r21_Uses_s7 t depth (i : Int) out ((k + (r.takeWhile fun y => decide (y < x)).length : Nat) : Int)) := by
  intro r
  induction r with
  | nil =>
    intro k hr hk
    have : out.length ≤ k := by rw [← List.drop_eq_nil_iff]; exact hr
    rw [r21_Uses_l7, cndO_eq, if_neg (by rw [decide_eq_true_eq]; omega)]
    rfl
  | cons y r ih =>
    intro k hr hk
    obtain ⟨a1, a2, a3, _⟩ := drop_cons hr
    rw [r21_Uses_l7]
    simp only [cndO_eq, decide_eq_true_eq, Term.ids_eq, r21_in, Int.toNat_natCast, hx, a2]
    rw [if_pos (by omega), obO_pos (by omega), obO_pos (by omega), List.takeWhile_cons]
    by_cases e : y < x
    · rw [if_pos e, wrap_next a1 (by omega), ih (k + 1) a3 (by omega), if_pos (by simpa using e), List.length_cons]
      congr 4
      omega
    · rw [if_neg e, if_neg (by simpa using e)]
      rfl
theorem r21_Uses_spec (t : Term) (depth : Int) (_ht : WS .term t) (_hd : WI depth) (h : inOK depth t.sz) : r21_Uses_fn t depth = some (R_r21_Uses (r21_Uses t depth)) := by
  obtain ⟨h1, h2, h3⟩ := h
  have hin := inT_len depth t
  have l4 := (loop_fold (e := .exit 0) (L := r21_Uses_L4) (st := fun o i => r21_Uses_s4 t depth i o) (l := inT depth t) (d := (0 : Int)) (g := insI) (fun i o => Rises o ∧ o.length ≤ i) (by omega)
    (fun o i x hi hx hI => by
      have hil : i < (inT depth t).length := by omega
      obtain ⟨hR, hol⟩ : Rises o ∧ o.length ≤ i := hI
      have hil2 : (insI o x).length ≤ o.length + 1 := by
        unfold insI
        split
        · omega
        · have e := congrArg List.length (List.takeWhile_append_dropWhile (p := fun z => decide (z < x)) (l := o))
          rw [List.length_append] at e
          rw [List.length_append, List.length_cons]; omega
      refine ⟨(show Rises (insI o x) ∧ (insI o x).length ≤ i + 1 from ⟨insI_rises hR x, by omega⟩), ?_⟩
      have hf := r21_Uses_find t depth o i hil x hx (by omega) o 0 rfl (by omega)
      rw [Nat.zero_add] at hf
      have hf' : r21_Uses_L7 (r21_Uses_s7 t depth (i : Int) o (0 : Int)) = some (.exit 2, r21_Uses_s7 t depth (i : Int) o (((o.takeWhile fun y => decide (y < x)).length : Nat) : Int)) := hf
      have hat := ins_at x hR
      have htk := tw_take (p := fun y => decide (y < x)) o
      have hdr := tw_drop (p := fun y => decide (y < x)) o
      have hkl : (o.takeWhile fun y => decide (y < x)).length ≤ o.length := (List.takeWhile_sublist _).length_le
      rw [r21_Uses_l4]
      simp only [Term.ids_eq, r21_in]
      rw [cndO_eq, if_pos (by rw [decide_eq_true_eq]; exact hi), loop_end hf', r21_Uses_a7_x2]
      unfold r21_Uses_t1
      simp only [cndO_eq, decide_eq_true_eq, beq_iff_eq, Term.ids_eq, r21_in, Int.toNat_natCast, hx]
      have t1 : ∀ X : Option (EX Un), obO (0 ≤ (((o.takeWhile fun y => decide (y < x)).length : Nat) : Int) ∧ (((o.takeWhile fun y => decide (y < x)).length : Nat) : Int) ≤ (o.length : Int))
          (obO ((0 + (o.take (o.takeWhile fun y => decide (y < x)).length).length) * 8 ≤ roomB) (obO (0 ≤ (i : Int) ∧ (i : Int) < ((inT depth t).length : Int))
          (obO (((o.take (o.takeWhile fun y => decide (y < x)).length).length + [x].length) * 8 ≤ roomB) (obO (0 ≤ (((o.takeWhile fun y => decide (y < x)).length : Nat) : Int) ∧ (((o.takeWhile fun y => decide (y < x)).length : Nat) : Int) ≤ (o.length : Int))
          (obO (((o.take (o.takeWhile fun y => decide (y < x)).length ++ [x]).length + (o.drop (o.takeWhile fun y => decide (y < x)).length).length) * 8 ≤ roomB) X))))) = X := by
        intro X
        have e1 : (o.take (o.takeWhile fun y => decide (y < x)).length).length ≤ o.length := by rw [List.length_take]; omega
        have e2 : (o.drop (o.takeWhile fun y => decide (y < x)).length).length ≤ o.length := by rw [List.length_drop]; omega
        rw [obO_pos (by omega), obO_pos (by unfold roomB; omega), obO_pos (by omega), obO_pos (by unfold roomB; rw [List.length_singleton]; omega), obO_pos (by omega), obO_pos (by unfold roomB; rw [List.length_append, List.length_singleton]; omega)]
      rw [t1, htk, hdr]
      by_cases hm : x ∈ o
      · have hm' := hat.1 hm
        rw [if_pos (by omega), obO_pos (by omega), obO_pos (by omega), if_pos hm'.2]
        unfold insI
        rw [if_pos hm]
      · have e : insI o x = (o.takeWhile fun y => decide (y < x)) ++ [x] ++ o.dropWhile fun y => decide (y < x) := by unfold insI; rw [if_neg hm, List.append_assoc]; rfl
        rw [e]
        by_cases hk : (o.takeWhile fun y => decide (y < x)).length < o.length
        · rw [if_pos (by omega), obO_pos (by omega), obO_pos (by omega), if_neg (fun e2 => hm (hat.2 ⟨hk, e2⟩))]
        · rw [if_neg (by omega)])
    (fun o _ => by
      rw [r21_Uses_l4]
      simp only [Term.ids_eq, r21_in]
      rw [cndO_eq, if_neg (by rw [decide_eq_true_eq]; omega)]) [] (show Rises [] ∧ ([] : List Int).length ≤ 0 from ⟨List.Pairwise.nil, Nat.le_refl _⟩)).1
  rw [r21_Uses_in, Term.ids_eq, obO_pos (show inOK _ _ from ⟨h1, h2, h3⟩), loop_end l4, r21_Uses_a4_x0]
  rfl

def F_r21_Uses : FnC Un := fun args => match args with
  | [x0, x1] => (dS .term x0).bind fun t => (dI .i64 x1).bind fun depth => some ([inOK depth t.sz], A_r21_Uses (r21_Uses t depth), O_r21_Uses (r21_Uses t depth))
  | _ => none

theorem ok_r21_Uses : FnOK 18 F_r21_Uses := by
  intro args ob rs os h hob
  unfold F_r21_Uses at h
  split at h
  · simp only [Option.bind_eq_some_iff, Option.some.injEq, Prod.mk.injEq] at h
    obtain ⟨t, e0, depth, e1, rfl, rfl, rfl⟩ := h
    obtain rfl := dS_eq e0
    obtain rfl := dI_eq e1
    exact ⟨fn_contractF (M := M_r21_Uses) rfl (tbl_ok (l1 := [(45, F_r21_in)]) (l2 := []) (l3 := []) (l4 := []) (l5 := []) ⟨ok_r21_in, trivial⟩ trivial trivial trivial trivial) Try.func18 (by kernel_rfl) N_r21_Uses 4 [.o] (fun hwf => (r21_Uses_spec t depth (wfArg hwf (a := .d (.agg (enc Ty.term t))) (List.mem_of_getElem? (i := 0) rfl)) (wfArg hwf (a := .d (.v (.s (.int .i64 depth)))) (List.mem_of_getElem? (i := 1) rfl)) (hob _ (List.mem_of_getElem? (i := 0) rfl)))), hasBody_of Try.func18 (by kernel_rfl) (by kernel_rfl)⟩
  · simp at h

theorem foldl_snoc {α β : Type} (f : α → β) : ∀ (l : List α) (o : List β), l.foldl (fun o x => o ++ [f x]) o = o ++ l.map f
  | [], o => by simp
  | x :: l, o => by rw [List.foldl_cons, foldl_snoc f l]; simp
theorem usesA_len (t : Term) (d : Int) : (usesA t d).length ≤ t.sz := by have := riseI_len (inT d t); have := inT_len d t; unfold usesA; omega


end
end Go.Proofs.Ytaepcbdcjbfgjaa.B
