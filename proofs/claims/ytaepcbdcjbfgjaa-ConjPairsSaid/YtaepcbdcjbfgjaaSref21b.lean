/- Functions: ref21b. (Printed by wip/tools/mkfn.py out of wip/src/ref21b.src.) -/
import Derived.Test.YtaepcbdcjbfgjaaBAwf
import Derived.Test.YtaepcbdcjbfgjaaSspec
import Derived.Test.YtaepcbdcjbfgjaaSterms
import Derived.Test.YtaepcbdcjbfgjaaStermsz
import Derived.Test.YtaepcbdcjbfgjaaSconjspec
import Derived.Test.YtaepcbdcjbfgjaaSsorted
import Derived.Test.YtaepcbdcjbfgjaaSconjU
import Derived.Test.YtaepcbdcjbfgjaaSconj2
import Derived.Test.YtaepcbdcjbfgjaaSconj3
import Derived.Test.YtaepcbdcjbfgjaaSconj4
import Derived.Test.YtaepcbdcjbfgjaaSsame
import Derived.Test.YtaepcbdcjbfgjaaSsame2
import Derived.Test.YtaepcbdcjbfgjaaSsame3
import Derived.Test.YtaepcbdcjbfgjaaSsame4
import Derived.Test.YtaepcbdcjbfgjaaSsame5
import Derived.Test.YtaepcbdcjbfgjaaSref03
import Derived.Test.YtaepcbdcjbfgjaaSref15
import Derived.Test.YtaepcbdcjbfgjaaSref15b
import Derived.Test.YtaepcbdcjbfgjaaSref21
namespace Go.Proofs.Ytaepcbdcjbfgjaa.B
open Go Go.RowKit
set_option maxRecDepth 100000
noncomputable section
attribute [local irreducible] awp ctxK itersK iterK retQ retGQ awf ctxF loopF

def inOK (depth : Int) (n : Nat) : Prop := -1000000 ≤ depth ∧ depth + n ≤ 10000000 ∧ n ≤ 1000000
def r21_inRel (r : Rel) (depth : Int) : List Int := inR depth r
def r21_in (t : Term) (depth : Int) : List Int := inT depth t
theorem inTs_append (d : Int) : ∀ (a b : List Term), inTs d (a ++ b) = inTs d a ++ inTs d b
  | [], b => by simp [inTs]
  | x :: a, b => by simp only [List.cons_append, inTs, inTs_append d a b, List.append_assoc]
theorem inTs_agg (d : Int) : ∀ l : List Agg, inTs d (aggTs l) = inAs d l
  | [] => rfl
  | x :: l => by simp only [aggTs, inAs, inTs_append, inTs_agg d l, inA_eq]

def A_r21_inRel (r : List Int) : List (A Un) := [.c (.ob 0 0)]
def O_r21_inRel (r : List Int) : List (Ob Un) := [⟨0, Ty.int, r, none, true⟩]

def Fm_r21_inRel (m : Nat) : FnC Un := fun args => match args with
  | [x0, x1] => (dS .rel x0).bind fun r => (dI .i64 x1).bind fun depth => some ([r.ht < m, inOK depth r.sz], A_r21_inRel (r21_inRel r depth), O_r21_inRel (r21_inRel r depth))
  | _ => none

def A_r21_in (r : List Int) : List (A Un) := [.c (.ob 0 0)]
def O_r21_in (r : List Int) : List (Ob Un) := [⟨0, Ty.int, r, none, true⟩]

def Fm_r21_in (m : Nat) : FnC Un := fun args => match args with
  | [x0, x1] => (dS .term x0).bind fun t => (dI .i64 x1).bind fun depth => some ([t.ht < m, inOK depth t.sz], A_r21_in (r21_in t depth), O_r21_in (r21_in t depth))
  | _ => none

/-! ### tabellionref21.inRel -/
def M_r21_inRel (m : Nat) : Mc Un := mach (tbl [(101, F_r21_Terms), (45, Fm_r21_in m), (79, Fm_r21_inRel m)]) (tbl []) (tbl []) (tbl []) (tbl [])
def R_r21_inRel (r : List Int) : RF Un := (A_r21_inRel r, O_r21_inRel r)
def N_r21_inRel : Nat → NS := fun l => (look l [(4, { ts := bl 43 230, bs := bl 43 4, nm := [(.sl 5, 172), (.sl 6, 173)] }), (8, { ts := bl 43 294, bs := bl 43 4, nm := [(.sl 5, 174)] })]).getD ⟨[], [], [], [], []⟩
def r21_inRel_c1 (r : Rel) := r21_Terms (Rel.mk r.op r.table r.cols r.kids r.terms r.aggs r.keys r.limit r.skip r.all r.rows)
def r21_inRel_s4 (r : Rel) (depth : Int) (v0 : Int) (v1 : List Int) : S Un := (st 43 43 175 0 [(1, ai depth), (2, ax 2), (5, ao 172), (6, ao 173), (7, ai v0)] [(2, bg .rel r)] [(172, some ⟨(0 : Nat), Ty.int, v1, some (0 : Nat), true⟩), (173, some ⟨(0 : Nat), Ty.term, r21_Terms (Rel.ids r), none, true⟩)])
def r21_inRel_s8 (r : Rel) (depth : Int) (v1 : List Int) (v2 : Int) : S Un := (st 43 43 175 0 [(1, ai depth), (2, ax 2), (5, ao 174), (8, ai v2)] [(2, bg .rel r)] [(174, some ⟨(0 : Nat), Ty.int, v1, some (0 : Nat), true⟩)])
def r21_inRel_B4 : Code := sub (bodyOf Try.f79) [1, 1, 1, 0, 1, 2, 2]
def r21_inRel_L4 (m : Nat) : S Un → Option (EX Un) := loopF (N_r21_inRel 4) (fun s Q => awf (M_r21_inRel m) N_r21_inRel r21_inRel_B4 s Q)
def r21_inRel_B8 : Code := sub (bodyOf Try.f79) [1, 1, 1, 1, 0, 1, 2, 2]
def r21_inRel_L8 (m : Nat) : S Un → Option (EX Un) := loopF (N_r21_inRel 8) (fun s Q => awf (M_r21_inRel m) N_r21_inRel r21_inRel_B8 s Q)
def r21_inRel_C4 (m : Nat) : Exit → S Un → Option (RF Un) := ctxF (M_r21_inRel m) N_r21_inRel (bodyOf Try.f79) [1, 1, 1, 0, 1, 2] (retF (M_r21_inRel m) Try.f79.results.toList [.o])
def r21_inRel_C8 (m : Nat) : Exit → S Un → Option (RF Un) := ctxF (M_r21_inRel m) N_r21_inRel (bodyOf Try.f79) [1, 1, 1, 1, 0, 1, 2] (retF (M_r21_inRel m) Try.f79.results.toList [.o])
def r21_inRel_fn (m : Nat) (r : Rel) (depth : Int) : Option (RF Un) := awf (M_r21_inRel m) N_r21_inRel (bodyOf Try.f79) (entry Try.f79.ntmps 3 [.d (.agg (enc Ty.rel r)), .d (.v (.s (.int .i64 depth)))]) (retF (M_r21_inRel m) Try.f79.results.toList [.o])
theorem r21_inRel_in (m : Nat) (r : Rel) (depth : Int) : r21_inRel_fn m r depth =
 obO ((Rel.ids r).sz ≤ (1000000 : Nat))
  ((r21_inRel_L4 m (r21_inRel_s4 r depth (0 : Int) ([]))).bind (thenX (r21_inRel_C4 m))) := by kernel_rfl
theorem r21_inRel_l4 (m : Nat) (r : Rel) (depth : Int) (v0 : Int) (v1 : List Int) : r21_inRel_L4 m (r21_inRel_s4 r depth v0 v1) =
 cndO (decide (v0 < (↑(r21_inRel_c1 r).length : Int)))
  (obO (0 ≤ v0 ∧ v0 < (↑(r21_inRel_c1 r).length : Int))
   (obO ((Term.ids ((r21_inRel_c1 r).getD v0.toNat zeroTerm)).ht < m)
    (obO (inOK depth (Term.ids ((r21_inRel_c1 r).getD v0.toNat zeroTerm)).sz)
     (obO ((v1.length + (r21_in (Term.ids ((r21_inRel_c1 r).getD v0.toNat zeroTerm)) depth).length) * (8 : Nat) ≤ roomB)
      (r21_inRel_L4 m (r21_inRel_s4 r depth (IntKind.i64.wrap (v0 + 1)) (v1 ++ r21_in (Term.ids ((r21_inRel_c1 r).getD v0.toNat zeroTerm)) depth)))))))
  (some (.exit 0, (r21_inRel_s4 r depth v0 v1))) := (loopF_eq (N_r21_inRel 4) r21_inRel_B4 _).trans (by kernel_rfl)
theorem r21_inRel_a4_x0 (m : Nat) (r : Rel) (depth : Int) (v0 : Int) (v1 : List Int) : r21_inRel_C4 m (.exit 0) (r21_inRel_s4 r depth v0 v1) =
 (r21_inRel_L8 m (r21_inRel_s8 r depth v1 (0 : Int))).bind (thenX (r21_inRel_C8 m)) := by kernel_rfl
theorem r21_inRel_l8 (m : Nat) (r : Rel) (depth : Int) (v1 : List Int) (v2 : Int) : r21_inRel_L8 m (r21_inRel_s8 r depth v1 v2) =
 cndO (decide (v2 < (↑r.kids.length : Int)))
  (obO (0 ≤ v2 ∧ v2 < (↑r.kids.length : Int))
   (obO ((Rel.ids (r.kids.getD v2.toNat zeroRel)).ht < m)
    (obO (inOK depth (Rel.ids (r.kids.getD v2.toNat zeroRel)).sz)
     (obO ((v1.length + (r21_inRel (Rel.ids (r.kids.getD v2.toNat zeroRel)) depth).length) * (8 : Nat) ≤ roomB)
      (r21_inRel_L8 m (r21_inRel_s8 r depth (v1 ++ r21_inRel (Rel.ids (r.kids.getD v2.toNat zeroRel)) depth) (IntKind.i64.wrap (v2 + 1))))))))
  (some (.exit 2, (r21_inRel_s8 r depth v1 v2))) := (loopF_eq (N_r21_inRel 8) r21_inRel_B8 _).trans (by kernel_rfl)
theorem r21_inRel_a8_x2 (m : Nat) (r : Rel) (depth : Int) (v1 : List Int) (v2 : Int) : r21_inRel_C8 m (.exit 2) (r21_inRel_s8 r depth v1 v2) =
 some (R_r21_inRel (v1)) := by kernel_rfl

theorem r21_inRel_spec (m : Nat) (r : Rel) (depth : Int) (hr : WS .rel r) (_hd : WI depth) (hm : r.ht < m + 1) (h : inOK depth r.sz) : r21_inRel_fn m r depth = some (R_r21_inRel (r21_inRel r depth)) := by
  obtain ⟨h1, h2, h3⟩ := h
  have hsz := r.sz_eq
  have hk : htTs r.terms < r.ht ∧ htAs r.aggs < r.ht ∧ htRs r.kids < r.ht := by cases r; simp only [Rel.ht, Rel.kids_mk, Rel.terms_mk, Rel.aggs_mk]; omega
  have hTs : szTs (r21_Terms r) ≤ szTs r.terms + szAs r.aggs := by unfold r21_Terms; rw [szTs_append]; have := aggTs_sz r.aggs; omega
  have hTh : htTs (r21_Terms r) < r.ht := by unfold r21_Terms; rw [htTs_append]; have := aggTs_ht r.aggs; omega
  have hTl := szTs_len (r21_Terms r)
  have htl := inTs_len depth (r21_Terms r)
  have l4 := (loop_fold (e := .exit 0) (L := r21_inRel_L4 m) (st := fun o i => r21_inRel_s4 r depth i o) (l := r21_Terms r) (d := zeroTerm) (g := fun o x => o ++ inT depth x) (fun i o => o.length + szTs ((r21_Terms r).drop i) ≤ 1000000) (by omega)
    (fun o i x hi hx hI => by
      have hil : i < (r21_Terms r).length := by omega
      have hd := drop_getD (d := zeroTerm) hil
      have hI' : o.length + szTs ((r21_Terms r).drop i) ≤ 1000000 := hI
      have hmem : x ∈ r21_Terms r := by rw [← hx]; exact getD_mem hil
      have hsz := szTs_mem hmem
      have hht := htTs_mem hmem
      have hlen := inT_len depth x
      rw [hd, hx] at hI'
      simp only [szTs] at hI'
      refine ⟨by show (o ++ inT depth x).length + szTs ((r21_Terms r).drop (i + 1)) ≤ 1000000; rw [List.length_append]; omega, ?_⟩
      rw [r21_inRel_l4]
      simp only [r21_inRel_c1, rel_eta, Term.ids_eq, cndO_eq, hi, decide_true, if_true, and_true, Int.toNat_natCast, hx, r21_in]
      rw [obO_pos (by omega), obO_pos (by omega), obO_pos (show inOK _ _ from ⟨h1, by omega, by omega⟩), obO_pos (by unfold roomB; omega)])
    (fun o _ => by rw [r21_inRel_l4]; simp [cndO_eq, r21_inRel_c1, rel_eta]) [] (by show 0 + szTs ((r21_Terms r).drop 0) ≤ 1000000; rw [List.drop_zero]; omega)).1
  rw [inTs_fold, List.nil_append] at l4
  have l8 := (loop_fold (e := .exit 2) (L := r21_inRel_L8 m) (st := fun o i => r21_inRel_s8 r depth o i) (l := r.kids) (d := zeroRel) (g := fun o x => o ++ inR depth x) (fun i o => o.length + szRs (r.kids.drop i) ≤ 1000000) (hr.rel_kids).len
    (fun o i x hi hx hI => by
      have hil : i < r.kids.length := by omega
      have hd := drop_getD (d := zeroRel) hil
      have hI' : o.length + szRs (r.kids.drop i) ≤ 1000000 := hI
      have hmem : x ∈ r.kids := by rw [← hx]; exact getD_mem hil
      have hsz := szRs_mem hmem
      have hht := htRs_mem hmem
      have hlen := inR_len depth x
      rw [hd, hx] at hI'
      simp only [szRs] at hI'
      refine ⟨by show (o ++ inR depth x).length + szRs (r.kids.drop (i + 1)) ≤ 1000000; rw [List.length_append]; omega, ?_⟩
      rw [r21_inRel_l8]
      simp only [Rel.ids_eq, cndO_eq, hi, decide_true, if_true, and_true, Int.toNat_natCast, hx, r21_inRel]
      rw [obO_pos (by omega), obO_pos (by omega), obO_pos (show inOK _ _ from ⟨h1, by omega, by omega⟩), obO_pos (by unfold roomB; omega)])
    (fun o _ => by rw [r21_inRel_l8]; simp [cndO_eq]) (inTs depth (r21_Terms r)) (by show (inTs depth (r21_Terms r)).length + szRs (r.kids.drop 0) ≤ 1000000; rw [List.drop_zero]; omega)).1
  rw [inRs_fold] at l8
  rw [r21_inRel_in, Rel.ids_eq, obO_pos (by omega), loop_end l4, r21_inRel_a4_x0, loop_end l8, r21_inRel_a8_x2]
  unfold r21_inRel
  rw [inR_eq, r21_Terms, inTs_append, inTs_agg]

theorem okm_r21_inRel (m : Nat) (h_r21_inRel : FnOK 79 (Fm_r21_inRel m)) (h_r21_in : FnOK 45 (Fm_r21_in m)) : FnOK 79 (Fm_r21_inRel (m + 1)) := by
  intro args ob rs os h hob
  unfold Fm_r21_inRel at h
  split at h
  · simp only [Option.bind_eq_some_iff, Option.some.injEq, Prod.mk.injEq] at h
    obtain ⟨r, e0, depth, e1, rfl, rfl, rfl⟩ := h
    obtain rfl := dS_eq e0
    obtain rfl := dI_eq e1
    exact ⟨fn_contractF (M := (M_r21_inRel m)) rfl (tbl_ok (l1 := [(101, F_r21_Terms), (45, Fm_r21_in m), (79, Fm_r21_inRel m)]) (l2 := []) (l3 := []) (l4 := []) (l5 := []) ⟨ok_r21_Terms, h_r21_in, h_r21_inRel, trivial⟩ trivial trivial trivial trivial) Try.func79 (by kernel_rfl) N_r21_inRel 3 [.o] (fun hwf => (r21_inRel_spec m r depth (wfArg hwf (a := .d (.agg (enc Ty.rel r))) (List.mem_of_getElem? (i := 0) rfl)) (wfArg hwf (a := .d (.v (.s (.int .i64 depth)))) (List.mem_of_getElem? (i := 1) rfl)) (hob _ (List.mem_of_getElem? (i := 0) rfl)) (hob _ (List.mem_of_getElem? (i := 1) rfl)))), hasBody_of Try.func79 (by kernel_rfl) (by kernel_rfl)⟩
  · simp at h


/-! ### tabellionref21.in -/
def M_r21_in (m : Nat) : Mc Un := mach (tbl [(45, Fm_r21_in m), (79, Fm_r21_inRel m)]) (tbl []) (tbl []) (tbl []) (tbl [])
def R_r21_in (r : List Int) : RF Un := (A_r21_in r, O_r21_in r)
def N_r21_in : Nat → NS := fun l => (look l [(5, { ts := bl 57 102, bs := bl 57 4, nm := [(.sl 5, 228)] }), (9, { ts := bl 57 166, bs := bl 57 4, nm := [(.sl 5, 229)] })]).getD ⟨[], [], [], [], []⟩
def r21_in_s5 (t : Term) (depth : Int) (v0 : List Int) (v1 : Int) : S Un := (st 57 57 230 0 [(1, ai depth), (2, ax 2), (5, ao 228), (6, ai v1)] [(2, bg .term t)] [(228, some ⟨(0 : Nat), Ty.int, v0, some (0 : Nat), true⟩)])
def r21_in_s9 (t : Term) (depth : Int) (v0 : List Int) (v2 : Int) : S Un := (st 57 57 230 0 [(1, ai depth), (2, ax 2), (5, ao 229), (7, ai v2)] [(2, bg .term t)] [(229, some ⟨(0 : Nat), Ty.int, v0, some (0 : Nat), true⟩)])
def r21_in_B5 : Code := sub (bodyOf Try.f45) [1, 1, 1, 0, 1, 2, 2]
def r21_in_L5 (m : Nat) : S Un → Option (EX Un) := loopF (N_r21_in 5) (fun s Q => awf (M_r21_in m) N_r21_in r21_in_B5 s Q)
def r21_in_B9 : Code := sub (bodyOf Try.f45) [1, 1, 1, 1, 0, 1, 2, 2]
def r21_in_L9 (m : Nat) : S Un → Option (EX Un) := loopF (N_r21_in 9) (fun s Q => awf (M_r21_in m) N_r21_in r21_in_B9 s Q)
def r21_in_C5 (m : Nat) : Exit → S Un → Option (RF Un) := ctxF (M_r21_in m) N_r21_in (bodyOf Try.f45) [1, 1, 1, 0, 1, 2] (retF (M_r21_in m) Try.f45.results.toList [.o])
def r21_in_C9 (m : Nat) : Exit → S Un → Option (RF Un) := ctxF (M_r21_in m) N_r21_in (bodyOf Try.f45) [1, 1, 1, 1, 0, 1, 2] (retF (M_r21_in m) Try.f45.results.toList [.o])
def r21_in_fn (m : Nat) (t : Term) (depth : Int) : Option (RF Un) := awf (M_r21_in m) N_r21_in (bodyOf Try.f45) (entry Try.f45.ntmps 2 [.d (.agg (enc Ty.term t)), .d (.v (.s (.int .i64 depth)))]) (retF (M_r21_in m) Try.f45.results.toList [.o])
theorem r21_in_in (m : Nat) (t : Term) (depth : Int) : r21_in_fn m t depth =
 cndO (t.op == 2)
  (cndO (t.depth == depth)
   (obO ((0 + [t.at_].length) * (8 : Nat) ≤ roomB)
    ((r21_in_L5 m (r21_in_s5 t depth ([t.at_]) (0 : Int))).bind (thenX (r21_in_C5 m))))
   ((r21_in_L5 m (r21_in_s5 t depth ([]) (0 : Int))).bind (thenX (r21_in_C5 m))))
  ((r21_in_L5 m (r21_in_s5 t depth ([]) (0 : Int))).bind (thenX (r21_in_C5 m))) := by kernel_rfl
theorem r21_in_l5 (m : Nat) (t : Term) (depth : Int) (v0 : List Int) (v1 : Int) : r21_in_L5 m (r21_in_s5 t depth v0 v1) =
 cndO (decide (v1 < (↑t.kids.length : Int)))
  (obO (0 ≤ v1 ∧ v1 < (↑t.kids.length : Int))
   (obO ((Term.ids (t.kids.getD v1.toNat zeroTerm)).ht < m)
    (obO (inOK depth (Term.ids (t.kids.getD v1.toNat zeroTerm)).sz)
     (obO ((v0.length + (r21_in (Term.ids (t.kids.getD v1.toNat zeroTerm)) depth).length) * (8 : Nat) ≤ roomB)
      (r21_in_L5 m (r21_in_s5 t depth (v0 ++ r21_in (Term.ids (t.kids.getD v1.toNat zeroTerm)) depth) (IntKind.i64.wrap (v1 + 1))))))))
  (some (.exit 0, (r21_in_s5 t depth v0 v1))) := (loopF_eq (N_r21_in 5) r21_in_B5 _).trans (by kernel_rfl)
theorem r21_in_a5_x0 (m : Nat) (t : Term) (depth : Int) (v0 : List Int) (v1 : Int) : r21_in_C5 m (.exit 0) (r21_in_s5 t depth v0 v1) =
 (r21_in_L9 m (r21_in_s9 t depth v0 (0 : Int))).bind (thenX (r21_in_C9 m)) := by kernel_rfl
theorem r21_in_l9 (m : Nat) (t : Term) (depth : Int) (v0 : List Int) (v2 : Int) : r21_in_L9 m (r21_in_s9 t depth v0 v2) =
 cndO (decide (v2 < (↑t.sub.length : Int)))
  (obO (0 ≤ v2 ∧ v2 < (↑t.sub.length : Int))
   (obO ((Rel.ids (t.sub.getD v2.toNat zeroRel)).ht < m)
    (obO (inOK (IntKind.i64.wrap (depth + 1)) (Rel.ids (t.sub.getD v2.toNat zeroRel)).sz)
     (obO ((v0.length + (r21_inRel (Rel.ids (t.sub.getD v2.toNat zeroRel)) (IntKind.i64.wrap (depth + 1))).length) * (8 : Nat) ≤ roomB)
      (r21_in_L9 m (r21_in_s9 t depth (v0 ++ r21_inRel (Rel.ids (t.sub.getD v2.toNat zeroRel)) (IntKind.i64.wrap (depth + 1))) (IntKind.i64.wrap (v2 + 1))))))))
  (some (.exit 2, (r21_in_s9 t depth v0 v2))) := (loopF_eq (N_r21_in 9) r21_in_B9 _).trans (by kernel_rfl)
theorem r21_in_a9_x2 (m : Nat) (t : Term) (depth : Int) (v0 : List Int) (v2 : Int) : r21_in_C9 m (.exit 2) (r21_in_s9 t depth v0 v2) =
 some (R_r21_in (v0)) := by kernel_rfl

theorem r21_in_spec (m : Nat) (t : Term) (depth : Int) (ht : WS .term t) (_hd : WI depth) (hm : t.ht < m + 1) (h : inOK depth t.sz) : r21_in_fn m t depth = some (R_r21_in (r21_in t depth)) := by
  obtain ⟨h1, h2, h3⟩ := h
  have hsz := t.sz_eq
  have hk : htTs t.kids < t.ht ∧ htRs t.sub < t.ht := by cases t; simp only [Term.ht, Term.kids_mk, Term.sub_mk]; omega
  have hkl := inTs_len depth t.kids
  have hsl := szRs_len t.sub
  have hw : IntKind.i64.wrap (depth + 1) = depth + 1 := wrap_id (by omega)
  have key : ∀ o0 : List Int, o0.length ≤ 1 → (r21_in_L5 m (r21_in_s5 t depth o0 (0 : Int))).bind (thenX (r21_in_C5 m)) = some (R_r21_in (o0 ++ inTs depth t.kids ++ inRs (depth + 1) t.sub)) := by
    intro o0 ho
    have l5 := (loop_fold (e := .exit 0) (L := r21_in_L5 m) (st := fun o i => r21_in_s5 t depth o i) (l := t.kids) (d := zeroTerm) (g := fun o x => o ++ inT depth x) (fun i o => o.length + szTs (t.kids.drop i) ≤ 1000000) (ht.term_kids).len
      (fun o i x hi hx hI => by
        have hil : i < t.kids.length := by omega
        have hd := drop_getD (d := zeroTerm) hil
        have hI' : o.length + szTs (t.kids.drop i) ≤ 1000000 := hI
        have hmem : x ∈ t.kids := by rw [← hx]; exact getD_mem hil
        have hsz := szTs_mem hmem
        have hht := htTs_mem hmem
        have hlen := inT_len depth x
        rw [hd, hx] at hI'
        simp only [szTs] at hI'
        refine ⟨by show (o ++ inT depth x).length + szTs (t.kids.drop (i + 1)) ≤ 1000000; rw [List.length_append]; omega, ?_⟩
        rw [r21_in_l5]
        simp only [Term.ids_eq, cndO_eq, hi, decide_true, if_true, and_true, Int.toNat_natCast, hx, r21_in]
        rw [obO_pos (by omega), obO_pos (by omega), obO_pos (show inOK _ _ from ⟨h1, by omega, by omega⟩), obO_pos (by unfold roomB; omega)])
      (fun o _ => by rw [r21_in_l5]; simp [cndO_eq]) o0 (by show o0.length + szTs (t.kids.drop 0) ≤ 1000000; rw [List.drop_zero]; omega)).1
    rw [inTs_fold] at l5
    have l9 := (loop_fold (e := .exit 2) (L := r21_in_L9 m) (st := fun o i => r21_in_s9 t depth o i) (l := t.sub) (d := zeroRel) (g := fun o x => o ++ inR (depth + 1) x) (fun i o => o.length + szRs (t.sub.drop i) ≤ 1000000) (by omega)
      (fun o i x hi hx hI => by
        have hil : i < t.sub.length := by omega
        have hd := drop_getD (d := zeroRel) hil
        have hI' : o.length + szRs (t.sub.drop i) ≤ 1000000 := hI
        have hmem : x ∈ t.sub := by rw [← hx]; exact getD_mem hil
        have hsz := szRs_mem hmem
        have hht := htRs_mem hmem
        have hlen := inR_len (depth + 1) x
        rw [hd, hx] at hI'
        simp only [szRs] at hI'
        refine ⟨by show (o ++ inR (depth + 1) x).length + szRs (t.sub.drop (i + 1)) ≤ 1000000; rw [List.length_append]; omega, ?_⟩
        rw [r21_in_l9]
        simp only [Rel.ids_eq, cndO_eq, hi, decide_true, if_true, and_true, Int.toNat_natCast, hx, r21_inRel, hw]
        rw [obO_pos (by omega), obO_pos (by omega), obO_pos (show inOK _ _ from ⟨by omega, by omega, by omega⟩), obO_pos (by unfold roomB; omega)])
      (fun o _ => by rw [r21_in_l9]; simp [cndO_eq]) (o0 ++ inTs depth t.kids) (by show (o0 ++ inTs depth t.kids).length + szRs (t.sub.drop 0) ≤ 1000000; rw [List.drop_zero, List.length_append]; omega)).1
    rw [inRs_fold] at l9
    rw [loop_end l5, r21_in_a5_x0, loop_end l9, r21_in_a9_x2]
  rw [r21_in_in]
  simp only [cndO_eq, beq_iff_eq]
  unfold r21_in
  rw [inT_eq]
  by_cases e1 : t.op = 2
  · by_cases e2 : t.depth = depth
    · rw [if_pos e1, if_pos e2, if_pos (show t.op = 2 ∧ t.depth = depth from ⟨e1, e2⟩), obO_pos (by unfold roomB; simp), key _ (by simp)]
    · rw [if_pos e1, if_neg e2, if_neg (fun e => e2 e.2), key _ (by simp)]
  · rw [if_neg e1, if_neg (fun e => e1 e.1), key _ (by simp)]

theorem okm_r21_in (m : Nat) (h_r21_inRel : FnOK 79 (Fm_r21_inRel m)) (h_r21_in : FnOK 45 (Fm_r21_in m)) : FnOK 45 (Fm_r21_in (m + 1)) := by
  intro args ob rs os h hob
  unfold Fm_r21_in at h
  split at h
  · simp only [Option.bind_eq_some_iff, Option.some.injEq, Prod.mk.injEq] at h
    obtain ⟨t, e0, depth, e1, rfl, rfl, rfl⟩ := h
    obtain rfl := dS_eq e0
    obtain rfl := dI_eq e1
    exact ⟨fn_contractF (M := (M_r21_in m)) rfl (tbl_ok (l1 := [(45, Fm_r21_in m), (79, Fm_r21_inRel m)]) (l2 := []) (l3 := []) (l4 := []) (l5 := []) ⟨h_r21_in, h_r21_inRel, trivial⟩ trivial trivial trivial trivial) Try.func45 (by kernel_rfl) N_r21_in 2 [.o] (fun hwf => (r21_in_spec m t depth (wfArg hwf (a := .d (.agg (enc Ty.term t))) (List.mem_of_getElem? (i := 0) rfl)) (wfArg hwf (a := .d (.v (.s (.int .i64 depth)))) (List.mem_of_getElem? (i := 1) rfl)) (hob _ (List.mem_of_getElem? (i := 0) rfl)) (hob _ (List.mem_of_getElem? (i := 1) rfl)))), hasBody_of Try.func45 (by kernel_rfl) (by kernel_rfl)⟩
  · simp at h


theorem okAll_r21inG : ∀ m, FnOK 79 (Fm_r21_inRel m) ∧ FnOK 45 (Fm_r21_in m)
  | 0 => by
    refine ⟨?_, ?_⟩
    · intro args ob rs os h hob
      unfold Fm_r21_inRel at h
      split at h
      · simp only [Option.bind_eq_some_iff, Option.some.injEq, Prod.mk.injEq] at h
        obtain ⟨_, _, _, _, rfl, _, _⟩ := h
        exact absurd (hob _ (List.mem_of_getElem? (i := 0) rfl)) (Nat.not_lt_zero _)
      · simp at h
    · intro args ob rs os h hob
      unfold Fm_r21_in at h
      split at h
      · simp only [Option.bind_eq_some_iff, Option.some.injEq, Prod.mk.injEq] at h
        obtain ⟨_, _, _, _, rfl, _, _⟩ := h
        exact absurd (hob _ (List.mem_of_getElem? (i := 0) rfl)) (Nat.not_lt_zero _)
      · simp at h
  | m + 1 => by
    have ih := okAll_r21inG m
    exact ⟨okm_r21_inRel m ih.1 ih.2, okm_r21_in m ih.1 ih.2⟩

def F_r21_inRel : FnC Un := fun args => match args with
  | [x0, x1] => (dS .rel x0).bind fun r => (dI .i64 x1).bind fun depth => some ([inOK depth r.sz], A_r21_inRel (r21_inRel r depth), O_r21_inRel (r21_inRel r depth))
  | _ => none

theorem ok_r21_inRel : FnOK 79 F_r21_inRel := by
  intro args ob rs os h hob
  unfold F_r21_inRel at h
  split at h
  · simp only [Option.bind_eq_some_iff, Option.some.injEq, Prod.mk.injEq] at h
    obtain ⟨r, e0, depth, e1, rfl, rfl, rfl⟩ := h
    refine ((okAll_r21inG (r.ht + 1)).1) _ [r.ht < r.ht + 1, inOK depth r.sz] _ _ (?_ : Fm_r21_inRel (r.ht + 1) _ = some _) ?_
    · unfold Fm_r21_inRel
      simp only [e0, e1, Option.bind_some]
    · intro p hp
      simp only [List.mem_cons, List.not_mem_nil, or_false] at hp
      rcases hp with rfl | rfl
      · exact Nat.lt_succ_self _
      · exact hob _ (List.mem_of_getElem? (i := 0) rfl)
  · simp at h

def F_r21_in : FnC Un := fun args => match args with
  | [x0, x1] => (dS .term x0).bind fun t => (dI .i64 x1).bind fun depth => some ([inOK depth t.sz], A_r21_in (r21_in t depth), O_r21_in (r21_in t depth))
  | _ => none

theorem ok_r21_in : FnOK 45 F_r21_in := by
  intro args ob rs os h hob
  unfold F_r21_in at h
  split at h
  · simp only [Option.bind_eq_some_iff, Option.some.injEq, Prod.mk.injEq] at h
    obtain ⟨t, e0, depth, e1, rfl, rfl, rfl⟩ := h
    refine ((okAll_r21inG (t.ht + 1)).2) _ [t.ht < t.ht + 1, inOK depth t.sz] _ _ (?_ : Fm_r21_in (t.ht + 1) _ = some _) ?_
    · unfold Fm_r21_in
      simp only [e0, e1, Option.bind_some]
    · intro p hp
      simp only [List.mem_cons, List.not_mem_nil, or_false] at hp
      rcases hp with rfl | rfl
      · exact Nat.lt_succ_self _
      · exact hob _ (List.mem_of_getElem? (i := 0) rfl)
  · simp at h

def mvP (at_ : List Int) (c : Term) (d : Int) : Term := setAt c (if c.depth = d then move1 c.at_ at_ else c.at_)
def r21_moveRel (r : Rel) (depth : Int) (at_ : List Int) : Rel := mapR (mvP at_) depth r
def r21_moves (l : List Term) (depth : Int) (at_ : List Int) : List Term := mapTs (mvP at_) depth l
def r21_Move (t : Term) (depth : Int) (at_ : List Int) : Term := mapT (mvP at_) depth t
theorem foldl_snoc {α β : Type} (f : α → β) : ∀ (l : List α) (o : List β), l.foldl (fun o x => o ++ [f x]) o = o ++ l.map f
  | [], o => by simp
  | x :: l, o => by rw [List.foldl_cons, foldl_snoc f l]; simp

def A_r21_moveRel (r : Rel) : List (A Un) := [.agg (encC Ty.rel r)]
def O_r21_moveRel (_r : Rel) : List (Ob Un) := []

def Fm_r21_moveRel (m : Nat) : FnC Un := fun args => match args with
  | [x0, x1, x2] => (dS .rel x0).bind fun r => (dI .i64 x1).bind fun depth => (dL .int x2).bind fun at_ => some ([2 * r.ht < m, inOK depth r.sz], A_r21_moveRel (r21_moveRel r depth at_), O_r21_moveRel (r21_moveRel r depth at_))
  | _ => none

def A_r21_moves (r : List Term) : List (A Un) := [.c (.sl (U := Un) Ty.term r false)]
def O_r21_moves (_r : List Term) : List (Ob Un) := []

def Fm_r21_moves (m : Nat) : FnC Un := fun args => match args with
  | [x0, x1, x2] => (dL .term x0).bind fun l => (dI .i64 x1).bind fun depth => (dL .int x2).bind fun at_ => some ([2 * htTs l + 1 < m, inOK depth (szTs l)], A_r21_moves (r21_moves l depth at_), O_r21_moves (r21_moves l depth at_))
  | _ => none

def A_r21_Move (r : Term) : List (A Un) := [.agg (encC Ty.term r)]
def O_r21_Move (_r : Term) : List (Ob Un) := []

def Fm_r21_Move (m : Nat) : FnC Un := fun args => match args with
  | [x0, x1, x2] => (dS .term x0).bind fun t => (dI .i64 x1).bind fun depth => (dL .int x2).bind fun at_ => some ([2 * t.ht < m, inOK depth t.sz], A_r21_Move (r21_Move t depth at_), O_r21_Move (r21_Move t depth at_))
  | _ => none

/-! ### tabellionref21.moveRel -/
def M_r21_moveRel (m : Nat) : Mc Un := mach (tbl [(48, Fm_r21_moves m), (49, Fm_r21_moveRel m)]) (tbl []) (tbl []) (tbl []) (tbl [])
def R_r21_moveRel (r : Rel) : RF Un := (A_r21_moveRel r, O_r21_moveRel r)
def N_r21_moveRel : Nat → NS := fun l => (look l [(4, { ts := bl 63 462, bs := bl 63 72, nm := [(.sl 7, 252)] }), (10, { ts := bl 63 1614, bs := bl 63 72, nm := [(.sl 9, 253), (.cell 3 5, 254)] })]).getD ⟨[], [], [], [], []⟩
def r21_moveRel_c1 (r : Rel) (depth : Int) (at_ : List Int) (v2 : Int) := r21_moveRel (Rel.mk (Rel.op (r.kids.getD v2.toNat zeroRel)) (Rel.table (r.kids.getD v2.toNat zeroRel)) (Rel.cols (r.kids.getD v2.toNat zeroRel)) (Rel.kids (r.kids.getD v2.toNat zeroRel)) (Rel.terms (r.kids.getD v2.toNat zeroRel)) (Rel.aggs (r.kids.getD v2.toNat zeroRel)) (Rel.keys (r.kids.getD v2.toNat zeroRel)) (Rel.limit (r.kids.getD v2.toNat zeroRel)) (Rel.skip (r.kids.getD v2.toNat zeroRel)) (Rel.all (r.kids.getD v2.toNat zeroRel)) (Rel.rows (r.kids.getD v2.toNat zeroRel))) depth at_
def r21_moveRel_s4 (r : Rel) (depth : Int) (at_ : List Int) (v0 : Int) (v1 : List Agg) : S Un := (st 63 63 255 0 [(1, ai depth), (2, al .int at_), (3, ax 3), (6, ax 6), (7, ao 252), (8, ai v0)] [(3, some (false, encC Ty.rel (Rel.mk r.op r.table r.cols r.kids (r21_moves r.terms depth at_) r.aggs r.keys r.limit r.skip r.all r.rows))), (6, some (false, [C.s (Value.int IntKind.i64 (0 : Int)), C.s (Value.string (ByteArray.mk #[])), C.sl Ty.col [] true, C.sl Ty.rel [] true, C.sl Ty.term [] true, C.sl Ty.agg [] true, C.sl Ty.by_ [] true, C.s (Value.int IntKind.i64 (0 : Int)), C.s (Value.int IntKind.i64 (0 : Int)), C.s (Value.bool false), C.sl Ty.row [] true]))] [(252, some ⟨(0 : Nat), Ty.agg, v1, some (0 : Nat), true⟩)])
def r21_moveRel_s10 (r : Rel) (depth : Int) (at_ : List Int) (v1 : List Agg) (v2 : Int) (v3 : List Rel) : S Un := (st 63 63 255 0 [(1, ai depth), (2, al .int at_), (3, ax 3), (6, ax 6), (9, ao 253), (10, ai v2)] [(3, some (false, [C.s (Value.int IntKind.i64 r.op), C.s (Value.string r.table), C.sl Ty.col r.cols false, C.sl Ty.rel r.kids false, C.sl Ty.term (r21_moves r.terms depth at_) false, C.ob (254 : Nat) (0 : Nat), C.sl Ty.by_ r.keys false, C.s (Value.int IntKind.i64 r.limit), C.s (Value.int IntKind.i64 r.skip), C.s (Value.bool r.all), C.sl Ty.row r.rows false])), (6, some (false, [C.s (Value.int IntKind.i64 (0 : Int)), C.s (Value.string (ByteArray.mk #[])), C.sl Ty.col [] true, C.sl Ty.rel [] true, C.sl Ty.term [] true, C.sl Ty.agg [] true, C.sl Ty.by_ [] true, C.s (Value.int IntKind.i64 (0 : Int)), C.s (Value.int IntKind.i64 (0 : Int)), C.s (Value.bool false), C.sl Ty.row [] true]))] [(253, some ⟨(0 : Nat), Ty.rel, v3, some (0 : Nat), true⟩), (254, some ⟨(0 : Nat), Ty.agg, v1, some (0 : Nat), true⟩)])
def r21_moveRel_B4 : Code := sub (bodyOf Try.f49) [1, 1, 1, 0, 1, 2, 2]
def r21_moveRel_L4 (m : Nat) : S Un → Option (EX Un) := loopF (N_r21_moveRel 4) (fun s Q => awf (M_r21_moveRel m) N_r21_moveRel r21_moveRel_B4 s Q)
def r21_moveRel_B10 : Code := sub (bodyOf Try.f49) [1, 1, 1, 1, 1, 1, 0, 1, 2, 2]
def r21_moveRel_L10 (m : Nat) : S Un → Option (EX Un) := loopF (N_r21_moveRel 10) (fun s Q => awf (M_r21_moveRel m) N_r21_moveRel r21_moveRel_B10 s Q)
def r21_moveRel_C4 (m : Nat) : Exit → S Un → Option (RF Un) := ctxF (M_r21_moveRel m) N_r21_moveRel (bodyOf Try.f49) [1, 1, 1, 0, 1, 2] (retF (M_r21_moveRel m) Try.f49.results.toList [.d])
def r21_moveRel_C10 (m : Nat) : Exit → S Un → Option (RF Un) := ctxF (M_r21_moveRel m) N_r21_moveRel (bodyOf Try.f49) [1, 1, 1, 1, 1, 1, 0, 1, 2] (retF (M_r21_moveRel m) Try.f49.results.toList [.d])
def r21_moveRel_fn (m : Nat) (r : Rel) (depth : Int) (at_ : List Int) : Option (RF Un) := awf (M_r21_moveRel m) N_r21_moveRel (bodyOf Try.f49) (entry Try.f49.ntmps 3 [.d (.agg (enc Ty.rel r)), .d (.v (.s (.int .i64 depth))), .d (.v (.dat (U := Un) Ty.int at_))]) (retF (M_r21_moveRel m) Try.f49.results.toList [.d])
theorem r21_moveRel_in (m : Nat) (r : Rel) (depth : Int) (at_ : List Int) : r21_moveRel_fn m r depth at_ =
 obO ((2 : Nat) * htTs r.terms + (1 : Nat) < m)
  (obO (inOK depth (szTs r.terms))
   (obO ((0 + r.aggs.length) * (48 : Nat) ≤ roomB)
    ((r21_moveRel_L4 m (r21_moveRel_s4 r depth at_ (0 : Int) r.aggs)).bind (thenX (r21_moveRel_C4 m))))) := by kernel_rfl
theorem r21_moveRel_l4 (m : Nat) (r : Rel) (depth : Int) (at_ : List Int) (v0 : Int) (v1 : List Agg) : r21_moveRel_L4 m (r21_moveRel_s4 r depth at_ v0 v1) =
 cndO (decide (v0 < (↑v1.length : Int)))
  (obO (0 ≤ v0 ∧ v0 < (↑v1.length : Int))
   (obO ((2 : Nat) * htTs (Agg.t (v1.getD v0.toNat zeroAgg)) + (1 : Nat) < m)
    (obO (inOK depth (szTs (Agg.t (v1.getD v0.toNat zeroAgg))))
     (obO (0 ≤ v0 ∧ v0 < (↑v1.length : Int))
      (obO ((0 : Nat) ≤ v0.toNat)
       (r21_moveRel_L4 m (r21_moveRel_s4 r depth at_ (IntKind.i64.wrap (v0 + 1)) (v1.set v0.toNat (Agg.mk (Agg.name (v1.getD v0.toNat zeroAgg)) (Agg.distinct (v1.getD v0.toNat zeroAgg)) (r21_moves (Agg.t (v1.getD v0.toNat zeroAgg)) depth at_))))))))))
  (some (.exit 0, (r21_moveRel_s4 r depth at_ v0 v1))) := (loopF_eq (N_r21_moveRel 4) r21_moveRel_B4 _).trans (by kernel_rfl)
theorem r21_moveRel_a4_x0 (m : Nat) (r : Rel) (depth : Int) (at_ : List Int) (v0 : Int) (v1 : List Agg) : r21_moveRel_C4 m (.exit 0) (r21_moveRel_s4 r depth at_ v0 v1) =
 (r21_moveRel_L10 m (r21_moveRel_s10 r depth at_ v1 (0 : Int) ([]))).bind (thenX (r21_moveRel_C10 m)) := by kernel_rfl
theorem r21_moveRel_l10 (m : Nat) (r : Rel) (depth : Int) (at_ : List Int) (v1 : List Agg) (v2 : Int) (v3 : List Rel) : r21_moveRel_L10 m (r21_moveRel_s10 r depth at_ v1 v2 v3) =
 cndO (decide (v2 < (↑r.kids.length : Int)))
  (obO (0 ≤ v2 ∧ v2 < (↑r.kids.length : Int))
   (obO ((2 : Nat) * (Rel.ids (r.kids.getD v2.toNat zeroRel)).ht < m)
    (obO (inOK depth (Rel.ids (r.kids.getD v2.toNat zeroRel)).sz)
     (obO ((v3.length + [(Rel.mk (r21_moveRel_c1 r depth at_ v2).op (r21_moveRel_c1 r depth at_ v2).table (r21_moveRel_c1 r depth at_ v2).cols (r21_moveRel_c1 r depth at_ v2).kids (r21_moveRel_c1 r depth at_ v2).terms (r21_moveRel_c1 r depth at_ v2).aggs (r21_moveRel_c1 r depth at_ v2).keys (r21_moveRel_c1 r depth at_ v2).limit (r21_moveRel_c1 r depth at_ v2).skip (r21_moveRel_c1 r depth at_ v2).all (r21_moveRel_c1 r depth at_ v2).rows)].length) * (192 : Nat) ≤ roomB)
      (r21_moveRel_L10 m (r21_moveRel_s10 r depth at_ v1 (IntKind.i64.wrap (v2 + 1)) (v3 ++ [(Rel.mk (r21_moveRel_c1 r depth at_ v2).op (r21_moveRel_c1 r depth at_ v2).table (r21_moveRel_c1 r depth at_ v2).cols (r21_moveRel_c1 r depth at_ v2).kids (r21_moveRel_c1 r depth at_ v2).terms (r21_moveRel_c1 r depth at_ v2).aggs (r21_moveRel_c1 r depth at_ v2).keys (r21_moveRel_c1 r depth at_ v2).limit (r21_moveRel_c1 r depth at_ v2).skip (r21_moveRel_c1 r depth at_ v2).all (r21_moveRel_c1 r depth at_ v2).rows)])))))))
  (some (.exit 2, (r21_moveRel_s10 r depth at_ v1 v2 v3))) := (loopF_eq (N_r21_moveRel 10) r21_moveRel_B10 _).trans (by kernel_rfl)
theorem r21_moveRel_a10_x2 (m : Nat) (r : Rel) (depth : Int) (at_ : List Int) (v1 : List Agg) (v2 : Int) (v3 : List Rel) : r21_moveRel_C10 m (.exit 2) (r21_moveRel_s10 r depth at_ v1 v2 v3) =
 some (R_r21_moveRel (Rel.mk r.op r.table r.cols v3 (r21_moves r.terms depth at_) v1 r.keys r.limit r.skip r.all r.rows)) := by kernel_rfl

theorem r21_moveRel_spec (m : Nat) (r : Rel) (depth : Int) (at_ : List Int) (hr : WS .rel r) (_hd : WI depth) (_ha : WL .int at_) (hm : 2 * r.ht < m + 1) (h : inOK depth r.sz) : r21_moveRel_fn m r depth at_ = some (R_r21_moveRel (r21_moveRel r depth at_)) := by
  obtain ⟨h1, h2, h3⟩ := h
  have hsz := r.sz_eq
  have hk : htTs r.terms < r.ht ∧ htAs r.aggs < r.ht ∧ htRs r.kids < r.ht := by cases r; simp only [Rel.ht, Rel.kids_mk, Rel.terms_mk, Rel.aggs_mk]; omega
  have hal := szAs_len r.aggs
  have hkl := szRs_len r.kids
  have l4 := loop_map (e := .exit 0) (L := r21_moveRel_L4 m) (st := fun xs i => r21_moveRel_s4 r depth at_ i xs) (l := r.aggs) (d := zeroAgg) (mapA (mvP at_) depth) (hr.rel_aggs).len
    (fun xs i x hi hxl hx hmem => by
      have hsz := szAs_mem hmem
      have hxs := x.sz_eq
      have hht := htAs_mem hmem
      have hxh : htTs x.t < x.ht := by cases x; simp only [Agg.ht, Agg.t_mk]; omega
      rw [r21_moveRel_l4]
      simp only [cndO_eq, hxl, hi, decide_true, if_true, and_true, Int.toNat_natCast, hx, r21_moves]
      rw [obO_pos (by omega), obO_pos (by omega), obO_pos (show inOK _ _ from ⟨h1, by omega, by omega⟩), obO_pos (by omega), obO_pos (by omega), mapA_eq])
    (fun xs hxl => by rw [r21_moveRel_l4]; simp [cndO_eq, hxl])
  have l10 := (loop_fold (e := .exit 2) (L := r21_moveRel_L10 m) (st := fun o i => r21_moveRel_s10 r depth at_ (r.aggs.map (mapA (mvP at_) depth)) i o) (l := r.kids) (d := zeroRel) (g := fun o x => o ++ [mapR (mvP at_) depth x]) (fun i o => o.length = i) (hr.rel_kids).len
    (fun o i x hi hx hI => by
      have hil : i < r.kids.length := by omega
      have hI' : o.length = i := hI
      have hmem : x ∈ r.kids := by rw [← hx]; exact getD_mem hil
      have hsz := szRs_mem hmem
      have hht := htRs_mem hmem
      refine ⟨by show (o ++ [mapR (mvP at_) depth x]).length = i + 1; rw [List.length_append, List.length_singleton]; omega, ?_⟩
      rw [r21_moveRel_l10]
      simp only [r21_moveRel_c1, rel_eta, Rel.ids_eq, cndO_eq, hi, decide_true, if_true, and_true, Int.toNat_natCast, hx, r21_moveRel]
      rw [obO_pos (by omega), obO_pos (by omega), obO_pos (show inOK _ _ from ⟨h1, by omega, by omega⟩), obO_pos (by unfold roomB; rw [List.length_singleton]; omega)])
    (fun o _ => by rw [r21_moveRel_l10]; simp [cndO_eq]) [] rfl).1
  rw [foldl_snoc, List.nil_append] at l10
  rw [r21_moveRel_in, obO_pos (by omega), obO_pos (show inOK _ _ from ⟨h1, by omega, by omega⟩), obO_pos (by unfold roomB; omega), loop_end l4, r21_moveRel_a4_x0, loop_end l10, r21_moveRel_a10_x2]
  unfold r21_moveRel r21_moves
  rw [mapR_eq, mapAs_map, mapRs_map]

theorem okm_r21_moveRel (m : Nat) (h_r21_moveRel : FnOK 49 (Fm_r21_moveRel m)) (h_r21_moves : FnOK 48 (Fm_r21_moves m)) (h_r21_Move : FnOK 20 (Fm_r21_Move m)) : FnOK 49 (Fm_r21_moveRel (m + 1)) := by
  intro args ob rs os h hob
  unfold Fm_r21_moveRel at h
  split at h
  · simp only [Option.bind_eq_some_iff, Option.some.injEq, Prod.mk.injEq] at h
    obtain ⟨r, e0, depth, e1, at_, e2, rfl, rfl, rfl⟩ := h
    obtain rfl := dS_eq e0
    obtain rfl := dI_eq e1
    obtain rfl := dL_eq e2
    exact ⟨fn_contractF (M := (M_r21_moveRel m)) rfl (tbl_ok (l1 := [(48, Fm_r21_moves m), (49, Fm_r21_moveRel m)]) (l2 := []) (l3 := []) (l4 := []) (l5 := []) ⟨h_r21_moves, h_r21_moveRel, trivial⟩ trivial trivial trivial trivial) Try.func49 (by kernel_rfl) N_r21_moveRel 3 [.d] (fun hwf => (r21_moveRel_spec m r depth at_ (wfArg hwf (a := .d (.agg (enc Ty.rel r))) (List.mem_of_getElem? (i := 0) rfl)) (wfArg hwf (a := .d (.v (.s (.int .i64 depth)))) (List.mem_of_getElem? (i := 1) rfl)) (wfArg hwf (a := .d (.v (.dat (U := Un) Ty.int at_))) (List.mem_of_getElem? (i := 2) rfl)) (hob _ (List.mem_of_getElem? (i := 0) rfl)) (hob _ (List.mem_of_getElem? (i := 1) rfl)))), hasBody_of Try.func49 (by kernel_rfl) (by kernel_rfl)⟩
  · simp at h


/-! ### tabellionref21.moves -/
def M_r21_moves (m : Nat) : Mc Un := mach (tbl [(20, Fm_r21_Move m)]) (tbl []) (tbl []) (tbl []) (tbl [])
def R_r21_moves (r : List Term) : RF Un := (A_r21_moves r, O_r21_moves r)
def N_r21_moves : Nat → NS := fun l => (look l [(3, { ts := bl 27 391, bs := bl 27 0, nm := [(.sl 7, 108)] })]).getD ⟨[], [], [], [], []⟩
def r21_moves_s3 (l : List Term) (depth : Int) (at_ : List Int) (v0 : Int) (v1 : List Term) : S Un := (st 27 27 109 0 [(0, al .term l), (1, ai depth), (2, al .int at_), (7, ao 108), (8, ai v0)] [] [(108, some ⟨(0 : Nat), Ty.term, v1, some (0 : Nat), true⟩)])
def r21_moves_B3 : Code := sub (bodyOf Try.f48) [1, 1, 0, 1, 2, 2]
def r21_moves_L3 (m : Nat) : S Un → Option (EX Un) := loopF (N_r21_moves 3) (fun s Q => awf (M_r21_moves m) N_r21_moves r21_moves_B3 s Q)
def r21_moves_C3 (m : Nat) : Exit → S Un → Option (RF Un) := ctxF (M_r21_moves m) N_r21_moves (bodyOf Try.f48) [1, 1, 0, 1, 2] (retF (M_r21_moves m) Try.f48.results.toList [.d])
def r21_moves_fn (m : Nat) (l : List Term) (depth : Int) (at_ : List Int) : Option (RF Un) := awf (M_r21_moves m) N_r21_moves (bodyOf Try.f48) (entry Try.f48.ntmps 1 [.d (.v (.dat (U := Un) Ty.term l)), .d (.v (.s (.int .i64 depth))), .d (.v (.dat (U := Un) Ty.int at_))]) (retF (M_r21_moves m) Try.f48.results.toList [.d])
theorem r21_moves_in (m : Nat) (l : List Term) (depth : Int) (at_ : List Int) : r21_moves_fn m l depth at_ =
 (r21_moves_L3 m (r21_moves_s3 l depth at_ (0 : Int) ([]))).bind (thenX (r21_moves_C3 m)) := by kernel_rfl
theorem r21_moves_l3 (m : Nat) (l : List Term) (depth : Int) (at_ : List Int) (v0 : Int) (v1 : List Term) : r21_moves_L3 m (r21_moves_s3 l depth at_ v0 v1) =
 cndO (decide (v0 < (↑l.length : Int)))
  (obO (0 ≤ v0 ∧ v0 < (↑l.length : Int))
   (obO ((2 : Nat) * (Term.ids (l.getD v0.toNat zeroTerm)).ht < m)
    (obO (inOK depth (Term.ids (l.getD v0.toNat zeroTerm)).sz)
     (obO ((v1.length + [(Term.mk (r21_Move (Term.ids (l.getD v0.toNat zeroTerm)) depth at_).op (r21_Move (Term.ids (l.getD v0.toNat zeroTerm)) depth at_).v (r21_Move (Term.ids (l.getD v0.toNat zeroTerm)) depth at_).depth (r21_Move (Term.ids (l.getD v0.toNat zeroTerm)) depth at_).at_ (r21_Move (Term.ids (l.getD v0.toNat zeroTerm)) depth at_).name (r21_Move (Term.ids (l.getD v0.toNat zeroTerm)) depth at_).kids (r21_Move (Term.ids (l.getD v0.toNat zeroTerm)) depth at_).sub (r21_Move (Term.ids (l.getD v0.toNat zeroTerm)) depth at_).type)].length) * (128 : Nat) ≤ roomB)
      (r21_moves_L3 m (r21_moves_s3 l depth at_ (IntKind.i64.wrap (v0 + 1)) (v1 ++ [(Term.mk (r21_Move (Term.ids (l.getD v0.toNat zeroTerm)) depth at_).op (r21_Move (Term.ids (l.getD v0.toNat zeroTerm)) depth at_).v (r21_Move (Term.ids (l.getD v0.toNat zeroTerm)) depth at_).depth (r21_Move (Term.ids (l.getD v0.toNat zeroTerm)) depth at_).at_ (r21_Move (Term.ids (l.getD v0.toNat zeroTerm)) depth at_).name (r21_Move (Term.ids (l.getD v0.toNat zeroTerm)) depth at_).kids (r21_Move (Term.ids (l.getD v0.toNat zeroTerm)) depth at_).sub (r21_Move (Term.ids (l.getD v0.toNat zeroTerm)) depth at_).type)])))))))
  (some (.exit 0, (r21_moves_s3 l depth at_ v0 v1))) := (loopF_eq (N_r21_moves 3) r21_moves_B3 _).trans (by kernel_rfl)
theorem r21_moves_a3_x0 (m : Nat) (l : List Term) (depth : Int) (at_ : List Int) (v0 : Int) (v1 : List Term) : r21_moves_C3 m (.exit 0) (r21_moves_s3 l depth at_ v0 v1) =
 some (R_r21_moves (v1)) := by kernel_rfl

theorem r21_moves_spec (m : Nat) (l : List Term) (depth : Int) (at_ : List Int) (hl : WL .term l) (_hd : WI depth) (_ha : WL .int at_) (hm : 2 * htTs l + 1 < m + 1) (h : inOK depth (szTs l)) : r21_moves_fn m l depth at_ = some (R_r21_moves (r21_moves l depth at_)) := by
  obtain ⟨h1, h2, h3⟩ := h
  have hsl := szTs_len l
  have l3 := (loop_fold (e := .exit 0) (L := r21_moves_L3 m) (st := fun o i => r21_moves_s3 l depth at_ i o) (l := l) (d := zeroTerm) (g := fun o x => o ++ [mapT (mvP at_) depth x]) (fun i o => o.length = i) hl.len
    (fun o i x hi hx hI => by
      have hil : i < l.length := by omega
      have hI' : o.length = i := hI
      have hmem : x ∈ l := by rw [← hx]; exact getD_mem hil
      have hsz := szTs_mem hmem
      have hht := htTs_mem hmem
      refine ⟨by show (o ++ [mapT (mvP at_) depth x]).length = i + 1; rw [List.length_append, List.length_singleton]; omega, ?_⟩
      rw [r21_moves_l3]
      simp only [Term.ids_eq, term_eta, cndO_eq, hi, decide_true, if_true, and_true, Int.toNat_natCast, hx, r21_Move]
      rw [obO_pos (by omega), obO_pos (by omega), obO_pos (show inOK _ _ from ⟨h1, by omega, by omega⟩), obO_pos (by unfold roomB; rw [List.length_singleton]; omega)])
    (fun o _ => by rw [r21_moves_l3]; simp [cndO_eq]) [] rfl).1
  rw [foldl_snoc, List.nil_append] at l3
  rw [r21_moves_in, loop_end l3, r21_moves_a3_x0]
  unfold r21_moves
  rw [mapTs_map]

theorem okm_r21_moves (m : Nat) (h_r21_moveRel : FnOK 49 (Fm_r21_moveRel m)) (h_r21_moves : FnOK 48 (Fm_r21_moves m)) (h_r21_Move : FnOK 20 (Fm_r21_Move m)) : FnOK 48 (Fm_r21_moves (m + 1)) := by
  intro args ob rs os h hob
  unfold Fm_r21_moves at h
  split at h
  · simp only [Option.bind_eq_some_iff, Option.some.injEq, Prod.mk.injEq] at h
    obtain ⟨l, e0, depth, e1, at_, e2, rfl, rfl, rfl⟩ := h
    obtain rfl := dL_eq e0
    obtain rfl := dI_eq e1
    obtain rfl := dL_eq e2
    exact ⟨fn_contractF (M := (M_r21_moves m)) rfl (tbl_ok (l1 := [(20, Fm_r21_Move m)]) (l2 := []) (l3 := []) (l4 := []) (l5 := []) ⟨h_r21_Move, trivial⟩ trivial trivial trivial trivial) Try.func48 (by kernel_rfl) N_r21_moves 1 [.d] (fun hwf => (r21_moves_spec m l depth at_ (wfArg hwf (a := .d (.v (.dat (U := Un) Ty.term l))) (List.mem_of_getElem? (i := 0) rfl)) (wfArg hwf (a := .d (.v (.s (.int .i64 depth)))) (List.mem_of_getElem? (i := 1) rfl)) (wfArg hwf (a := .d (.v (.dat (U := Un) Ty.int at_))) (List.mem_of_getElem? (i := 2) rfl)) (hob _ (List.mem_of_getElem? (i := 0) rfl)) (hob _ (List.mem_of_getElem? (i := 1) rfl)))), hasBody_of Try.func48 (by kernel_rfl) (by kernel_rfl)⟩
  · simp at h


/-! ### tabellionref21.Move -/
def M_r21_Move (m : Nat) : Mc Un := mach (tbl [(48, Fm_r21_moves m), (49, Fm_r21_moveRel m)]) (tbl []) (tbl []) (tbl []) (tbl [])
def R_r21_Move (r : Term) : RF Un := (A_r21_Move r, O_r21_Move r)
def N_r21_Move : Nat → NS := fun l => (look l [(6, { ts := bl 65 462, bs := bl 65 72, nm := [(.sl 7, 260)], gb := [3] })]).getD ⟨[], [], [], [], []⟩
def r21_Move_c1 (depth : Int) (at_ : List Int) (b3 : Term) (v0 : Int) := r21_moveRel (Rel.mk (Rel.op (b3.sub.getD v0.toNat zeroRel)) (Rel.table (b3.sub.getD v0.toNat zeroRel)) (Rel.cols (b3.sub.getD v0.toNat zeroRel)) (Rel.kids (b3.sub.getD v0.toNat zeroRel)) (Rel.terms (b3.sub.getD v0.toNat zeroRel)) (Rel.aggs (b3.sub.getD v0.toNat zeroRel)) (Rel.keys (b3.sub.getD v0.toNat zeroRel)) (Rel.limit (b3.sub.getD v0.toNat zeroRel)) (Rel.skip (b3.sub.getD v0.toNat zeroRel)) (Rel.all (b3.sub.getD v0.toNat zeroRel)) (Rel.rows (b3.sub.getD v0.toNat zeroRel))) (IntKind.i64.wrap (depth + 1)) at_
def r21_Move_s6 (depth : Int) (at_ : List Int) (b3 : Term) (v0 : Int) (v1 : List Rel) : S Un := (st 65 65 261 0 [(1, ai depth), (2, al .int at_), (3, ax 3), (6, ax 6), (7, ao 260), (8, ai v0)] [(3, bg .term b3), (6, some (false, [C.s (Value.int IntKind.i64 (0 : Int)), C.s (Value.int IntKind.i64 (0 : Int)), C.s (Value.int IntKind.i64 (0 : Int)), C.s (Value.string (ByteArray.mk #[])), C.s (Value.int IntKind.i64 (0 : Int)), C.s (Value.int IntKind.i64 (0 : Int)), C.s (Value.string (ByteArray.mk #[])), C.sl Ty.term [] true, C.sl Ty.rel [] true, C.s (Value.int IntKind.i64 (0 : Int))]))] [(260, some ⟨(0 : Nat), Ty.rel, v1, some (0 : Nat), true⟩)])
def r21_Move_B6 : Code := sub (bodyOf Try.f20) [1, 1, 1, 1, 0, 1, 2, 2]
def r21_Move_L6 (m : Nat) : S Un → Option (EX Un) := loopF (N_r21_Move 6) (fun s Q => awf (M_r21_Move m) N_r21_Move r21_Move_B6 s Q)
def r21_Move_C6 (m : Nat) : Exit → S Un → Option (RF Un) := ctxF (M_r21_Move m) N_r21_Move (bodyOf Try.f20) [1, 1, 1, 1, 0, 1, 2] (retF (M_r21_Move m) Try.f20.results.toList [.d])
def r21_Move_fn (m : Nat) (t : Term) (depth : Int) (at_ : List Int) : Option (RF Un) := awf (M_r21_Move m) N_r21_Move (bodyOf Try.f20) (entry Try.f20.ntmps 1 [.d (.agg (enc Ty.term t)), .d (.v (.s (.int .i64 depth))), .d (.v (.dat (U := Un) Ty.int at_))]) (retF (M_r21_Move m) Try.f20.results.toList [.d])
def r21_Move_t1 (m : Nat) (t : Term) (depth : Int) (at_ : List Int) : Option (RF Un) :=
 obO ((2 : Nat) * htTs t.kids + (1 : Nat) < m)
  (obO (inOK depth (szTs t.kids))
   ((r21_Move_L6 m (r21_Move_s6 depth at_ (Term.mk t.op t.v t.depth t.at_ t.name (r21_moves t.kids depth at_) t.sub t.type) (0 : Int) ([]))).bind (thenX (r21_Move_C6 m))))
theorem r21_Move_in (m : Nat) (t : Term) (depth : Int) (at_ : List Int) : r21_Move_fn m t depth at_ =
 cndO (t.op == 2)
  (cndO (t.depth == depth)
   (cndO (decide (t.at_ ≥ 0))
    (cndO (decide (t.at_ < (↑at_.length : Int)))
     (obO (0 ≤ t.at_ ∧ t.at_ < (↑at_.length : Int))
      (obO ((2 : Nat) * htTs t.kids + (1 : Nat) < m)
       (obO (inOK depth (szTs t.kids))
        ((r21_Move_L6 m (r21_Move_s6 depth at_ (Term.mk t.op t.v t.depth (at_.getD t.at_.toNat (0 : Int)) t.name (r21_moves t.kids depth at_) t.sub t.type) (0 : Int) ([]))).bind (thenX (r21_Move_C6 m))))))
     (r21_Move_t1 m t depth at_))
    (r21_Move_t1 m t depth at_))
   (r21_Move_t1 m t depth at_))
  (r21_Move_t1 m t depth at_) := by kernel_rfl
theorem r21_Move_l6 (m : Nat) (depth : Int) (at_ : List Int) (b3 : Term) (v0 : Int) (v1 : List Rel) : r21_Move_L6 m (r21_Move_s6 depth at_ b3 v0 v1) =
 cndO (decide (v0 < (↑b3.sub.length : Int)))
  (obO (0 ≤ v0 ∧ v0 < (↑b3.sub.length : Int))
   (obO ((2 : Nat) * (Rel.ids (b3.sub.getD v0.toNat zeroRel)).ht < m)
    (obO (inOK (IntKind.i64.wrap (depth + 1)) (Rel.ids (b3.sub.getD v0.toNat zeroRel)).sz)
     (obO ((v1.length + [(Rel.mk (r21_Move_c1 depth at_ b3 v0).op (r21_Move_c1 depth at_ b3 v0).table (r21_Move_c1 depth at_ b3 v0).cols (r21_Move_c1 depth at_ b3 v0).kids (r21_Move_c1 depth at_ b3 v0).terms (r21_Move_c1 depth at_ b3 v0).aggs (r21_Move_c1 depth at_ b3 v0).keys (r21_Move_c1 depth at_ b3 v0).limit (r21_Move_c1 depth at_ b3 v0).skip (r21_Move_c1 depth at_ b3 v0).all (r21_Move_c1 depth at_ b3 v0).rows)].length) * (192 : Nat) ≤ roomB)
      (r21_Move_L6 m (r21_Move_s6 depth at_ b3 (IntKind.i64.wrap (v0 + 1)) (v1 ++ [(Rel.mk (r21_Move_c1 depth at_ b3 v0).op (r21_Move_c1 depth at_ b3 v0).table (r21_Move_c1 depth at_ b3 v0).cols (r21_Move_c1 depth at_ b3 v0).kids (r21_Move_c1 depth at_ b3 v0).terms (r21_Move_c1 depth at_ b3 v0).aggs (r21_Move_c1 depth at_ b3 v0).keys (r21_Move_c1 depth at_ b3 v0).limit (r21_Move_c1 depth at_ b3 v0).skip (r21_Move_c1 depth at_ b3 v0).all (r21_Move_c1 depth at_ b3 v0).rows)])))))))
  (some (.exit 0, (r21_Move_s6 depth at_ b3 v0 v1))) := (loopF_eq (N_r21_Move 6) r21_Move_B6 _).trans (by kernel_rfl)
theorem r21_Move_a6_x0 (m : Nat) (depth : Int) (at_ : List Int) (b3 : Term) (v0 : Int) (v1 : List Rel) : r21_Move_C6 m (.exit 0) (r21_Move_s6 depth at_ b3 v0 v1) =
 some (R_r21_Move (Term.mk b3.op b3.v b3.depth b3.at_ b3.name b3.kids v1 b3.type)) := by kernel_rfl

theorem r21_Move_end (m : Nat) (b3 : Term) (depth : Int) (at_ : List Int) (hl : b3.sub.length ≤ 1000000) (hd : -1000000 ≤ depth ∧ depth ≤ 10000000) (hs : depth + 1 + szRs b3.sub ≤ 10000000 ∧ szRs b3.sub ≤ 1000000) (hh : 2 * htRs b3.sub < m) :
    (r21_Move_L6 m (r21_Move_s6 depth at_ b3 (0 : Int) ([]))).bind (thenX (r21_Move_C6 m)) = some (R_r21_Move (Term.mk b3.op b3.v b3.depth b3.at_ b3.name b3.kids (mapRs (mvP at_) (depth + 1) b3.sub) b3.type)) := by
  have hw : IntKind.i64.wrap (depth + 1) = depth + 1 := wrap_id (by omega)
  have l6 := (loop_fold (e := .exit 0) (L := r21_Move_L6 m) (st := fun o i => r21_Move_s6 depth at_ b3 i o) (l := b3.sub) (d := zeroRel) (g := fun o x => o ++ [mapR (mvP at_) (depth + 1) x]) (fun i o => o.length = i) (by omega)
    (fun o i x hi hx hI => by
      have hil : i < b3.sub.length := by omega
      have hI' : o.length = i := hI
      have hmem : x ∈ b3.sub := by rw [← hx]; exact getD_mem hil
      have hsz := szRs_mem hmem
      have hht := htRs_mem hmem
      refine ⟨by show (o ++ [mapR (mvP at_) (depth + 1) x]).length = i + 1; rw [List.length_append, List.length_singleton]; omega, ?_⟩
      rw [r21_Move_l6]
      simp only [r21_Move_c1, rel_eta, Rel.ids_eq, cndO_eq, hi, decide_true, if_true, and_true, Int.toNat_natCast, hx, hw, r21_moveRel]
      rw [obO_pos (by omega), obO_pos (by omega), obO_pos (show inOK _ _ from ⟨by omega, by omega, by omega⟩), obO_pos (by unfold roomB; rw [List.length_singleton]; omega)])
    (fun o _ => by rw [r21_Move_l6]; simp [cndO_eq]) [] rfl).1
  rw [foldl_snoc, List.nil_append] at l6
  rw [loop_end l6, r21_Move_a6_x0, mapRs_map]
theorem r21_Move_spec (m : Nat) (t : Term) (depth : Int) (at_ : List Int) (_ht : WS .term t) (_hd : WI depth) (_ha : WL .int at_) (hm : 2 * t.ht < m + 1) (h : inOK depth t.sz) : r21_Move_fn m t depth at_ = some (R_r21_Move (r21_Move t depth at_)) := by
  obtain ⟨h1, h2, h3⟩ := h
  have hsz := t.sz_eq
  have hk : htTs t.kids < t.ht ∧ htRs t.sub < t.ht := by cases t; simp only [Term.ht, Term.kids_mk, Term.sub_mk]; omega
  have hsl := szRs_len t.sub
  have key : ∀ n : Int, (r21_Move_L6 m (r21_Move_s6 depth at_ (Term.mk t.op t.v t.depth n t.name (r21_moves t.kids depth at_) t.sub t.type) (0 : Int) ([]))).bind (thenX (r21_Move_C6 m)) = some (R_r21_Move (.mk t.op t.v t.depth n t.name (mapTs (mvP at_) depth t.kids) (mapRs (mvP at_) (depth + 1) t.sub) t.type)) := by
    intro n
    rw [r21_Move_end m _ depth at_ (by rw [Term.sub_mk]; omega) (by omega) (by rw [Term.sub_mk]; omega) (by rw [Term.sub_mk]; omega)]
    simp only [Term.op_mk, Term.v_mk, Term.depth_mk, Term.at__mk, Term.name_mk, Term.kids_mk, Term.sub_mk, Term.type_mk, r21_moves]
  have kt : r21_Move_t1 m t depth at_ = some (R_r21_Move (.mk t.op t.v t.depth t.at_ t.name (mapTs (mvP at_) depth t.kids) (mapRs (mvP at_) (depth + 1) t.sub) t.type)) := by
    unfold r21_Move_t1
    rw [obO_pos (by omega), obO_pos (show inOK _ _ from ⟨h1, by omega, by omega⟩), key]
  rw [r21_Move_in, kt]
  simp only [cndO_eq, beq_iff_eq, decide_eq_true_eq]
  unfold r21_Move
  rw [mapT_eq]
  by_cases e1 : t.op = 2
  · rw [if_pos e1, if_pos e1]
    unfold mvP
    simp only [setAt, Term.at__mk]
    by_cases e2 : t.depth = depth
    · rw [if_pos e2, if_pos e2]
      unfold move1
      by_cases e3 : t.at_ ≥ 0
      · by_cases e4 : t.at_ < (at_.length : Int)
        · rw [if_pos e3, if_pos e4, if_pos (show 0 ≤ t.at_ ∧ t.at_ < (at_.length : Int) from ⟨e3, e4⟩), obO_pos ⟨e3, e4⟩, obO_pos (by omega), obO_pos (show inOK _ _ from ⟨h1, by omega, by omega⟩), key]
          rfl
        · rw [if_pos e3, if_neg e4, if_neg (fun e => e4 e.2)]
      · rw [if_neg e3, if_neg (fun e => e3 e.1)]
    · rw [if_neg e2, if_neg e2]
  · rw [if_neg e1, if_neg e1]

theorem okm_r21_Move (m : Nat) (h_r21_moveRel : FnOK 49 (Fm_r21_moveRel m)) (h_r21_moves : FnOK 48 (Fm_r21_moves m)) (h_r21_Move : FnOK 20 (Fm_r21_Move m)) : FnOK 20 (Fm_r21_Move (m + 1)) := by
  intro args ob rs os h hob
  unfold Fm_r21_Move at h
  split at h
  · simp only [Option.bind_eq_some_iff, Option.some.injEq, Prod.mk.injEq] at h
    obtain ⟨t, e0, depth, e1, at_, e2, rfl, rfl, rfl⟩ := h
    obtain rfl := dS_eq e0
    obtain rfl := dI_eq e1
    obtain rfl := dL_eq e2
    exact ⟨fn_contractF (M := (M_r21_Move m)) rfl (tbl_ok (l1 := [(48, Fm_r21_moves m), (49, Fm_r21_moveRel m)]) (l2 := []) (l3 := []) (l4 := []) (l5 := []) ⟨h_r21_moves, h_r21_moveRel, trivial⟩ trivial trivial trivial trivial) Try.func20 (by kernel_rfl) N_r21_Move 1 [.d] (fun hwf => (r21_Move_spec m t depth at_ (wfArg hwf (a := .d (.agg (enc Ty.term t))) (List.mem_of_getElem? (i := 0) rfl)) (wfArg hwf (a := .d (.v (.s (.int .i64 depth)))) (List.mem_of_getElem? (i := 1) rfl)) (wfArg hwf (a := .d (.v (.dat (U := Un) Ty.int at_))) (List.mem_of_getElem? (i := 2) rfl)) (hob _ (List.mem_of_getElem? (i := 0) rfl)) (hob _ (List.mem_of_getElem? (i := 1) rfl)))), hasBody_of Try.func20 (by kernel_rfl) (by kernel_rfl)⟩
  · simp at h


theorem okAll_r21moveG : ∀ m, FnOK 49 (Fm_r21_moveRel m) ∧ FnOK 48 (Fm_r21_moves m) ∧ FnOK 20 (Fm_r21_Move m)
  | 0 => by
    refine ⟨?_, ?_, ?_⟩
    · intro args ob rs os h hob
      unfold Fm_r21_moveRel at h
      split at h
      · simp only [Option.bind_eq_some_iff, Option.some.injEq, Prod.mk.injEq] at h
        obtain ⟨_, _, _, _, _, _, rfl, _, _⟩ := h
        exact absurd (hob _ (List.mem_of_getElem? (i := 0) rfl)) (Nat.not_lt_zero _)
      · simp at h
    · intro args ob rs os h hob
      unfold Fm_r21_moves at h
      split at h
      · simp only [Option.bind_eq_some_iff, Option.some.injEq, Prod.mk.injEq] at h
        obtain ⟨_, _, _, _, _, _, rfl, _, _⟩ := h
        exact absurd (hob _ (List.mem_of_getElem? (i := 0) rfl)) (Nat.not_lt_zero _)
      · simp at h
    · intro args ob rs os h hob
      unfold Fm_r21_Move at h
      split at h
      · simp only [Option.bind_eq_some_iff, Option.some.injEq, Prod.mk.injEq] at h
        obtain ⟨_, _, _, _, _, _, rfl, _, _⟩ := h
        exact absurd (hob _ (List.mem_of_getElem? (i := 0) rfl)) (Nat.not_lt_zero _)
      · simp at h
  | m + 1 => by
    have ih := okAll_r21moveG m
    exact ⟨okm_r21_moveRel m ih.1 ih.2.1 ih.2.2, okm_r21_moves m ih.1 ih.2.1 ih.2.2, okm_r21_Move m ih.1 ih.2.1 ih.2.2⟩

def F_r21_moveRel : FnC Un := fun args => match args with
  | [x0, x1, x2] => (dS .rel x0).bind fun r => (dI .i64 x1).bind fun depth => (dL .int x2).bind fun at_ => some ([inOK depth r.sz], A_r21_moveRel (r21_moveRel r depth at_), O_r21_moveRel (r21_moveRel r depth at_))
  | _ => none

theorem ok_r21_moveRel : FnOK 49 F_r21_moveRel := by
  intro args ob rs os h hob
  unfold F_r21_moveRel at h
  split at h
  · simp only [Option.bind_eq_some_iff, Option.some.injEq, Prod.mk.injEq] at h
    obtain ⟨r, e0, depth, e1, at_, e2, rfl, rfl, rfl⟩ := h
    refine ((okAll_r21moveG (2 * r.ht + 1)).1) _ [2 * r.ht < 2 * r.ht + 1, inOK depth r.sz] _ _ (?_ : Fm_r21_moveRel (2 * r.ht + 1) _ = some _) ?_
    · unfold Fm_r21_moveRel
      simp only [e0, e1, e2, Option.bind_some]
    · intro p hp
      simp only [List.mem_cons, List.not_mem_nil, or_false] at hp
      rcases hp with rfl | rfl
      · exact Nat.lt_succ_self _
      · exact hob _ (List.mem_of_getElem? (i := 0) rfl)
  · simp at h

def F_r21_moves : FnC Un := fun args => match args with
  | [x0, x1, x2] => (dL .term x0).bind fun l => (dI .i64 x1).bind fun depth => (dL .int x2).bind fun at_ => some ([inOK depth (szTs l)], A_r21_moves (r21_moves l depth at_), O_r21_moves (r21_moves l depth at_))
  | _ => none

theorem ok_r21_moves : FnOK 48 F_r21_moves := by
  intro args ob rs os h hob
  unfold F_r21_moves at h
  split at h
  · simp only [Option.bind_eq_some_iff, Option.some.injEq, Prod.mk.injEq] at h
    obtain ⟨l, e0, depth, e1, at_, e2, rfl, rfl, rfl⟩ := h
    refine ((okAll_r21moveG (2 * htTs l + 1 + 1)).2.1) _ [2 * htTs l + 1 < 2 * htTs l + 1 + 1, inOK depth (szTs l)] _ _ (?_ : Fm_r21_moves (2 * htTs l + 1 + 1) _ = some _) ?_
    · unfold Fm_r21_moves
      simp only [e0, e1, e2, Option.bind_some]
    · intro p hp
      simp only [List.mem_cons, List.not_mem_nil, or_false] at hp
      rcases hp with rfl | rfl
      · exact Nat.lt_succ_self _
      · exact hob _ (List.mem_of_getElem? (i := 0) rfl)
  · simp at h

def F_r21_Move : FnC Un := fun args => match args with
  | [x0, x1, x2] => (dS .term x0).bind fun t => (dI .i64 x1).bind fun depth => (dL .int x2).bind fun at_ => some ([inOK depth t.sz], A_r21_Move (r21_Move t depth at_), O_r21_Move (r21_Move t depth at_))
  | _ => none

theorem ok_r21_Move : FnOK 20 F_r21_Move := by
  intro args ob rs os h hob
  unfold F_r21_Move at h
  split at h
  · simp only [Option.bind_eq_some_iff, Option.some.injEq, Prod.mk.injEq] at h
    obtain ⟨t, e0, depth, e1, at_, e2, rfl, rfl, rfl⟩ := h
    refine ((okAll_r21moveG (2 * t.ht + 1)).2.2) _ [2 * t.ht < 2 * t.ht + 1, inOK depth t.sz] _ _ (?_ : Fm_r21_Move (2 * t.ht + 1) _ = some _) ?_
    · unfold Fm_r21_Move
      simp only [e0, e1, e2, Option.bind_some]
    · intro p hp
      simp only [List.mem_cons, List.not_mem_nil, or_false] at hp
      rcases hp with rfl | rfl
      · exact Nat.lt_succ_self _
      · exact hob _ (List.mem_of_getElem? (i := 0) rfl)
  · simp at h

end
end Go.Proofs.Ytaepcbdcjbfgjaa.B
