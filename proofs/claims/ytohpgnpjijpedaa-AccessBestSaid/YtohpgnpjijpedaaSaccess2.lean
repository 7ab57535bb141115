/- Functions: access2. (Printed by wip/tools/mkfn.py out of wip/src/access2.src.) -/
import Derived.Test.YtohpgnpjijpedaaBLib
import Derived.Test.YtohpgnpjijpedaaSspec
import Derived.Test.YtohpgnpjijpedaaSvalue
import Derived.Test.YtohpgnpjijpedaaSspec26
import Derived.Test.YtohpgnpjijpedaaSaccess1
namespace Go.Proofs.Ytohpgnpjijpedaa.B
open Go Go.RowKit
set_option maxRecDepth 100000
noncomputable section
attribute [local irreducible] awp ctxK itersK iterK retQ retGQ

/-! ### (*access.span).bound -/
def M_access_bound : Mc Un := mach (tbl [(17, F_access_first)]) (tbl []) (tbl []) (tbl [])
def N_access_bound : Nat → NS := fun l => (look l []).getD ⟨[], [], [], [], []⟩
def A_access_bound (r : Bound × Bool × List Val × Bound × Bound × Int × List Term) : List (A Un) := [.agg (encC Ty.bound r.1), .c (.s (.bool r.2.1))]
def B_access_bound (r : Bound × Bool × List Val × Bound × Bound × Int × List Term) : List (Bool × List (C Un)) := [(false, [(.ob 0 0)] ++ encC Ty.bound r.2.2.2.1 ++ encC Ty.bound r.2.2.2.2.1 ++ [(.s (.int .i64 r.2.2.2.2.2.1))] ++ [(.ob 1 0)])]
def O_access_bound (r : Bound × Bool × List Val × Bound × Bound × Int × List Term) : List (Ob Un) := [⟨0, Ty.val, r.2.2.1, none, true⟩, ⟨0, Ty.term, r.2.2.2.2.2.2, none, true⟩]
theorem access_bound_in_raw (s_front : List Val) (fr_s_front : Option Nat) (s_lo : Bound) (s_hi : Bound) (s_n : Int) (s_counts : List Term) (fr_s_counts : Option Nat) (terms : List Term) (col : Int) (open_ : Int) (shut : Int) (K : List (A Un) → List (Bool × List (C Un)) → List (Ob Un) → Prop) :
    awp M_access_bound N_access_bound (bodyOf Try.f18) (entryG Try.f18.ntmps 0 [.c (.bx 0 0), .c (.sl (U := Un) Ty.term terms false), .c (.s (.int .i64 col)), .c (.s (.int .i64 open_)), .c (.s (.int .i64 shut))] [(false, [.ob 0 0] ++ encC Ty.bound s_lo ++ encC Ty.bound s_hi ++ [(.s (.int .i64 s_n))] ++ [.ob 1 0])] [⟨0, Ty.val, s_front, fr_s_front, true⟩, ⟨0, Ty.term, s_counts, fr_s_counts, true⟩]) (retGQ M_access_bound 1 Try.f18.results.toList [.o, .d, .d, .d, .d, .d, .d, .d, .o, .d, .d] K) =
(cnd (decide ((access_first terms col open_ shut).fst < (0 : Int)))
 (K (A_access_bound ({ is := decide ((↑s_front.length : Int) > (0 : Int)), open_ := false, key := s_front }, false, s_front, s_lo, s_hi, s_n, s_counts)) (B_access_bound ({ is := decide ((↑s_front.length : Int) > (0 : Int)), open_ := false, key := s_front }, false, s_front, s_lo, s_hi, s_n, s_counts)) (O_access_bound ({ is := decide ((↑s_front.length : Int) > (0 : Int)), open_ := false, key := s_front }, false, s_front, s_lo, s_hi, s_n, s_counts)))
 (((0 : Int) ≤ (access_first terms col open_ shut).fst ∧ (access_first terms col open_ shut).fst < (↑terms.length : Int)) ∧
 (((s_counts.length + [zeroTerm].length) * (128 : Nat) ≤ roomB) ∧
 (((0 : Int) ≤ (↑s_counts.length : Int) ∧ (↑s_counts.length : Int) < (↑(s_counts ++ [zeroTerm]).length : Int)) ∧
 ((frz fr_s_counts s_counts.length ≤ (↑s_counts.length : Int).toNat) ∧
 (((0 + s_front.length) * (32 : Nat) ≤ roomB) ∧
 ((((s_front).length + [(access_first terms col open_ shut).snd.snd].length) * (32 : Nat) ≤ roomB) ∧
 (K (A_access_bound ({ is := true, open_ := (access_first terms col open_ shut).snd.fst == open_, key := s_front ++ [(access_first terms col open_ shut).snd.snd] }, true, s_front, s_lo, s_hi, s_n, (s_counts ++ [zeroTerm]).set (↑s_counts.length : Int).toNat (Term.mk (Term.op (terms.getD (access_first terms col open_ shut).fst.toNat zeroTerm)) (Term.v (terms.getD (access_first terms col open_ shut).fst.toNat zeroTerm)) (Term.depth (terms.getD (access_first terms col open_ shut).fst.toNat zeroTerm)) (Term.at_ (terms.getD (access_first terms col open_ shut).fst.toNat zeroTerm)) (Term.name (terms.getD (access_first terms col open_ shut).fst.toNat zeroTerm)) (Term.kids (terms.getD (access_first terms col open_ shut).fst.toNat zeroTerm)) (Term.sub (terms.getD (access_first terms col open_ shut).fst.toNat zeroTerm)) (Term.type (terms.getD (access_first terms col open_ shut).fst.toNat zeroTerm))))) (B_access_bound ({ is := true, open_ := (access_first terms col open_ shut).snd.fst == open_, key := s_front ++ [(access_first terms col open_ shut).snd.snd] }, true, s_front, s_lo, s_hi, s_n, (s_counts ++ [zeroTerm]).set (↑s_counts.length : Int).toNat (Term.mk (Term.op (terms.getD (access_first terms col open_ shut).fst.toNat zeroTerm)) (Term.v (terms.getD (access_first terms col open_ shut).fst.toNat zeroTerm)) (Term.depth (terms.getD (access_first terms col open_ shut).fst.toNat zeroTerm)) (Term.at_ (terms.getD (access_first terms col open_ shut).fst.toNat zeroTerm)) (Term.name (terms.getD (access_first terms col open_ shut).fst.toNat zeroTerm)) (Term.kids (terms.getD (access_first terms col open_ shut).fst.toNat zeroTerm)) (Term.sub (terms.getD (access_first terms col open_ shut).fst.toNat zeroTerm)) (Term.type (terms.getD (access_first terms col open_ shut).fst.toNat zeroTerm))))) (O_access_bound ({ is := true, open_ := (access_first terms col open_ shut).snd.fst == open_, key := s_front ++ [(access_first terms col open_ shut).snd.snd] }, true, s_front, s_lo, s_hi, s_n, (s_counts ++ [zeroTerm]).set (↑s_counts.length : Int).toNat (Term.mk (Term.op (terms.getD (access_first terms col open_ shut).fst.toNat zeroTerm)) (Term.v (terms.getD (access_first terms col open_ shut).fst.toNat zeroTerm)) (Term.depth (terms.getD (access_first terms col open_ shut).fst.toNat zeroTerm)) (Term.at_ (terms.getD (access_first terms col open_ shut).fst.toNat zeroTerm)) (Term.name (terms.getD (access_first terms col open_ shut).fst.toNat zeroTerm)) (Term.kids (terms.getD (access_first terms col open_ shut).fst.toNat zeroTerm)) (Term.sub (terms.getD (access_first terms col open_ shut).fst.toNat zeroTerm)) (Term.type (terms.getD (access_first terms col open_ shut).fst.toNat zeroTerm))))))))))))) := by kernel_rfl
theorem access_bound_in (s_front : List Val) (fr_s_front : Option Nat) (s_lo : Bound) (s_hi : Bound) (s_n : Int) (s_counts : List Term) (fr_s_counts : Option Nat) (terms : List Term) (col : Int) (open_ : Int) (shut : Int) (K : List (A Un) → List (Bool × List (C Un)) → List (Ob Un) → Prop) :
    awp M_access_bound N_access_bound (bodyOf Try.f18) (entryG Try.f18.ntmps 0 [.c (.bx 0 0), .c (.sl (U := Un) Ty.term terms false), .c (.s (.int .i64 col)), .c (.s (.int .i64 open_)), .c (.s (.int .i64 shut))] [(false, [.ob 0 0] ++ encC Ty.bound s_lo ++ encC Ty.bound s_hi ++ [(.s (.int .i64 s_n))] ++ [.ob 1 0])] [⟨0, Ty.val, s_front, fr_s_front, true⟩, ⟨0, Ty.term, s_counts, fr_s_counts, true⟩]) (retGQ M_access_bound 1 Try.f18.results.toList [.o, .d, .d, .d, .d, .d, .d, .d, .o, .d, .d] K) =
(cnd (decide ((access_first terms col open_ shut).fst < (0 : Int)))
 (K (A_access_bound ({ is := decide ((↑s_front.length : Int) > (0 : Int)), open_ := false, key := s_front }, false, s_front, s_lo, s_hi, s_n, s_counts)) (B_access_bound ({ is := decide ((↑s_front.length : Int) > (0 : Int)), open_ := false, key := s_front }, false, s_front, s_lo, s_hi, s_n, s_counts)) (O_access_bound ({ is := decide ((↑s_front.length : Int) > (0 : Int)), open_ := false, key := s_front }, false, s_front, s_lo, s_hi, s_n, s_counts)))
 (((0 : Int) ≤ (access_first terms col open_ shut).fst ∧ (access_first terms col open_ shut).fst < (↑terms.length : Int)) ∧
 (((s_counts.length + [zeroTerm].length) * (128 : Nat) ≤ roomB) ∧
 (((0 : Int) ≤ (↑s_counts.length : Int) ∧ (↑s_counts.length : Int) < (↑(s_counts ++ [zeroTerm]).length : Int)) ∧
 ((frz fr_s_counts s_counts.length ≤ (↑s_counts.length : Int).toNat) ∧
 (((0 + s_front.length) * (32 : Nat) ≤ roomB) ∧
 ((((s_front).length + [(access_first terms col open_ shut).snd.snd].length) * (32 : Nat) ≤ roomB) ∧
 (K (A_access_bound ({ is := true, open_ := (access_first terms col open_ shut).snd.fst == open_, key := s_front ++ [(access_first terms col open_ shut).snd.snd] }, true, s_front, s_lo, s_hi, s_n, (s_counts ++ [zeroTerm]).set (↑s_counts.length : Int).toNat (terms.getD (access_first terms col open_ shut).fst.toNat zeroTerm))) (B_access_bound ({ is := true, open_ := (access_first terms col open_ shut).snd.fst == open_, key := s_front ++ [(access_first terms col open_ shut).snd.snd] }, true, s_front, s_lo, s_hi, s_n, (s_counts ++ [zeroTerm]).set (↑s_counts.length : Int).toNat (terms.getD (access_first terms col open_ shut).fst.toNat zeroTerm))) (O_access_bound ({ is := true, open_ := (access_first terms col open_ shut).snd.fst == open_, key := s_front ++ [(access_first terms col open_ shut).snd.snd] }, true, s_front, s_lo, s_hi, s_n, (s_counts ++ [zeroTerm]).set (↑s_counts.length : Int).toNat (terms.getD (access_first terms col open_ shut).fst.toNat zeroTerm))))))))))) :=
  (access_bound_in_raw s_front fr_s_front s_lo s_hi s_n s_counts fr_s_counts terms col open_ shut K).trans (by simp only [Term.eta])
def access_bound_fn (s_front : List Val) (fr_s_front : Option Nat) (s_lo : Bound) (s_hi : Bound) (s_n : Int) (s_counts : List Term) (fr_s_counts : Option Nat) (terms : List Term) (col : Int) (open_ : Int) (shut : Int) : Option (Bound × Bool × List Val × Bound × Bound × Int × List Term) :=
  if (decide ((access_first terms col open_ shut).fst < (0 : Int))) = true then
   some ({ is := decide ((↑s_front.length : Int) > (0 : Int)), open_ := false, key := s_front }, false, s_front, s_lo, s_hi, s_n, s_counts)
  else
   if (0 : Int) ≤ (access_first terms col open_ shut).fst ∧ (access_first terms col open_ shut).fst < (↑terms.length : Int) then
    if (s_counts.length + [zeroTerm].length) * (128 : Nat) ≤ roomB then
     if (0 : Int) ≤ (↑s_counts.length : Int) ∧ (↑s_counts.length : Int) < (↑(s_counts ++ [zeroTerm]).length : Int) then
      if frz fr_s_counts s_counts.length ≤ (↑s_counts.length : Int).toNat then
       if (0 + s_front.length) * (32 : Nat) ≤ roomB then
        if ((s_front).length + [(access_first terms col open_ shut).snd.snd].length) * (32 : Nat) ≤ roomB then
         some ({ is := true, open_ := (access_first terms col open_ shut).snd.fst == open_, key := s_front ++ [(access_first terms col open_ shut).snd.snd] }, true, s_front, s_lo, s_hi, s_n, (s_counts ++ [zeroTerm]).set (↑s_counts.length : Int).toNat (terms.getD (access_first terms col open_ shut).fst.toNat zeroTerm))
        else none
       else none
      else none
     else none
    else none
   else none
theorem access_bound_run {s_front : List Val} {fr_s_front : Option Nat} {s_lo : Bound} {s_hi : Bound} {s_n : Int} {s_counts : List Term} {fr_s_counts : Option Nat} {terms : List Term} {col : Int} {open_ : Int} {shut : Int} {r : Bound × Bool × List Val × Bound × Bound × Int × List Term} (h : access_bound_fn s_front fr_s_front s_lo s_hi s_n s_counts fr_s_counts terms col open_ shut = some r) : Runs (awp M_access_bound N_access_bound (bodyOf Try.f18) (entryG Try.f18.ntmps 0 [.c (.bx 0 0), .c (.sl (U := Un) Ty.term terms false), .c (.s (.int .i64 col)), .c (.s (.int .i64 open_)), .c (.s (.int .i64 shut))] [(false, [.ob 0 0] ++ encC Ty.bound s_lo ++ encC Ty.bound s_hi ++ [(.s (.int .i64 s_n))] ++ [.ob 1 0])] [⟨0, Ty.val, s_front, fr_s_front, true⟩, ⟨0, Ty.term, s_counts, fr_s_counts, true⟩]) (retGQ M_access_bound 1 Try.f18.results.toList [.o, .d, .d, .d, .d, .d, .d, .d, .o, .d, .d] fun rs bs os => rs = A_access_bound r ∧ bs = B_access_bound r ∧ os = O_access_bound r)) := by
  constructor
  rw [access_bound_in s_front fr_s_front s_lo s_hi s_n s_counts fr_s_counts terms col open_ shut (fun rs bs os => rs = A_access_bound r ∧ bs = B_access_bound r ∧ os = O_access_bound r)]
  unfold access_bound_fn at h
  rcases ite_some h with ⟨c1, h2⟩ | ⟨c1, h2⟩
  · cases h2
    exact (cnd_t c1 ⟨rfl, rfl, rfl⟩)
  · obtain ⟨c3, h4⟩ := ob_some h2
    obtain ⟨c5, h6⟩ := ob_some h4
    obtain ⟨c7, h8⟩ := ob_some h6
    obtain ⟨c9, h10⟩ := ob_some h8
    obtain ⟨c11, h12⟩ := ob_some h10
    obtain ⟨c13, h14⟩ := ob_some h12
    cases h14
    exact (cnd_f (bfalse c1) (And.intro c3 (And.intro c5 (And.intro c7 (And.intro c9 (And.intro c11 (And.intro c13 ⟨rfl, rfl, rfl⟩)))))))

def access_bound (front : List Val) (_fr : Option Nat) (lo hi : Bound) (n : Int) (counts : List Term) (_fr2 : Option Nat) (terms : List Term) (col open_ shut : Int) : Bound × Bool × List Val × Bound × Bound × Int × List Term :=
  if (access_first terms col open_ shut).1 < 0 then (⟨decide ((front.length : Int) > 0), false, front⟩, false, front, lo, hi, n, counts)
  else (⟨true, (access_first terms col open_ shut).2.1 == open_, front ++ [(access_first terms col open_ shut).2.2]⟩, true, front, lo, hi, n, counts ++ [terms.getD (access_first terms col open_ shut).1.toNat zeroTerm])

theorem access_first_lt (terms : List Term) (col one other : Int) : (access_first terms col one other).1 < terms.length := by
  unfold access_first
  split
  · rename_i i op v h
    have := (firstT_spec h).2.1
    simp only; omega
  · simp only; omega
theorem set_last {α : Type} (l : List α) (x y : α) : (l ++ [x]).set l.length y = l ++ [y] := by simp
theorem access_bound_spec (front : List Val) (fr : Option Nat) (lo hi : Bound) (n : Int) (counts : List Term) (fr2 : Option Nat) (terms : List Term) (col open_ shut : Int)
    (_h1 : WL .val front) (_h2 : frz fr front.length ≤ front.length) (_h3 : WL .term counts) (h4 : frz fr2 counts.length ≤ counts.length) (_h5 : WL .term terms) (_h6 : WI col) (_h7 : WI open_) (_h8 : WI shut)
    (hf : front.length ≤ 100000) (hc : counts.length ≤ 100000) : access_bound_fn front fr lo hi n counts fr2 terms col open_ shut = some (access_bound front fr lo hi n counts fr2 terms col open_ shut) := by
  have hl := access_first_lt terms col open_ shut
  unfold access_bound_fn access_bound
  by_cases h : (access_first terms col open_ shut).1 < 0
  · rw [if_pos (decide_eq_true h), if_pos h]
  · rw [if_neg (by simpa using h), if_neg h]
    have e1 : 0 ≤ (access_first terms col open_ shut).1 ∧ (access_first terms col open_ shut).1 < (terms.length : Int) := ⟨by omega, hl⟩
    rw [if_pos e1, if_pos (by unfold roomB; simp; omega), if_pos (by simp; omega), if_pos (by simpa using h4), if_pos (by unfold roomB; simp; omega), if_pos (by unfold roomB; simp; omega)]
    simp only [Int.toNat_natCast, set_last]

def G_access_bound : List Bool × FnG Un := ([], fun args bxs os => match args, bxs, os with
  | [.c (.bx 0 0), x1, x2, x3, x4], [(false, cells0)], [o0, o1] => match cells0.map C.weak with
    | [.ob 0 0, c0_s_lo_0, c0_s_lo_1, c0_s_lo_2, c0_s_hi_0, c0_s_hi_1, c0_s_hi_2, c0_s_n, .ob 1 0] => (oL .val o0).bind fun s_front => (aS .bound (.agg [c0_s_lo_0, c0_s_lo_1, c0_s_lo_2])).bind fun s_lo => (aS .bound (.agg [c0_s_hi_0, c0_s_hi_1, c0_s_hi_2])).bind fun s_hi => (aI .i64 (.c c0_s_n)).bind fun s_n => (oL .term o1).bind fun s_counts => (aL .term x1).bind fun terms => (aI .i64 x2).bind fun col => (aI .i64 x3).bind fun open_ => (aI .i64 x4).bind fun shut => some ([s_front.length ≤ 100000, s_counts.length ≤ 100000], A_access_bound (access_bound s_front o0.fr s_lo s_hi s_n s_counts o1.fr terms col open_ shut), B_access_bound (access_bound s_front o0.fr s_lo s_hi s_n s_counts o1.fr terms col open_ shut), O_access_bound (access_bound s_front o0.fr s_lo s_hi s_n s_counts o1.fr terms col open_ shut))
    | _ => none
  | _, _, _ => none)

theorem okG_access_bound : GnOK 18 G_access_bound := by
  intro args bxs os ob rs bxs' os' h hob
  unfold G_access_bound at h
  dsimp only at h
  split at h
  · rename_i x1 x2 x3 x4 cells0 o0 o1
    split at h
    · rename_i c0_s_lo_0 c0_s_lo_1 c0_s_lo_2 c0_s_hi_0 c0_s_hi_1 c0_s_hi_2 c0_s_n ec0
      simp only [Option.bind_eq_some_iff, Option.some.injEq, Prod.mk.injEq] at h
      obtain ⟨s_front, e0, s_lo, e1, s_hi, e2, s_n, e3, s_counts, e4, terms, e5, col, e6, open_, e7, shut, e8, rfl, rfl, rfl, rfl⟩ := h
      have q0 := oL_eq e0
      have q1 := aS_eq e1
      have q2 := aS_eq e2
      have q3 := aI_eq e3
      have q4 := oL_eq e4
      obtain rfl := aL_eq e5
      obtain rfl := aI_eq e6
      obtain rfl := aI_eq e7
      obtain rfl := aI_eq e8
      refine ⟨GContract.weak ?_, hasBody_of Try.func18 (by kernel_rfl) (by kernel_rfl)⟩
      simp only [List.map_cons, List.map_nil, ec0]
      generalize o0.fr = f0 at q0 ⊢
      generalize o1.fr = f4 at q4 ⊢
      have hb : [(false, [(C.ob 0 0 : C Un), c0_s_lo_0, c0_s_lo_1, c0_s_lo_2, c0_s_hi_0, c0_s_hi_1, c0_s_hi_2, c0_s_n, (C.ob 1 0 : C Un)])] = [(false, [.ob 0 0] ++ encC Ty.bound s_lo ++ encC Ty.bound s_hi ++ [(.s (.int .i64 s_n))] ++ [.ob 1 0])] := by
        simp only [A.c.injEq, A.agg.injEq] at q1 q2 q3
        simp only [← q1, ← q2, q3]
        rfl
      rw [hb]
      rw [q0]
      rw [q4]
      refine gn_contract (M := M_access_bound) rfl (nb := 1) rfl (tbl_ok (l1 := [(17, F_access_first)]) (l2 := []) (l3 := []) (l4 := []) ⟨ok_access_first, trivial⟩ trivial trivial trivial) Try.func18 (by kernel_rfl) N_access_bound 0 [.o, .d, .d, .d, .d, .d, .d, .d, .o, .d, .d] (fun ha hb ho => ?_)
      have hsp := access_bound_spec s_front f0 s_lo s_hi s_n s_counts f4 terms col open_ shut (wfObs (τ := .val) (l := s_front) (fr := f0) ho (by simp)) (frObs (τ := .val) (l := s_front) (fr := f0) ho (by simp)) (wfObs (τ := .term) (l := s_counts) (fr := f4) ho (by simp)) (frObs (τ := .term) (l := s_counts) (fr := f4) ho (by simp)) (wfArgA ha (a := .c (.sl (U := Un) Ty.term terms false)) (by simp)) (wfArgA ha (a := .c (.s (.int .i64 col))) (by simp)) (wfArgA ha (a := .c (.s (.int .i64 open_))) (by simp)) (wfArgA ha (a := .c (.s (.int .i64 shut))) (by simp)) (hob _ (by simp)) (hob _ (by simp))
      exact access_bound_run hsp
    · simp at h
  · simp at h


end
end Go.Proofs.Ytohpgnpjijpedaa.B
