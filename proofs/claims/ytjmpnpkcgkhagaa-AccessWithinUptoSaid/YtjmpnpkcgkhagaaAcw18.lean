/- Part 18 of the proof: Saccess2 Saccess3. -/
import Derived.Test.YtjmpnpkcgkhagaaAcw17
namespace Go.Proofs.Ytjmpnpkcgkhagaa.B
open Go Go.RowKit
set_option maxRecDepth 100000
noncomputable section
attribute [local irreducible] awp ctxK itersK iterK retQ retGQ
def M_access_bound : Mc Un := mach (tbl [(23, F_access_first)]) (tbl []) (tbl []) (tbl []) (tbl [])
def N_access_bound : Nat → NS := fun l => (look l []).getD ⟨[], [], [], [], [], false⟩
def A_access_bound (r : Bound × Bool × List Val × Bound × Bound × Int × List Term) : List (A Un) := [.agg (encC Ty.bound r.1), .c (.s (.bool r.2.1))]
def B_access_bound (r : Bound × Bool × List Val × Bound × Bound × Int × List Term) : List (Bool × List (C Un)) := [(false, [(.ob 0 0)] ++ encC Ty.bound r.2.2.2.1 ++ encC Ty.bound r.2.2.2.2.1 ++ [(.s (.int .i64 r.2.2.2.2.2.1))] ++ [(.ob 1 0)])]
def O_access_bound (r : Bound × Bool × List Val × Bound × Bound × Int × List Term) : List (Ob Un) := [⟨0, Ty.val, r.2.2.1, none, true⟩, ⟨0, Ty.term, r.2.2.2.2.2.2, none, true⟩]
theorem access_bound_in_raw (s_front : List Val) (fr_s_front : Option Nat) (s_lo : Bound) (s_hi : Bound) (s_n : Int) (s_counts : List Term) (fr_s_counts : Option Nat) (terms : List Term) (col : Int) (open_ : Int) (shut : Int) (K : List (A Un) → List (Bool × List (C Un)) → List (Ob Un) → Prop) :
    awp M_access_bound N_access_bound (bodyOf Try.f24) (entryG Try.f24.ntmps 0 [.c (.bx 0 0), .c (.sl (U := Un) Ty.term terms false), .c (.s (.int .i64 col)), .c (.s (.int .i64 open_)), .c (.s (.int .i64 shut))] [(false, [.ob 0 0] ++ encC Ty.bound s_lo ++ encC Ty.bound s_hi ++ [(.s (.int .i64 s_n))] ++ [.ob 1 0])] [⟨0, Ty.val, s_front, fr_s_front, true⟩, ⟨0, Ty.term, s_counts, fr_s_counts, true⟩]) (retGQ M_access_bound 1 Try.f24.results.toList [.o, .d, .d, .d, .d, .d, .d, .d, .o, .d, .d] K) =
(cnd (decide ((access_first terms col open_ shut).fst < (0 : Int)))
 (K (A_access_bound ({ is := decide ((↑s_front.length : Int) > (0 : Int)), open_ := false, key := s_front }, false, s_front, s_lo, s_hi, s_n, s_counts)) (B_access_bound ({ is := decide ((↑s_front.length : Int) > (0 : Int)), open_ := false, key := s_front }, false, s_front, s_lo, s_hi, s_n, s_counts)) (O_access_bound ({ is := decide ((↑s_front.length : Int) > (0 : Int)), open_ := false, key := s_front }, false, s_front, s_lo, s_hi, s_n, s_counts)))
 (((0 : Int) ≤ (access_first terms col open_ shut).fst ∧ (access_first terms col open_ shut).fst < (↑terms.length : Int)) ∧
 (((s_counts.length + [zeroTerm].length) * (128 : Nat) ≤ roomB) ∧
 (((0 : Int) ≤ (↑s_counts.length : Int) ∧ (↑s_counts.length : Int) < (↑(s_counts ++ [zeroTerm]).length : Int)) ∧
 ((frz fr_s_counts s_counts.length ≤ (↑s_counts.length : Int).toNat) ∧
 (((0 + s_front.length) * (32 : Nat) ≤ roomB) ∧
 ((((s_front).length + [(access_first terms col open_ shut).snd.snd].length) * (32 : Nat) ≤ roomB) ∧
 (K (A_access_bound ({ is := true, open_ := (access_first terms col open_ shut).snd.fst == open_, key := s_front ++ [(access_first terms col open_ shut).snd.snd] }, true, s_front, s_lo, s_hi, s_n, (s_counts ++ [zeroTerm]).set (↑s_counts.length : Int).toNat (Term.mk (Term.op (terms.getD (access_first terms col open_ shut).fst.toNat zeroTerm)) (Term.v (terms.getD (access_first terms col open_ shut).fst.toNat zeroTerm)) (Term.depth (terms.getD (access_first terms col open_ shut).fst.toNat zeroTerm)) (Term.at_ (terms.getD (access_first terms col open_ shut).fst.toNat zeroTerm)) (Term.name (terms.getD (access_first terms col open_ shut).fst.toNat zeroTerm)) (Term.kids (terms.getD (access_first terms col open_ shut).fst.toNat zeroTerm)) (Term.sub (terms.getD (access_first terms col open_ shut).fst.toNat zeroTerm)) (Term.type (terms.getD (access_first terms col open_ shut).fst.toNat zeroTerm))))) (B_access_bound ({ is := true, open_ := (access_first terms col open_ shut).snd.fst == open_, key := s_front ++ [(access_first terms col open_ shut).snd.snd] }, true, s_front, s_lo, s_hi, s_n, (s_counts ++ [zeroTerm]).set (↑s_counts.length : Int).toNat (Term.mk (Term.op (terms.getD (access_first terms col open_ shut).fst.toNat zeroTerm)) (Term.v (terms.getD (access_first terms col open_ shut).fst.toNat zeroTerm)) (Term.depth (terms.getD (access_first terms col open_ shut).fst.toNat zeroTerm)) (Term.at_ (terms.getD (access_first terms col open_ shut).fst.toNat zeroTerm)) (Term.name (terms.getD (access_first terms col open_ shut).fst.toNat zeroTerm)) (Term.kids (terms.getD (access_first terms col open_ shut).fst.toNat zeroTerm)) (Term.sub (terms.getD (access_first terms col open_ shut).fst.toNat zeroTerm)) (Term.type (terms.getD (access_first terms col open_ shut).fst.toNat zeroTerm))))) (O_access_bound ({ is := true, open_ := (access_first terms col open_ shut).snd.fst == open_, key := s_front ++ [(access_first terms col open_ shut).snd.snd] }, true, s_front, s_lo, s_hi, s_n, (s_counts ++ [zeroTerm]).set (↑s_counts.length : Int).toNat (Term.mk (Term.op (terms.getD (access_first terms col open_ shut).fst.toNat zeroTerm)) (Term.v (terms.getD (access_first terms col open_ shut).fst.toNat zeroTerm)) (Term.depth (terms.getD (access_first terms col open_ shut).fst.toNat zeroTerm)) (Term.at_ (terms.getD (access_first terms col open_ shut).fst.toNat zeroTerm)) (Term.name (terms.getD (access_first terms col open_ shut).fst.toNat zeroTerm)) (Term.kids (terms.getD (access_first terms col open_ shut).fst.toNat zeroTerm)) (Term.sub (terms.getD (access_first terms col open_ shut).fst.toNat zeroTerm)) (Term.type (terms.getD (access_first terms col open_ shut).fst.toNat zeroTerm))))))))))))) := by kernel_rfl
theorem access_bound_in (s_front : List Val) (fr_s_front : Option Nat) (s_lo : Bound) (s_hi : Bound) (s_n : Int) (s_counts : List Term) (fr_s_counts : Option Nat) (terms : List Term) (col : Int) (open_ : Int) (shut : Int) (K : List (A Un) → List (Bool × List (C Un)) → List (Ob Un) → Prop) :
    awp M_access_bound N_access_bound (bodyOf Try.f24) (entryG Try.f24.ntmps 0 [.c (.bx 0 0), .c (.sl (U := Un) Ty.term terms false), .c (.s (.int .i64 col)), .c (.s (.int .i64 open_)), .c (.s (.int .i64 shut))] [(false, [.ob 0 0] ++ encC Ty.bound s_lo ++ encC Ty.bound s_hi ++ [(.s (.int .i64 s_n))] ++ [.ob 1 0])] [⟨0, Ty.val, s_front, fr_s_front, true⟩, ⟨0, Ty.term, s_counts, fr_s_counts, true⟩]) (retGQ M_access_bound 1 Try.f24.results.toList [.o, .d, .d, .d, .d, .d, .d, .d, .o, .d, .d] K) =
(cnd (decide ((access_first terms col open_ shut).fst < (0 : Int)))
 (K (A_access_bound ({ is := decide ((↑s_front.length : Int) > (0 : Int)), open_ := false, key := s_front }, false, s_front, s_lo, s_hi, s_n, s_counts)) (B_access_bound ({ is := decide ((↑s_front.length : Int) > (0 : Int)), open_ := false, key := s_front }, false, s_front, s_lo, s_hi, s_n, s_counts)) (O_access_bound ({ is := decide ((↑s_front.length : Int) > (0 : Int)), open_ := false, key := s_front }, false, s_front, s_lo, s_hi, s_n, s_counts)))
 (((0 : Int) ≤ (access_first terms col open_ shut).fst ∧ (access_first terms col open_ shut).fst < (↑terms.length : Int)) ∧
 (((s_counts.length + [zeroTerm].length) * (128 : Nat) ≤ roomB) ∧
 (((0 : Int) ≤ (↑s_counts.length : Int) ∧ (↑s_counts.length : Int) < (↑(s_counts ++ [zeroTerm]).length : Int)) ∧
 ((frz fr_s_counts s_counts.length ≤ (↑s_counts.length : Int).toNat) ∧
 (((0 + s_front.length) * (32 : Nat) ≤ roomB) ∧
 ((((s_front).length + [(access_first terms col open_ shut).snd.snd].length) * (32 : Nat) ≤ roomB) ∧
 (K (A_access_bound ({ is := true, open_ := (access_first terms col open_ shut).snd.fst == open_, key := s_front ++ [(access_first terms col open_ shut).snd.snd] }, true, s_front, s_lo, s_hi, s_n, (s_counts ++ [zeroTerm]).set (↑s_counts.length : Int).toNat (terms.getD (access_first terms col open_ shut).fst.toNat zeroTerm))) (B_access_bound ({ is := true, open_ := (access_first terms col open_ shut).snd.fst == open_, key := s_front ++ [(access_first terms col open_ shut).snd.snd] }, true, s_front, s_lo, s_hi, s_n, (s_counts ++ [zeroTerm]).set (↑s_counts.length : Int).toNat (terms.getD (access_first terms col open_ shut).fst.toNat zeroTerm))) (O_access_bound ({ is := true, open_ := (access_first terms col open_ shut).snd.fst == open_, key := s_front ++ [(access_first terms col open_ shut).snd.snd] }, true, s_front, s_lo, s_hi, s_n, (s_counts ++ [zeroTerm]).set (↑s_counts.length : Int).toNat (terms.getD (access_first terms col open_ shut).fst.toNat zeroTerm))))))))))) :=
  (access_bound_in_raw s_front fr_s_front s_lo s_hi s_n s_counts fr_s_counts terms col open_ shut K).trans (by simp only [Term.eta])
def access_bound_fn (s_front : List Val) (fr_s_front : Option Nat) (s_lo : Bound) (s_hi : Bound) (s_n : Int) (s_counts : List Term) (fr_s_counts : Option Nat) (terms : List Term) (col : Int) (open_ : Int) (shut : Int) : Option (Bound × Bool × List Val × Bound × Bound × Int × List Term) :=
  if (decide ((access_first terms col open_ shut).fst < (0 : Int))) = true then
   some ({ is := decide ((↑s_front.length : Int) > (0 : Int)), open_ := false, key := s_front }, false, s_front, s_lo, s_hi, s_n, s_counts)
  else
   if (0 : Int) ≤ (access_first terms col open_ shut).fst ∧ (access_first terms col open_ shut).fst < (↑terms.length : Int) then
    if (s_counts.length + [zeroTerm].length) * (128 : Nat) ≤ roomB then
     if (0 : Int) ≤ (↑s_counts.length : Int) ∧ (↑s_counts.length : Int) < (↑(s_counts ++ [zeroTerm]).length : Int) then
      if frz fr_s_counts s_counts.length ≤ (↑s_counts.length : Int).toNat then
       if (0 + s_front.length) * (32 : Nat) ≤ roomB then
        if ((s_front).length + [(access_first terms col open_ shut).snd.snd].length) * (32 : Nat) ≤ roomB then
         some ({ is := true, open_ := (access_first terms col open_ shut).snd.fst == open_, key := s_front ++ [(access_first terms col open_ shut).snd.snd] }, true, s_front, s_lo, s_hi, s_n, (s_counts ++ [zeroTerm]).set (↑s_counts.length : Int).toNat (terms.getD (access_first terms col open_ shut).fst.toNat zeroTerm))
        else none
       else none
      else none
     else none
    else none
   else none
theorem access_bound_run {s_front : List Val} {fr_s_front : Option Nat} {s_lo : Bound} {s_hi : Bound} {s_n : Int} {s_counts : List Term} {fr_s_counts : Option Nat} {terms : List Term} {col : Int} {open_ : Int} {shut : Int} {r : Bound × Bool × List Val × Bound × Bound × Int × List Term} (h : access_bound_fn s_front fr_s_front s_lo s_hi s_n s_counts fr_s_counts terms col open_ shut = some r) : Runs (awp M_access_bound N_access_bound (bodyOf Try.f24) (entryG Try.f24.ntmps 0 [.c (.bx 0 0), .c (.sl (U := Un) Ty.term terms false), .c (.s (.int .i64 col)), .c (.s (.int .i64 open_)), .c (.s (.int .i64 shut))] [(false, [.ob 0 0] ++ encC Ty.bound s_lo ++ encC Ty.bound s_hi ++ [(.s (.int .i64 s_n))] ++ [.ob 1 0])] [⟨0, Ty.val, s_front, fr_s_front, true⟩, ⟨0, Ty.term, s_counts, fr_s_counts, true⟩]) (retGQ M_access_bound 1 Try.f24.results.toList [.o, .d, .d, .d, .d, .d, .d, .d, .o, .d, .d] fun rs bs os => rs = A_access_bound r ∧ bs = B_access_bound r ∧ os = O_access_bound r)) := by
  constructor
  rw [access_bound_in s_front fr_s_front s_lo s_hi s_n s_counts fr_s_counts terms col open_ shut (fun rs bs os => rs = A_access_bound r ∧ bs = B_access_bound r ∧ os = O_access_bound r)]
  unfold access_bound_fn at h
  rcases ite_some h with ⟨c1, h2⟩ | ⟨c1, h2⟩
  · cases h2
    exact (cnd_t c1 ⟨rfl, rfl, rfl⟩)
  · obtain ⟨c3, h4⟩ := ob_some h2
    obtain ⟨c5, h6⟩ := ob_some h4
    obtain ⟨c7, h8⟩ := ob_some h6
    obtain ⟨c9, h10⟩ := ob_some h8
    obtain ⟨c11, h12⟩ := ob_some h10
    obtain ⟨c13, h14⟩ := ob_some h12
    cases h14
    exact (cnd_f (bfalse c1) (And.intro c3 (And.intro c5 (And.intro c7 (And.intro c9 (And.intro c11 (And.intro c13 ⟨rfl, rfl, rfl⟩)))))))
def access_bound (front : List Val) (_fr : Option Nat) (lo hi : Bound) (n : Int) (counts : List Term) (_fr2 : Option Nat) (terms : List Term) (col open_ shut : Int) : Bound × Bool × List Val × Bound × Bound × Int × List Term :=
  if (access_first terms col open_ shut).1 < 0 then (⟨decide ((front.length : Int) > 0), false, front⟩, false, front, lo, hi, n, counts)
  else (⟨true, (access_first terms col open_ shut).2.1 == open_, front ++ [(access_first terms col open_ shut).2.2]⟩, true, front, lo, hi, n, counts ++ [terms.getD (access_first terms col open_ shut).1.toNat zeroTerm])
theorem access_first_lt (terms : List Term) (col one other : Int) : (access_first terms col one other).1 < terms.length := by
  unfold access_first
  split
  · rename_i i op v h
    have := (firstT_spec h).2.1
    simp only; omega
  · simp only; omega
theorem set_last {α : Type} (l : List α) (x y : α) : (l ++ [x]).set l.length y = l ++ [y] := by simp
theorem access_bound_spec (front : List Val) (fr : Option Nat) (lo hi : Bound) (n : Int) (counts : List Term) (fr2 : Option Nat) (terms : List Term) (col open_ shut : Int)
    (_h1 : WL .val front) (_h2 : frz fr front.length ≤ front.length) (_h3 : WL .term counts) (h4 : frz fr2 counts.length ≤ counts.length) (_h5 : WL .term terms) (_h6 : WI col) (_h7 : WI open_) (_h8 : WI shut)
    (hf : front.length ≤ 100000) (hc : counts.length ≤ 100000) : access_bound_fn front fr lo hi n counts fr2 terms col open_ shut = some (access_bound front fr lo hi n counts fr2 terms col open_ shut) := by
  have hl := access_first_lt terms col open_ shut
  unfold access_bound_fn access_bound
  by_cases h : (access_first terms col open_ shut).1 < 0
  · rw [if_pos (decide_eq_true h), if_pos h]
  · rw [if_neg (by simpa using h), if_neg h]
    have e1 : 0 ≤ (access_first terms col open_ shut).1 ∧ (access_first terms col open_ shut).1 < (terms.length : Int) := ⟨by omega, hl⟩
    rw [if_pos e1, if_pos (by unfold roomB; simp; omega), if_pos (by simp; omega), if_pos (by simpa using h4), if_pos (by unfold roomB; simp; omega), if_pos (by unfold roomB; simp; omega)]
    simp only [Int.toNat_natCast, set_last]
def G_access_bound : List Bool × FnG Un := ([], fun args bxs os => match args, bxs, os with
  | [.c (.bx 0 0), x1, x2, x3, x4], [(false, cells0)], [o0, o1] => match cells0.map C.weak with
    | [.ob 0 0, c0_s_lo_0, c0_s_lo_1, c0_s_lo_2, c0_s_hi_0, c0_s_hi_1, c0_s_hi_2, c0_s_n, .ob 1 0] => (oL .val o0).bind fun s_front => (aS .bound (.agg [c0_s_lo_0, c0_s_lo_1, c0_s_lo_2])).bind fun s_lo => (aS .bound (.agg [c0_s_hi_0, c0_s_hi_1, c0_s_hi_2])).bind fun s_hi => (aI .i64 (.c c0_s_n)).bind fun s_n => (oL .term o1).bind fun s_counts => (aL .term x1).bind fun terms => (aI .i64 x2).bind fun col => (aI .i64 x3).bind fun open_ => (aI .i64 x4).bind fun shut => some ([s_front.length ≤ 100000, s_counts.length ≤ 100000], A_access_bound (access_bound s_front o0.fr s_lo s_hi s_n s_counts o1.fr terms col open_ shut), B_access_bound (access_bound s_front o0.fr s_lo s_hi s_n s_counts o1.fr terms col open_ shut), O_access_bound (access_bound s_front o0.fr s_lo s_hi s_n s_counts o1.fr terms col open_ shut))
    | _ => none
  | _, _, _ => none)
theorem okG_access_bound : GnOK 24 G_access_bound := by
  intro args bxs os ob rs bxs' os' h hob
  unfold G_access_bound at h
  dsimp only at h
  split at h
  · rename_i x1 x2 x3 x4 cells0 o0 o1
    split at h
    · rename_i c0_s_lo_0 c0_s_lo_1 c0_s_lo_2 c0_s_hi_0 c0_s_hi_1 c0_s_hi_2 c0_s_n ec0
      simp only [Option.bind_eq_some_iff, Option.some.injEq, Prod.mk.injEq] at h
      obtain ⟨s_front, e0, s_lo, e1, s_hi, e2, s_n, e3, s_counts, e4, terms, e5, col, e6, open_, e7, shut, e8, rfl, rfl, rfl, rfl⟩ := h
      have q0 := oL_eq e0
      have q1 := aS_eq e1
      have q2 := aS_eq e2
      have q3 := aI_eq e3
      have q4 := oL_eq e4
      obtain rfl := aL_eq e5
      obtain rfl := aI_eq e6
      obtain rfl := aI_eq e7
      obtain rfl := aI_eq e8
      refine ⟨GContract.weak ?_, hasBody_of Try.func24 (by kernel_rfl) (by kernel_rfl)⟩
      simp only [List.map_cons, List.map_nil, ec0]
      generalize o0.fr = f0 at q0 ⊢
      generalize o1.fr = f4 at q4 ⊢
      have hb : [(false, [(C.ob 0 0 : C Un), c0_s_lo_0, c0_s_lo_1, c0_s_lo_2, c0_s_hi_0, c0_s_hi_1, c0_s_hi_2, c0_s_n, (C.ob 1 0 : C Un)])] = [(false, [.ob 0 0] ++ encC Ty.bound s_lo ++ encC Ty.bound s_hi ++ [(.s (.int .i64 s_n))] ++ [.ob 1 0])] := by
        simp only [A.c.injEq, A.agg.injEq] at q1 q2 q3
        simp only [← q1, ← q2, q3]
        all_goals rfl
      rw [hb]
      rw [q0]
      rw [q4]
      refine gn_contract (M := M_access_bound) rfl (nb := 1) rfl (tbl_ok (l1 := [(23, F_access_first)]) (l2 := []) (l3 := []) (l4 := []) (l5 := []) ⟨ok_access_first, trivial⟩ trivial trivial trivial trivial) Try.func24 (by kernel_rfl) N_access_bound 0 [.o, .d, .d, .d, .d, .d, .d, .d, .o, .d, .d] (fun ha hb ho => ?_)
      have hsp := access_bound_spec s_front f0 s_lo s_hi s_n s_counts f4 terms col open_ shut (wfObs (τ := .val) (l := s_front) (fr := f0) ho (by simp)) (frObs (τ := .val) (l := s_front) (fr := f0) ho (by simp)) (wfObs (τ := .term) (l := s_counts) (fr := f4) ho (by simp)) (frObs (τ := .term) (l := s_counts) (fr := f4) ho (by simp)) (wfArgA ha (a := .c (.sl (U := Un) Ty.term terms false)) (by simp)) (wfArgA ha (a := .c (.s (.int .i64 col))) (by simp)) (wfArgA ha (a := .c (.s (.int .i64 open_))) (by simp)) (wfArgA ha (a := .c (.s (.int .i64 shut))) (by simp)) (hob _ (List.mem_of_getElem? (i := 0) rfl)) (hob _ (List.mem_of_getElem? (i := 1) rfl))
      exact access_bound_run hsp
    · simp at h
  · simp at h
end
end Go.Proofs.Ytjmpnpkcgkhagaa.B
namespace Go.Proofs.Ytjmpnpkcgkhagaa.B
open Go Go.RowKit
set_option maxRecDepth 100000
noncomputable section
attribute [local irreducible] awp ctxK itersK iterK retQ retGQ
def M_access_found : Mc Un := mach (tbl [(23, F_access_first)]) (tbl []) (tbl []) (tbl [(24, G_access_bound)]) (tbl [])
def N_access_found : Nat → NS := fun l => (look l [(2, { ts := [true, true, false, false, true, true, false, false, false, false, false, false, false, false, false, false, false, false, false, false, false, false, false, false, false, false, false, false, false, false, false, false, false, false, false, false, false, false, false, false, false, false, false, false, false, false, false, false, false, false, false, false, false, false, false, false, false, false, false, false, false, false, false, false, false, false, false, false, false, false, false, false, false, false, false, false, false, false, false, false, false, false, false, false, false, false, false, false, false, false, false, false, false, false, false, false, false, false, false], bs := [false, false, false, false, true, true, false, false, false, false, false, false, false, false, false, false, false, false, false, false, false, false, false, false, false, false, false, false, false, false, false, false, false, false, false, false, false, false, false, false, false, false, false, false, false, false, false, false, false, false, false, false, false, false, false, false, false, false, false, false, false, false, false, false, false, false, false, false, false, false, false, false, false, false, false, false, false, false, false, false, false, false, false, false, false, false, false, false, false, false, false, false, false, false, false, false, false, false, false], nm := [(.cell 5 0, 396), (.cell 5 8, 397)], gb := [], gs := [] })]).getD ⟨[], [], [], [], [], false⟩
def A_access_found (r : Span) : List (A Un) := [.agg (encC Ty.span r)]
def O_access_found (_r : Span) : List (Ob Un) := []
def access_found_c1 (terms : List Term) (cols : List Int) (v0 : List Val) := access_first terms (cols.getD (↑v0.length : Int).toNat (0 : Int)) (11 : Int) (11 : Int)
def access_found_c2 (terms : List Term) (cols : List Int) (v0 : List Val) (v1 : List Term) := access_bound v0 none { is := decide ((↑v0.length : Int) > (0 : Int)), open_ := false, key := v0 } { is := decide ((↑v0.length : Int) > (0 : Int)), open_ := false, key := v0 } (↑v0.length : Int) v1 (some (0 : Nat)) terms (cols.getD (↑v0.length : Int).toNat (0 : Int)) (15 : Int) (16 : Int)
def access_found_c3 (terms : List Term) (cols : List Int) (v0 : List Val) (v1 : List Term) := access_bound (access_found_c2 terms cols v0 v1).snd.snd.fst none (access_found_c2 terms cols v0 v1).fst (access_found_c2 terms cols v0 v1).snd.snd.snd.snd.fst (access_found_c2 terms cols v0 v1).snd.snd.snd.snd.snd.fst (access_found_c2 terms cols v0 v1).snd.snd.snd.snd.snd.snd none terms (cols.getD (access_found_c2 terms cols v0 v1).snd.snd.snd.snd.snd.fst.toNat (0 : Int)) (13 : Int) (14 : Int)
def access_found_s2 (terms : List Term) (cols : List Int) (v0 : List Val) (v1 : List Term) : S Un := (st 99 99 398 0 [(0, AV.one (A.c (C.sl Ty.term terms false))), (1, AV.one (A.c (C.sl Ty.int cols false))), (4, AV.one (A.c (C.bx (4 : Nat) (0 : Nat)))), (5, AV.one (A.c (C.bx (5 : Nat) (0 : Nat))))] [(4, some (false, [C.sl Ty.val [] true, C.s (Value.bool false), C.s (Value.bool false), C.sl Ty.val [] true, C.s (Value.bool false), C.s (Value.bool false), C.sl Ty.val [] true, C.s (Value.int IntKind.i64 (0 : Int)), C.sl Ty.term [] true])), (5, some (false, [C.ob (396 : Nat) (0 : Nat), C.s (Value.bool false), C.s (Value.bool false), C.sl Ty.val [] true, C.s (Value.bool false), C.s (Value.bool false), C.sl Ty.val [] true, C.s (Value.int IntKind.i64 (0 : Int)), C.ob (397 : Nat) (0 : Nat)]))] [(396, some ⟨(0 : Nat), Ty.val, v0, some (0 : Nat), true⟩), (397, some ⟨(0 : Nat), Ty.term, v1, some (0 : Nat), true⟩)])
theorem access_found_in (terms : List Term) (cols : List Int) (K : List (A Un) → List (Ob Un) → Prop) :
    awp M_access_found N_access_found (bodyOf Try.f15) (entry Try.f15.ntmps 2 [.d (.v (.dat (U := Un) Ty.term terms)), .d (.v (.dat (U := Un) Ty.int cols))]) (retQ M_access_found Try.f15.results.toList [.d] K) =
(itersK (N_access_found 2) (awp M_access_found N_access_found (sub (bodyOf Try.f15) [1, 1, 0, 2, 2])) (ctxK M_access_found N_access_found (bodyOf Try.f15) [1, 1, 0, 2] (retQ M_access_found Try.f15.results.toList [.d] K)) (access_found_s2 terms cols ([]) ([]))) := by kernel_rfl
theorem access_found_l2_raw (terms : List Term) (cols : List Int) (v0 : List Val) (v1 : List Term) (k : Nat) (Q : Exit → S Un → Prop) :
    iterK (N_access_found 2) (awp M_access_found N_access_found (sub (bodyOf Try.f15) [1, 1, 0, 2, 2])) Q (k + 1) (access_found_s2 terms cols v0 v1) =
(cnd (decide ((↑v0.length : Int) < (↑cols.length : Int)))
 (((0 : Int) ≤ (↑v0.length : Int) ∧ (↑v0.length : Int) < (↑cols.length : Int)) ∧
 (cnd (decide ((access_found_c1 terms cols v0).fst < (0 : Int)))
  (Q (.exit 0) (access_found_s2 terms cols v0 v1))
  (((v0.length + [(access_found_c1 terms cols v0).snd.snd].length) * (32 : Nat) ≤ roomB) ∧
  (((0 : Int) ≤ (access_found_c1 terms cols v0).fst ∧ (access_found_c1 terms cols v0).fst < (↑terms.length : Int)) ∧
  (((v1.length + [zeroTerm].length) * (128 : Nat) ≤ roomB) ∧
  (((0 : Int) ≤ (↑v1.length : Int) ∧ (↑v1.length : Int) < (↑(v1 ++ [zeroTerm]).length : Int)) ∧
  ((frz (some (0 : Nat)) v1.length ≤ (↑v1.length : Int).toNat) ∧
  (iterK (N_access_found 2) (awp M_access_found N_access_found (sub (bodyOf Try.f15) [1, 1, 0, 2, 2])) Q k (access_found_s2 terms cols (v0 ++ [(access_found_c1 terms cols v0).snd.snd]) ((v1 ++ [zeroTerm]).set (↑v1.length : Int).toNat (Term.mk (Term.op (terms.getD (access_found_c1 terms cols v0).fst.toNat zeroTerm)) (Term.v (terms.getD (access_found_c1 terms cols v0).fst.toNat zeroTerm)) (Term.depth (terms.getD (access_found_c1 terms cols v0).fst.toNat zeroTerm)) (Term.at_ (terms.getD (access_found_c1 terms cols v0).fst.toNat zeroTerm)) (Term.name (terms.getD (access_found_c1 terms cols v0).fst.toNat zeroTerm)) (Term.kids (terms.getD (access_found_c1 terms cols v0).fst.toNat zeroTerm)) (Term.sub (terms.getD (access_found_c1 terms cols v0).fst.toNat zeroTerm)) (Term.type (terms.getD (access_found_c1 terms cols v0).fst.toNat zeroTerm)))))))))))))
 (Q (.exit 0) (access_found_s2 terms cols v0 v1))) := by kernel_rfl
theorem access_found_l2 (terms : List Term) (cols : List Int) (v0 : List Val) (v1 : List Term) (k : Nat) (Q : Exit → S Un → Prop) :
    iterK (N_access_found 2) (awp M_access_found N_access_found (sub (bodyOf Try.f15) [1, 1, 0, 2, 2])) Q (k + 1) (access_found_s2 terms cols v0 v1) =
(cnd (decide ((↑v0.length : Int) < (↑cols.length : Int)))
 (((0 : Int) ≤ (↑v0.length : Int) ∧ (↑v0.length : Int) < (↑cols.length : Int)) ∧
 (cnd (decide ((access_found_c1 terms cols v0).fst < (0 : Int)))
  (Q (.exit 0) (access_found_s2 terms cols v0 v1))
  (((v0.length + [(access_found_c1 terms cols v0).snd.snd].length) * (32 : Nat) ≤ roomB) ∧
  (((0 : Int) ≤ (access_found_c1 terms cols v0).fst ∧ (access_found_c1 terms cols v0).fst < (↑terms.length : Int)) ∧
  (((v1.length + [zeroTerm].length) * (128 : Nat) ≤ roomB) ∧
  (((0 : Int) ≤ (↑v1.length : Int) ∧ (↑v1.length : Int) < (↑(v1 ++ [zeroTerm]).length : Int)) ∧
  ((frz (some (0 : Nat)) v1.length ≤ (↑v1.length : Int).toNat) ∧
  (iterK (N_access_found 2) (awp M_access_found N_access_found (sub (bodyOf Try.f15) [1, 1, 0, 2, 2])) Q k (access_found_s2 terms cols (v0 ++ [(access_found_c1 terms cols v0).snd.snd]) ((v1 ++ [zeroTerm]).set (↑v1.length : Int).toNat (terms.getD (access_found_c1 terms cols v0).fst.toNat zeroTerm)))))))))))
 (Q (.exit 0) (access_found_s2 terms cols v0 v1))) :=
  (access_found_l2_raw terms cols v0 v1 k Q).trans (by simp only [Term.eta])
theorem access_found_a2_x0 (terms : List Term) (cols : List Int) (v0 : List Val) (v1 : List Term) (K : List (A Un) → List (Ob Un) → Prop) :
    ctxK M_access_found N_access_found (bodyOf Try.f15) [1, 1, 0, 2] (retQ M_access_found Try.f15.results.toList [.d] K) (.exit 0) (access_found_s2 terms cols v0 v1) =
(cnd ((↑v0.length : Int) == (↑cols.length : Int))
 (K (A_access_found ({ front := v0, lo := { is := decide ((↑v0.length : Int) > (0 : Int)), open_ := false, key := v0 }, hi := { is := decide ((↑v0.length : Int) > (0 : Int)), open_ := false, key := v0 }, n := (↑v0.length : Int), counts := v1 })) (O_access_found ({ front := v0, lo := { is := decide ((↑v0.length : Int) > (0 : Int)), open_ := false, key := v0 }, hi := { is := decide ((↑v0.length : Int) > (0 : Int)), open_ := false, key := v0 }, n := (↑v0.length : Int), counts := v1 })))
 (((0 : Int) ≤ (↑v0.length : Int) ∧ (↑v0.length : Int) < (↑cols.length : Int)) ∧
 ((v0.length ≤ (100000 : Nat)) ∧
 ((v1.length ≤ (100000 : Nat)) ∧
 (((0 : Int) ≤ (access_found_c2 terms cols v0 v1).snd.snd.snd.snd.snd.fst ∧ (access_found_c2 terms cols v0 v1).snd.snd.snd.snd.snd.fst < (↑cols.length : Int)) ∧
 (((access_found_c2 terms cols v0 v1).snd.snd.fst.length ≤ (100000 : Nat)) ∧
 (((access_found_c2 terms cols v0 v1).snd.snd.snd.snd.snd.snd.length ≤ (100000 : Nat)) ∧
 (cnd ((access_found_c2 terms cols v0 v1).snd.fst)
  (K (A_access_found ({ front := (access_found_c3 terms cols v0 v1).snd.snd.fst, lo := (access_found_c3 terms cols v0 v1).snd.snd.snd.fst, hi := (access_found_c3 terms cols v0 v1).fst, n := IntKind.i64.wrap ((access_found_c3 terms cols v0 v1).snd.snd.snd.snd.snd.fst + (1 : Int)), counts := (access_found_c3 terms cols v0 v1).snd.snd.snd.snd.snd.snd })) (O_access_found ({ front := (access_found_c3 terms cols v0 v1).snd.snd.fst, lo := (access_found_c3 terms cols v0 v1).snd.snd.snd.fst, hi := (access_found_c3 terms cols v0 v1).fst, n := IntKind.i64.wrap ((access_found_c3 terms cols v0 v1).snd.snd.snd.snd.snd.fst + (1 : Int)), counts := (access_found_c3 terms cols v0 v1).snd.snd.snd.snd.snd.snd })))
  (cnd ((access_found_c3 terms cols v0 v1).snd.fst)
   (K (A_access_found ({ front := (access_found_c3 terms cols v0 v1).snd.snd.fst, lo := (access_found_c3 terms cols v0 v1).snd.snd.snd.fst, hi := (access_found_c3 terms cols v0 v1).fst, n := IntKind.i64.wrap ((access_found_c3 terms cols v0 v1).snd.snd.snd.snd.snd.fst + (1 : Int)), counts := (access_found_c3 terms cols v0 v1).snd.snd.snd.snd.snd.snd })) (O_access_found ({ front := (access_found_c3 terms cols v0 v1).snd.snd.fst, lo := (access_found_c3 terms cols v0 v1).snd.snd.snd.fst, hi := (access_found_c3 terms cols v0 v1).fst, n := IntKind.i64.wrap ((access_found_c3 terms cols v0 v1).snd.snd.snd.snd.snd.fst + (1 : Int)), counts := (access_found_c3 terms cols v0 v1).snd.snd.snd.snd.snd.snd })))
   (K (A_access_found ({ front := (access_found_c3 terms cols v0 v1).snd.snd.fst, lo := (access_found_c3 terms cols v0 v1).snd.snd.snd.fst, hi := (access_found_c3 terms cols v0 v1).fst, n := (access_found_c3 terms cols v0 v1).snd.snd.snd.snd.snd.fst, counts := (access_found_c3 terms cols v0 v1).snd.snd.snd.snd.snd.snd })) (O_access_found ({ front := (access_found_c3 terms cols v0 v1).snd.snd.fst, lo := (access_found_c3 terms cols v0 v1).snd.snd.snd.fst, hi := (access_found_c3 terms cols v0 v1).fst, n := (access_found_c3 terms cols v0 v1).snd.snd.snd.snd.snd.fst, counts := (access_found_c3 terms cols v0 v1).snd.snd.snd.snd.snd.snd })))))))))))) := by kernel_rfl
def access_found_S2 (terms : List Term) (cols : List Int) (v : List Val × List Term) : Option ((List Val × List Term) ⊕ (List Val × List Term)) :=
  if (decide ((↑v.1.length : Int) < (↑cols.length : Int))) = true then
   if (0 : Int) ≤ (↑v.1.length : Int) ∧ (↑v.1.length : Int) < (↑cols.length : Int) then
    if (decide ((access_found_c1 terms cols v.1).fst < (0 : Int))) = true then
     some (.inr (v.1, v.2))
    else
     if (v.1.length + [(access_found_c1 terms cols v.1).snd.snd].length) * (32 : Nat) ≤ roomB then
      if (0 : Int) ≤ (access_found_c1 terms cols v.1).fst ∧ (access_found_c1 terms cols v.1).fst < (↑terms.length : Int) then
       if (v.2.length + [zeroTerm].length) * (128 : Nat) ≤ roomB then
        if (0 : Int) ≤ (↑v.2.length : Int) ∧ (↑v.2.length : Int) < (↑(v.2 ++ [zeroTerm]).length : Int) then
         if frz (some (0 : Nat)) v.2.length ≤ (↑v.2.length : Int).toNat then
          some (.inl ((v.1 ++ [(access_found_c1 terms cols v.1).snd.snd]), ((v.2 ++ [zeroTerm]).set (↑v.2.length : Int).toNat (terms.getD (access_found_c1 terms cols v.1).fst.toNat zeroTerm))))
         else none
        else none
       else none
      else none
     else none
   else none
  else
   some (.inr (v.1, v.2))
def access_found_L2 (terms : List Term) (cols : List Int) (v : List Val × List Term) : Option (List Val × List Term) := loopO (access_found_S2 terms cols) v
theorem access_found_L2_eq (terms : List Term) (cols : List Int) (v : List Val × List Term) : access_found_L2 terms cols v = stepB (access_found_L2 terms cols) (access_found_S2 terms cols v) := loopO_eq _ _
def access_found_Q2 (terms : List Term) (cols : List Int) (r : List Val × List Term) (Q : Exit → S Un → Prop) : Prop := Q (.exit 0) (access_found_s2 terms cols r.1 r.2)
theorem access_found_Q2_x0 {terms : List Term} {cols : List Int} {r : List Val × List Term} {Q : Exit → S Un → Prop} (h : Q (.exit 0) (access_found_s2 terms cols r.1 r.2)) : access_found_Q2 terms cols r Q := h
theorem access_found_L2_run {terms : List Term} {cols : List Int} {v : List Val × List Term} {r : List Val × List Term} (h : access_found_L2 terms cols v = some r) (Q : Exit → S Un → Prop) (hQ : access_found_Q2 terms cols r Q) : itersK (N_access_found 2) (awp M_access_found N_access_found (sub (bodyOf Try.f15) [1, 1, 0, 2, 2])) Q (access_found_s2 terms cols v.1 v.2) := by
  refine @loop_run _ _ (access_found_S2 terms cols) (fun v => itersK (N_access_found 2) (awp M_access_found N_access_found (sub (bodyOf Try.f15) [1, 1, 0, 2, 2])) Q (access_found_s2 terms cols v.1 v.2)) (fun r => access_found_Q2 terms cols r Q) ?_ v r h hQ
  intro v o h hI
  unfold access_found_S2 at h
  rcases ite_some h with ⟨c1, h2⟩ | ⟨c1, h2⟩
  · obtain ⟨c3, h4⟩ := ob_some h2
    rcases ite_some h4 with ⟨c5, h6⟩ | ⟨c5, h6⟩
    · cases h6
      exact itersK_mk 1 (mpr (access_found_l2 terms cols v.1 v.2 0 Q) (cnd_t c1 (And.intro c3 (cnd_t c5 hI))))
    · obtain ⟨c7, h8⟩ := ob_some h6
      obtain ⟨c9, h10⟩ := ob_some h8
      obtain ⟨c11, h12⟩ := ob_some h10
      obtain ⟨c13, h14⟩ := ob_some h12
      obtain ⟨c15, h16⟩ := ob_some h14
      cases h16
      obtain ⟨k17, hk18⟩ := itersK_get hI
      exact itersK_mk (k17 + 1) (mpr (access_found_l2 terms cols v.1 v.2 k17 Q) (cnd_t c1 (And.intro c3 (cnd_f (bfalse c5) (And.intro c7 (And.intro c9 (And.intro c11 (And.intro c13 (And.intro c15 hk18)))))))))
  · cases h2
    exact itersK_mk 1 (mpr (access_found_l2 terms cols v.1 v.2 0 Q) (cnd_f (bfalse c1) hI))
def access_found_fn (terms : List Term) (cols : List Int) : Option (Span) :=
  (access_found_L2 terms cols (([]), ([]))) >>= fun o19 =>
   if ((↑o19.1.length : Int) == (↑cols.length : Int)) = true then
    some ({ front := o19.1, lo := { is := decide ((↑o19.1.length : Int) > (0 : Int)), open_ := false, key := o19.1 }, hi := { is := decide ((↑o19.1.length : Int) > (0 : Int)), open_ := false, key := o19.1 }, n := (↑o19.1.length : Int), counts := o19.2 })
   else
    if (0 : Int) ≤ (↑o19.1.length : Int) ∧ (↑o19.1.length : Int) < (↑cols.length : Int) then
     if o19.1.length ≤ (100000 : Nat) then
      if o19.2.length ≤ (100000 : Nat) then
       if (0 : Int) ≤ (access_found_c2 terms cols o19.1 o19.2).snd.snd.snd.snd.snd.fst ∧ (access_found_c2 terms cols o19.1 o19.2).snd.snd.snd.snd.snd.fst < (↑cols.length : Int) then
        if (access_found_c2 terms cols o19.1 o19.2).snd.snd.fst.length ≤ (100000 : Nat) then
         if (access_found_c2 terms cols o19.1 o19.2).snd.snd.snd.snd.snd.snd.length ≤ (100000 : Nat) then
          if ((access_found_c2 terms cols o19.1 o19.2).snd.fst) = true then
           some ({ front := (access_found_c3 terms cols o19.1 o19.2).snd.snd.fst, lo := (access_found_c3 terms cols o19.1 o19.2).snd.snd.snd.fst, hi := (access_found_c3 terms cols o19.1 o19.2).fst, n := IntKind.i64.wrap ((access_found_c3 terms cols o19.1 o19.2).snd.snd.snd.snd.snd.fst + (1 : Int)), counts := (access_found_c3 terms cols o19.1 o19.2).snd.snd.snd.snd.snd.snd })
          else
           if ((access_found_c3 terms cols o19.1 o19.2).snd.fst) = true then
            some ({ front := (access_found_c3 terms cols o19.1 o19.2).snd.snd.fst, lo := (access_found_c3 terms cols o19.1 o19.2).snd.snd.snd.fst, hi := (access_found_c3 terms cols o19.1 o19.2).fst, n := IntKind.i64.wrap ((access_found_c3 terms cols o19.1 o19.2).snd.snd.snd.snd.snd.fst + (1 : Int)), counts := (access_found_c3 terms cols o19.1 o19.2).snd.snd.snd.snd.snd.snd })
           else
            some ({ front := (access_found_c3 terms cols o19.1 o19.2).snd.snd.fst, lo := (access_found_c3 terms cols o19.1 o19.2).snd.snd.snd.fst, hi := (access_found_c3 terms cols o19.1 o19.2).fst, n := (access_found_c3 terms cols o19.1 o19.2).snd.snd.snd.snd.snd.fst, counts := (access_found_c3 terms cols o19.1 o19.2).snd.snd.snd.snd.snd.snd })
         else none
        else none
       else none
      else none
     else none
    else none
theorem access_found_run {terms : List Term} {cols : List Int} {r : Span} (h : access_found_fn terms cols = some r) : Runs (awp M_access_found N_access_found (bodyOf Try.f15) (entry Try.f15.ntmps 2 [.d (.v (.dat (U := Un) Ty.term terms)), .d (.v (.dat (U := Un) Ty.int cols))]) (retQ M_access_found Try.f15.results.toList [.d] fun rs os => rs = A_access_found r ∧ os = O_access_found r)) := by
  constructor
  rw [access_found_in terms cols (fun rs os => rs = A_access_found r ∧ os = O_access_found r)]
  unfold access_found_fn at h
  obtain ⟨o20, ho21, h22⟩ := bind_some h
  rcases ite_some h22 with ⟨c23, h24⟩ | ⟨c23, h24⟩
  · cases h24
    exact (access_found_L2_run ho21 _ (access_found_Q2_x0 (mpr (access_found_a2_x0 terms cols o20.1 o20.2 _) (cnd_t c23 ⟨rfl, rfl⟩))))
  · obtain ⟨c25, h26⟩ := ob_some h24
    obtain ⟨c27, h28⟩ := ob_some h26
    obtain ⟨c29, h30⟩ := ob_some h28
    obtain ⟨c31, h32⟩ := ob_some h30
    obtain ⟨c33, h34⟩ := ob_some h32
    obtain ⟨c35, h36⟩ := ob_some h34
    rcases ite_some h36 with ⟨c37, h38⟩ | ⟨c37, h38⟩
    · cases h38
      exact (access_found_L2_run ho21 _ (access_found_Q2_x0 (mpr (access_found_a2_x0 terms cols o20.1 o20.2 _) (cnd_f (bfalse c23) (And.intro c25 (And.intro c27 (And.intro c29 (And.intro c31 (And.intro c33 (And.intro c35 (cnd_t c37 ⟨rfl, rfl⟩)))))))))))
    · rcases ite_some h38 with ⟨c39, h40⟩ | ⟨c39, h40⟩
      · cases h40
        exact (access_found_L2_run ho21 _ (access_found_Q2_x0 (mpr (access_found_a2_x0 terms cols o20.1 o20.2 _) (cnd_f (bfalse c23) (And.intro c25 (And.intro c27 (And.intro c29 (And.intro c31 (And.intro c33 (And.intro c35 (cnd_f (bfalse c37) (cnd_t c39 ⟨rfl, rfl⟩))))))))))))
      · cases h40
        exact (access_found_L2_run ho21 _ (access_found_Q2_x0 (mpr (access_found_a2_x0 terms cols o20.1 o20.2 _) (cnd_f (bfalse c23) (And.intro c25 (And.intro c27 (And.intro c29 (And.intro c31 (And.intro c33 (And.intro c35 (cnd_f (bfalse c37) (cnd_f (bfalse c39) ⟨rfl, rfl⟩))))))))))))
def access_found (terms : List Term) (cols : List Int) : Span := spanT terms cols
@[simp] theorem access_found_eq (terms : List Term) (cols : List Int) : access_found terms cols = spanT terms cols := by unfold access_found; rfl
theorem access_found_loop (terms : List Term) (cols : List Int) (hc : cols.length ≤ 100000) : ∀ (r : List Int) (k : List Val) (u : List Term), k.length = u.length → cols.drop k.length = r → k.length ≤ cols.length →
    access_found_L2 terms cols (k, u) = some (k ++ (eqsT terms r).1, u ++ (eqsT terms r).2) := by
  intro r
  induction r with
  | nil =>
    intro k u hl h1 h2
    have e1 := drop_nil h1
    have hn : ¬ ((k.length : Int) < cols.length) := by omega
    rw [access_found_L2_eq, access_found_S2]
    simp [hn, eqsT]
  | cons c r ih =>
    intro k u hl h1 h2
    obtain ⟨a1, a2, a3, _⟩ := drop_cons h1
    have hp : (k.length : Int) < cols.length := by omega
    have hi : (0 : Int) ≤ (k.length : Int) := by omega
    have hc1 : access_found_c1 terms cols k = access_first terms c 11 11 := by unfold access_found_c1; rw [Int.toNat_natCast, a2]
    rw [access_found_L2_eq, access_found_S2]
    simp only [hp, hi, decide_true, if_true, and_self, hc1]
    have hlt := access_first_lt terms c 11 11
    unfold access_first eqsT
    cases hf : firstT c 11 11 terms 0 with
    | none => simp
    | some x =>
      obtain ⟨i, op, v⟩ := x
      have hi := (firstT_spec hf).2.1
      have e1 : ¬ ((i : Int) < 0) := by omega
      have e2 : (0 : Int) ≤ (i : Int) ∧ (i : Int) < (terms.length : Int) := by omega
      have e3 : (k.length + [v].length) * 32 ≤ roomB := by unfold roomB; simp; omega
      have e4 : (u.length + [zeroTerm].length) * 128 ≤ roomB := by unfold roomB; simp; omega
      have e5 : (0 : Int) ≤ (u.length : Int) ∧ (u.length : Int) < ((u ++ [zeroTerm]).length : Int) := by simp; omega
      simp only [e1, e2, e3, e4, e5, decide_false, Bool.false_eq_true, if_false, if_true, and_self, frz, Nat.zero_le, Int.toNat_natCast, set_last, stepB_inl]
      rw [ih (k ++ [v]) (u ++ [terms.getD i zeroTerm]) (by simp; omega) (by simp; exact a3) (by simp; omega)]
      simp
theorem access_found_spec (terms : List Term) (cols : List Int) (_ht : WL .term terms) (_h : WL .int cols) (hc : cols.length ≤ 100000) : access_found_fn terms cols = some (access_found terms cols) := by
  have hl := access_found_loop terms cols hc _ [] [] rfl rfl (by simp)
  have hlen := eqsT_len terms cols
  unfold access_found_fn access_found spanT
  rw [hl]
  simp only [List.nil_append, List.length_nil, List.drop_zero]
  generalize hk : (eqsT terms cols).1 = k at *
  generalize hu : (eqsT terms cols).2 = u at *
  have hd : ((k.length : Int) > 0) = (k.length > 0) := by simp
  simp only [Option.bind_eq_bind, Option.bind_some, hd, beq_iff_eq, Int.natCast_inj]
  by_cases h : k.length = cols.length
  · rw [if_pos h, if_pos h]
  · rw [if_neg h, if_neg h]
    have e0 : (0 : Int) ≤ (k.length : Int) ∧ (k.length : Int) < (cols.length : Int) := by omega
    generalize hcol : cols.getD k.length 0 = col
    have b1 : access_found_c2 terms cols k u = ((endT terms k col 15 16).1, !(endT terms k col 15 16).2.isEmpty, k, ⟨decide (k.length > 0), false, k⟩, ⟨decide (k.length > 0), false, k⟩, (k.length : Int), u ++ (endT terms k col 15 16).2) := by
      unfold access_found_c2 access_bound endT access_first
      simp only [Int.toNat_natCast, hcol, hd]
      cases hf : firstT col 15 16 terms 0 with
      | none => simp
      | some x =>
        obtain ⟨i, op, v⟩ := x
        have : ¬ ((i : Int) < 0) := by omega
        simp [this]
    have b2 : access_found_c3 terms cols k u = ((endT terms k col 13 14).1, !(endT terms k col 13 14).2.isEmpty, k, (endT terms k col 15 16).1, ⟨decide (k.length > 0), false, k⟩, (k.length : Int), u ++ (endT terms k col 15 16).2 ++ (endT terms k col 13 14).2) := by
      unfold access_found_c3
      rw [b1]
      generalize endT terms k col 15 16 = x1
      unfold access_bound access_first endT
      simp only [Int.toNat_natCast, hcol]
      cases hf : firstT col 13 14 terms 0 with
      | none => simp
      | some x =>
        obtain ⟨i, op, v⟩ := x
        have : ¬ ((i : Int) < 0) := by omega
        simp [this]
    have l1 : (endT terms k col 15 16).2.length ≤ 1 := by unfold endT; split <;> simp
    have e1 : k.length ≤ 100000 := by omega
    have e2 : u.length ≤ 100000 := by omega
    rw [if_pos e0, if_pos e1, if_pos e2, b1, b2, if_pos e0, if_pos e1]
    have e3 : (u ++ (endT terms k col 15 16).2).length ≤ 100000 := by simp; omega
    have e4 : IntKind.i64.wrap ((k.length : Int) + 1) = (k.length : Int) + 1 := wrap_id (by omega)
    rw [if_pos e3]
    simp only [e4]
    cases ha : (endT terms k col 15 16).2 <;> cases hb : (endT terms k col 13 14).2 <;> simp
def F_access_found : FnC Un := fun args => match args with
  | [x0, x1] => (dL .term x0).bind fun terms => (dL .int x1).bind fun cols => some ([cols.length ≤ 100000], A_access_found (access_found terms cols), O_access_found (access_found terms cols))
  | _ => none
theorem ok_access_found : FnOK 15 F_access_found := by
  intro args ob rs os h hob
  unfold F_access_found at h
  split at h
  · simp only [Option.bind_eq_some_iff, Option.some.injEq, Prod.mk.injEq] at h
    obtain ⟨terms, e0, cols, e1, rfl, rfl, rfl⟩ := h
    obtain rfl := dL_eq e0
    obtain rfl := dL_eq e1
    exact ⟨fn_contract (M := M_access_found) rfl (tbl_ok (l1 := [(23, F_access_first)]) (l2 := []) (l3 := []) (l4 := [(24, G_access_bound)]) (l5 := []) ⟨ok_access_first, trivial⟩ trivial trivial ⟨okG_access_bound, trivial⟩ trivial) Try.func15 (by kernel_rfl) N_access_found 2 [.d] (fun hwf => access_found_run (access_found_spec terms cols (wfArg hwf (a := .d (.v (.dat (U := Un) Ty.term terms))) (List.mem_of_getElem? (i := 0) rfl)) (wfArg hwf (a := .d (.v (.dat (U := Un) Ty.int cols))) (List.mem_of_getElem? (i := 1) rfl)) (hob _ (List.mem_of_getElem? (i := 0) rfl)))), hasBody_of Try.func15 (by kernel_rfl) (by kernel_rfl)⟩
  · simp at h
def M_access_Range : Mc Un := mach (tbl [(15, F_access_found)]) (tbl []) (tbl []) (tbl []) (tbl [])
def N_access_Range : Nat → NS := fun l => (look l []).getD ⟨[], [], [], [], [], false⟩
def A_access_Range (r : Bound × Bound × Int) : List (A Un) := [.agg (encC Ty.bound r.1), .agg (encC Ty.bound r.2.1), .c (.s (.int .i64 r.2.2))]
def O_access_Range (_r : Bound × Bound × Int) : List (Ob Un) := []
theorem access_Range_in (terms : List Term) (cols : List Int) (K : List (A Un) → List (Ob Un) → Prop) :
    awp M_access_Range N_access_Range (bodyOf Try.f5) (entry Try.f5.ntmps 0 [.d (.v (.dat (U := Un) Ty.term terms)), .d (.v (.dat (U := Un) Ty.int cols))]) (retQ M_access_Range Try.f5.results.toList [.d, .d, .d] K) =
((cols.length ≤ (100000 : Nat)) ∧
(K (A_access_Range ((access_found terms cols).lo, (access_found terms cols).hi, (access_found terms cols).n)) (O_access_Range ((access_found terms cols).lo, (access_found terms cols).hi, (access_found terms cols).n)))) := by kernel_rfl
def access_Range_fn (terms : List Term) (cols : List Int) : Option (Bound × Bound × Int) :=
  if cols.length ≤ (100000 : Nat) then
   some ((access_found terms cols).lo, (access_found terms cols).hi, (access_found terms cols).n)
  else none
theorem access_Range_run {terms : List Term} {cols : List Int} {r : Bound × Bound × Int} (h : access_Range_fn terms cols = some r) : Runs (awp M_access_Range N_access_Range (bodyOf Try.f5) (entry Try.f5.ntmps 0 [.d (.v (.dat (U := Un) Ty.term terms)), .d (.v (.dat (U := Un) Ty.int cols))]) (retQ M_access_Range Try.f5.results.toList [.d, .d, .d] fun rs os => rs = A_access_Range r ∧ os = O_access_Range r)) := by
  constructor
  rw [access_Range_in terms cols (fun rs os => rs = A_access_Range r ∧ os = O_access_Range r)]
  unfold access_Range_fn at h
  obtain ⟨c1, h2⟩ := ob_some h
  cases h2
  exact (And.intro c1 ⟨rfl, rfl⟩)
def access_Range (terms : List Term) (cols : List Int) : Bound × Bound × Int := ((spanT terms cols).lo, (spanT terms cols).hi, (spanT terms cols).n)
theorem access_Range_spec (terms : List Term) (cols : List Int) (_ht : WL .term terms) (_h : WL .int cols) (hc : cols.length ≤ 100000) : access_Range_fn terms cols = some (access_Range terms cols) := by
  unfold access_Range_fn access_Range
  simp [hc]
def F_access_Range : FnC Un := fun args => match args with
  | [x0, x1] => (dL .term x0).bind fun terms => (dL .int x1).bind fun cols => some ([cols.length ≤ 100000], A_access_Range (access_Range terms cols), O_access_Range (access_Range terms cols))
  | _ => none
theorem ok_access_Range : FnOK 5 F_access_Range := by
  intro args ob rs os h hob
  unfold F_access_Range at h
  split at h
  · simp only [Option.bind_eq_some_iff, Option.some.injEq, Prod.mk.injEq] at h
    obtain ⟨terms, e0, cols, e1, rfl, rfl, rfl⟩ := h
    obtain rfl := dL_eq e0
    obtain rfl := dL_eq e1
    exact ⟨fn_contract (M := M_access_Range) rfl (tbl_ok (l1 := [(15, F_access_found)]) (l2 := []) (l3 := []) (l4 := []) (l5 := []) ⟨ok_access_found, trivial⟩ trivial trivial trivial trivial) Try.func5 (by kernel_rfl) N_access_Range 0 [.d, .d, .d] (fun hwf => access_Range_run (access_Range_spec terms cols (wfArg hwf (a := .d (.v (.dat (U := Un) Ty.term terms))) (List.mem_of_getElem? (i := 0) rfl)) (wfArg hwf (a := .d (.v (.dat (U := Un) Ty.int cols))) (List.mem_of_getElem? (i := 1) rfl)) (hob _ (List.mem_of_getElem? (i := 0) rfl)))), hasBody_of Try.func5 (by kernel_rfl) (by kernel_rfl)⟩
  · simp at h
def M_access_Best : Mc Un := mach (tbl []) (tbl []) (tbl []) (tbl []) (tbl [])
def N_access_Best : Nat → NS := fun l => (look l [(3, { ts := [false, false, true, true, false, false, true, true, true, false, false, false, false, false, false, false, false, false, false, false, false, false, false, false, false], bs := [false, false, true, true, false, false, false, false, false, false, false, false, false, false, false, false, false, false, false, false, false, false, false, false, false], nm := [], gb := [3], gs := [] })]).getD ⟨[], [], [], [], [], false⟩
def A_access_Best (r : Plan) : List (A Un) := [.agg (encC Ty.plan r)]
def O_access_Best (_r : Plan) : List (Ob Un) := []
def access_Best_s3 (l : List Plan) (b3 : Plan) (v0 : Int) : S Un := (st 25 25 100 0 [(2, AV.one (A.c (C.bx (2 : Nat) (0 : Nat)))), (3, AV.one (A.c (C.bx (3 : Nat) (0 : Nat)))), (6, AV.one (A.c (C.sl Ty.plan l false))), (7, AV.one (A.c (C.s (Value.int IntKind.i64 (↑l.length : Int))))), (8, AV.one (A.c (C.s (Value.int IntKind.i64 v0))))] [(2, some (false, [C.s (Value.int IntKind.i64 (0 : Int)), C.s (Value.string (ByteArray.mk #[])), C.s (Value.string (ByteArray.mk #[])), C.sl Ty.col [] true, C.sl Ty.plan [] true, C.sl Ty.term [] true, C.sl Ty.term [] true, C.sl Ty.term [] true, C.sl Ty.agg [] true, C.sl Ty.by_ [] true, C.sl Ty.int [] true, C.s (Value.bool false), C.s (Value.bool false), C.sl Ty.val [] true, C.s (Value.bool false), C.s (Value.bool false), C.sl Ty.val [] true, C.s (Value.int IntKind.i64 (0 : Int)), C.s (Value.int IntKind.i64 (0 : Int)), C.s (Value.bool false), C.sl Ty.row [] true, C.s (Value.int IntKind.i64 (0 : Int)), C.s (Value.int IntKind.i64 (0 : Int))])), (3, some (false, encC Ty.plan (b3)))] [])
theorem access_Best_in (l : List Plan) (K : List (A Un) → List (Ob Un) → Prop) :
    awp M_access_Best N_access_Best (bodyOf Try.f13) (entry Try.f13.ntmps 0 [.d (.v (.dat (U := Un) Ty.plan l))]) (retQ M_access_Best Try.f13.results.toList [.d] K) =
(itersK (N_access_Best 3) (awp M_access_Best N_access_Best (sub (bodyOf Try.f13) [1, 1, 0, 1, 2, 2])) (ctxK M_access_Best N_access_Best (bodyOf Try.f13) [1, 1, 0, 1, 2] (retQ M_access_Best Try.f13.results.toList [.d] K)) (access_Best_s3 l zeroPlan (0 : Int))) := by kernel_rfl
theorem access_Best_l3 (l : List Plan) (b3 : Plan) (v0 : Int) (k : Nat) (Q : Exit → S Un → Prop) :
    iterK (N_access_Best 3) (awp M_access_Best N_access_Best (sub (bodyOf Try.f13) [1, 1, 0, 1, 2, 2])) Q (k + 1) (access_Best_s3 l b3 v0) =
(cnd (decide (v0 < (↑l.length : Int)))
 (((0 : Int) ≤ v0 ∧ v0 < (↑l.length : Int)) ∧
 (cnd (v0 == (0 : Int))
  (iterK (N_access_Best 3) (awp M_access_Best N_access_Best (sub (bodyOf Try.f13) [1, 1, 0, 1, 2, 2])) Q k (access_Best_s3 l (l.getD v0.toNat zeroPlan) (IntKind.i64.wrap (v0 + (1 : Int)))))
  (cnd (decide (Plan.cost (l.getD v0.toNat zeroPlan) < b3.cost))
   (iterK (N_access_Best 3) (awp M_access_Best N_access_Best (sub (bodyOf Try.f13) [1, 1, 0, 1, 2, 2])) Q k (access_Best_s3 l (l.getD v0.toNat zeroPlan) (IntKind.i64.wrap (v0 + (1 : Int)))))
   (iterK (N_access_Best 3) (awp M_access_Best N_access_Best (sub (bodyOf Try.f13) [1, 1, 0, 1, 2, 2])) Q k (access_Best_s3 l b3 (IntKind.i64.wrap (v0 + (1 : Int))))))))
 (Q (.exit 0) (access_Best_s3 l b3 v0))) := by kernel_rfl
theorem access_Best_a3_x0 (l : List Plan) (b3 : Plan) (v0 : Int) (K : List (A Un) → List (Ob Un) → Prop) :
    ctxK M_access_Best N_access_Best (bodyOf Try.f13) [1, 1, 0, 1, 2] (retQ M_access_Best Try.f13.results.toList [.d] K) (.exit 0) (access_Best_s3 l b3 v0) =
(K (A_access_Best (b3)) (O_access_Best (b3))) := by kernel_rfl
def access_Best_S3 (l : List Plan) (v : Plan × Int) : Option ((Plan × Int) ⊕ (Plan × Int)) :=
  if (decide (v.2 < (↑l.length : Int))) = true then
   if (0 : Int) ≤ v.2 ∧ v.2 < (↑l.length : Int) then
    if (v.2 == (0 : Int)) = true then
     some (.inl ((l.getD v.2.toNat zeroPlan), (IntKind.i64.wrap (v.2 + (1 : Int)))))
    else
     if (decide (Plan.cost (l.getD v.2.toNat zeroPlan) < v.1.cost)) = true then
      some (.inl ((l.getD v.2.toNat zeroPlan), (IntKind.i64.wrap (v.2 + (1 : Int)))))
     else
      some (.inl (v.1, (IntKind.i64.wrap (v.2 + (1 : Int)))))
   else none
  else
   some (.inr (v.1, v.2))
def access_Best_L3 (l : List Plan) (v : Plan × Int) : Option (Plan × Int) := loopO (access_Best_S3 l) v
theorem access_Best_L3_eq (l : List Plan) (v : Plan × Int) : access_Best_L3 l v = stepB (access_Best_L3 l) (access_Best_S3 l v) := loopO_eq _ _
def access_Best_Q3 (l : List Plan) (r : Plan × Int) (Q : Exit → S Un → Prop) : Prop := Q (.exit 0) (access_Best_s3 l r.1 r.2)
theorem access_Best_Q3_x0 {l : List Plan} {r : Plan × Int} {Q : Exit → S Un → Prop} (h : Q (.exit 0) (access_Best_s3 l r.1 r.2)) : access_Best_Q3 l r Q := h
theorem access_Best_L3_run {l : List Plan} {v : Plan × Int} {r : Plan × Int} (h : access_Best_L3 l v = some r) (Q : Exit → S Un → Prop) (hQ : access_Best_Q3 l r Q) : itersK (N_access_Best 3) (awp M_access_Best N_access_Best (sub (bodyOf Try.f13) [1, 1, 0, 1, 2, 2])) Q (access_Best_s3 l v.1 v.2) := by
  refine @loop_run _ _ (access_Best_S3 l) (fun v => itersK (N_access_Best 3) (awp M_access_Best N_access_Best (sub (bodyOf Try.f13) [1, 1, 0, 1, 2, 2])) Q (access_Best_s3 l v.1 v.2)) (fun r => access_Best_Q3 l r Q) ?_ v r h hQ
  intro v o h hI
  unfold access_Best_S3 at h
  rcases ite_some h with ⟨c1, h2⟩ | ⟨c1, h2⟩
  · obtain ⟨c3, h4⟩ := ob_some h2
    rcases ite_some h4 with ⟨c5, h6⟩ | ⟨c5, h6⟩
    · cases h6
      obtain ⟨k7, hk8⟩ := itersK_get hI
      exact itersK_mk (k7 + 1) (mpr (access_Best_l3 l v.1 v.2 k7 Q) (cnd_t c1 (And.intro c3 (cnd_t c5 hk8))))
    · rcases ite_some h6 with ⟨c9, h10⟩ | ⟨c9, h10⟩
      · cases h10
        obtain ⟨k11, hk12⟩ := itersK_get hI
        exact itersK_mk (k11 + 1) (mpr (access_Best_l3 l v.1 v.2 k11 Q) (cnd_t c1 (And.intro c3 (cnd_f (bfalse c5) (cnd_t c9 hk12)))))
      · cases h10
        obtain ⟨k13, hk14⟩ := itersK_get hI
        exact itersK_mk (k13 + 1) (mpr (access_Best_l3 l v.1 v.2 k13 Q) (cnd_t c1 (And.intro c3 (cnd_f (bfalse c5) (cnd_f (bfalse c9) hk14)))))
  · cases h2
    exact itersK_mk 1 (mpr (access_Best_l3 l v.1 v.2 0 Q) (cnd_f (bfalse c1) hI))
def access_Best_fn (l : List Plan) : Option (Plan) :=
  (access_Best_L3 l (zeroPlan, (0 : Int))) >>= fun o15 =>
   some (o15.1)
theorem access_Best_run {l : List Plan} {r : Plan} (h : access_Best_fn l = some r) : Runs (awp M_access_Best N_access_Best (bodyOf Try.f13) (entry Try.f13.ntmps 0 [.d (.v (.dat (U := Un) Ty.plan l))]) (retQ M_access_Best Try.f13.results.toList [.d] fun rs os => rs = A_access_Best r ∧ os = O_access_Best r)) := by
  constructor
  rw [access_Best_in l (fun rs os => rs = A_access_Best r ∧ os = O_access_Best r)]
  unfold access_Best_fn at h
  obtain ⟨o16, ho17, h18⟩ := bind_some h
  cases h18
  exact (access_Best_L3_run ho17 _ (access_Best_Q3_x0 (mpr (access_Best_a3_x0 l o16.1 o16.2 _) ⟨rfl, rfl⟩)))
def bestP : Plan → List Plan → Plan
  | p, [] => p
  | p, q :: r => if q.cost < p.cost then bestP q r else bestP p r
def access_Best (l : List Plan) : Plan := match l with | [] => zeroPlan | p :: r => bestP p r
theorem access_Best_loop (l : List Plan) (hl : WL .plan l) : ∀ (r : List Plan) (i : Nat) (p : Plan), l.drop i = r → 0 < i → i ≤ l.length →
    access_Best_L3 l (p, i) = some (bestP p r, (l.length : Int)) := by
  intro r
  induction r with
  | nil =>
    intro i p h1 _ h3
    have e1 := drop_nil h1
    have hn : ¬ ((i : Int) < l.length) := by omega
    rw [access_Best_L3_eq, access_Best_S3]
    have : (i : Int) = l.length := by omega
    simp [hn, bestP, this]
  | cons q r ih =>
    intro i p h1 h2 h3
    obtain ⟨a1, a2, a3, _⟩ := drop_cons h1
    have hp : (i : Int) < l.length := by omega
    have hi : (0 : Int) ≤ i := by omega
    have h0 : ¬ ((i : Int) = 0) := by omega
    rw [access_Best_L3_eq, access_Best_S3]
    simp only [hp, hi, decide_true, if_true, and_self, Int.toNat_natCast, a2, beq_iff_eq, h0, if_false, decide_eq_true_eq, bestP]
    split
    · rw [wrap_succ a1 hl.len, stepB_inl]; exact ih (i + 1) q a3 (by omega) (by omega)
    · rw [wrap_succ a1 hl.len, stepB_inl]; exact ih (i + 1) p a3 (by omega) (by omega)
theorem access_Best_spec (l : List Plan) (hl : WL .plan l) : access_Best_fn l = some (access_Best l) := by
  unfold access_Best_fn access_Best
  cases l with
  | nil =>
    rw [access_Best_L3_eq, access_Best_S3]; simp
  | cons p r =>
    have hlen := hl.len
    rw [access_Best_L3_eq, access_Best_S3]
    have h := access_Best_loop (p :: r) hl r 1 p rfl (by omega) (by simp)
    have hp : (0 : Int) < ((p :: r).length : Int) := by simp only [List.length_cons]; omega
    simp only [hp, decide_true, if_true, Int.le_refl, and_self, beq_self_eq_true, Int.toNat_zero, List.getD_cons_zero]
    have : IntKind.i64.wrap ((0 : Int) + 1) = ((1 : Nat) : Int) := by decide
    rw [this, stepB_inl, h]
    rfl
def F_access_Best : FnC Un := fun args => match args with
  | [x0] => (dL .plan x0).bind fun l => some ([], A_access_Best (access_Best l), O_access_Best (access_Best l))
  | _ => none
theorem ok_access_Best : FnOK 13 F_access_Best := by
  intro args ob rs os h hob
  unfold F_access_Best at h
  split at h
  · simp only [Option.bind_eq_some_iff, Option.some.injEq, Prod.mk.injEq] at h
    obtain ⟨l, e0, rfl, rfl, rfl⟩ := h
    obtain rfl := dL_eq e0
    exact ⟨fn_contract (M := M_access_Best) rfl (tbl_ok (l1 := []) (l2 := []) (l3 := []) (l4 := []) (l5 := []) trivial trivial trivial trivial trivial) Try.func13 (by kernel_rfl) N_access_Best 0 [.d] (fun hwf => access_Best_run (access_Best_spec l (wfArg hwf (a := .d (.v (.dat (U := Un) Ty.plan l))) (List.mem_of_getElem? (i := 0) rfl)))), hasBody_of Try.func13 (by kernel_rfl) (by kernel_rfl)⟩
  · simp at h
end
end Go.Proofs.Ytjmpnpkcgkhagaa.B
