/- Functions: spec26. (Printed by wip/tools/mkfn.py out of wip/src/spec26.src.) -/
import Derived.Test.YtjndihloefdplaaBLib
import Derived.Test.YtjndihloefdplaaSspec
namespace Go.Proofs.Ytjndihloefdplaa.B
open Go Go.RowKit
set_option maxRecDepth 100000
noncomputable section
attribute [local irreducible] awp ctxK itersK iterK retQ retGQ

/-! ### bounds of terms -/
def turnedI (op : Int) : Int := if op = 13 then 15 else if op = 14 then 16 else if op = 15 then 13 else if op = 16 then 14 else op
/-- The sides of a comparison, the column's first. -/
def sides (t : Term) : Term × Term × Int := if (t.kids.getD 0 zeroTerm).op = 1 then (t.kids.getD 1 zeroTerm, t.kids.getD 0 zeroTerm, turnedI t.op) else (t.kids.getD 0 zeroTerm, t.kids.getD 1 zeroTerm, t.op)
def boundsB (a b : Term) (col : Int) : Bool := decide (a.op = 2) && decide (a.depth = 0) && decide (a.at_ = col) && decide (b.op = 1) && decide (b.v.kind ≠ 0) && rightV b.v
def compB (op : Int) : Bool := decide (op = 11) || (decide (13 ≤ op) && decide (op ≤ 16))
/-- The operator and the constant by which a term bounds a column. -/
def bndT (t : Term) (col : Int) : Option (Int × Val) :=
  if compB t.op && decide (t.kids.length = 2) && boundsB (sides t).1 (sides t).2.1 col then some ((sides t).2.2, (sides t).2.1.v) else none
/-- The first term that bounds a column by one of two operators. -/
def firstT (col one other : Int) : List Term → Nat → Option (Nat × Int × Val)
  | [], _ => none
  | t :: r, i => match bndT t col with
    | some (op, v) => if op = one ∨ op = other then some (i, op, v) else firstT col one other r (i + 1)
    | none => firstT col one other r (i + 1)

theorem turnedI_ne {op : Int} (h : compB op = true) : turnedI op ≠ 0 ∧ op ≠ 0 := by
  unfold compB at h; simp at h
  unfold turnedI; repeat' split
  all_goals omega
theorem bndT_op {t : Term} {col op : Int} {v : Val} (h : bndT t col = some (op, v)) : op ≠ 0 ∧ rightV v = true := by
  unfold bndT at h
  split at h
  · rename_i hc
    simp only [Bool.and_eq_true] at hc
    simp only [Option.some.injEq, Prod.mk.injEq] at h
    obtain ⟨rfl, rfl⟩ := h
    have h1 := turnedI_ne hc.1.1
    have h2 := hc.2
    unfold boundsB at h2
    simp only [Bool.and_eq_true] at h2
    refine ⟨?_, h2.2⟩
    unfold sides; split
    · exact h1.1
    · exact h1.2
  · simp at h
theorem firstT_spec {col one other : Int} : ∀ {r : List Term} {i j : Nat} {op : Int} {v : Val}, firstT col one other r i = some (j, op, v) → i ≤ j ∧ j < i + r.length ∧ bndT (r.getD (j - i) zeroTerm) col = some (op, v) ∧ (op = one ∨ op = other)
  | [], i, j, op, v, h => by simp [firstT] at h
  | t :: r, i, j, op, v, h => by
    have hrec : firstT col one other r (i + 1) = some (j, op, v) → i ≤ j ∧ j < i + (t :: r).length ∧ bndT ((t :: r).getD (j - i) zeroTerm) col = some (op, v) ∧ (op = one ∨ op = other) := by
      intro h'
      obtain ⟨h1, h2, h3, h4⟩ := firstT_spec h'
      refine ⟨by omega, by simp; omega, ?_, h4⟩
      rw [show j - i = (j - (i + 1)) + 1 from by omega, List.getD_cons_succ]; exact h3
    simp only [firstT] at h
    split at h
    · rename_i op' v' hb
      split at h
      · rename_i hc
        simp only [Option.some.injEq, Prod.mk.injEq] at h
        obtain ⟨rfl, rfl, rfl⟩ := h
        exact ⟨by omega, by simp, by simpa using hb, hc⟩
      · exact hrec h
    · exact hrec h

/-- The beginning: the columns that terms bind to one value each. -/
def eqsT (terms : List Term) : List Int → List Val × List Term
  | [] => ([], [])
  | c :: r => match firstT c 11 11 terms 0 with
    | some (i, _, v) => (v :: (eqsT terms r).1, terms.getD i zeroTerm :: (eqsT terms r).2)
    | none => ([], [])
/-- One end behind a beginning. -/
def endT (terms : List Term) (key : List Val) (col open_ shut : Int) : Bound × List Term :=
  match firstT col open_ shut terms 0 with
  | some (i, op, v) => (⟨true, op == open_, key ++ [v]⟩, [terms.getD i zeroTerm])
  | none => (⟨decide (key.length > 0), false, key⟩, [])
/-- What terms say of an index's columns. -/
def spanT (terms : List Term) (cols : List Int) : Span :=
  if (eqsT terms cols).1.length = cols.length then
    ⟨(eqsT terms cols).1, ⟨decide ((eqsT terms cols).1.length > 0), false, (eqsT terms cols).1⟩, ⟨decide ((eqsT terms cols).1.length > 0), false, (eqsT terms cols).1⟩, (eqsT terms cols).1.length, (eqsT terms cols).2⟩
  else
    ⟨(eqsT terms cols).1, (endT terms (eqsT terms cols).1 (cols.getD (eqsT terms cols).1.length 0) 15 16).1, (endT terms (eqsT terms cols).1 (cols.getD (eqsT terms cols).1.length 0) 13 14).1,
     if (endT terms (eqsT terms cols).1 (cols.getD (eqsT terms cols).1.length 0) 15 16).2 = [] ∧ (endT terms (eqsT terms cols).1 (cols.getD (eqsT terms cols).1.length 0) 13 14).2 = [] then (eqsT terms cols).1.length else (eqsT terms cols).1.length + 1,
     (eqsT terms cols).2 ++ (endT terms (eqsT terms cols).1 (cols.getD (eqsT terms cols).1.length 0) 15 16).2 ++ (endT terms (eqsT terms cols).1 (cols.getD (eqsT terms cols).1.length 0) 13 14).2⟩

theorem eqsT_len (terms : List Term) : ∀ cols, (eqsT terms cols).1.length ≤ cols.length ∧ (eqsT terms cols).2.length = (eqsT terms cols).1.length
  | [] => by simp [eqsT]
  | c :: r => by
    have h := eqsT_len terms r
    simp only [eqsT]; split <;> simp <;> omega

end
end Go.Proofs.Ytjndihloefdplaa.B
