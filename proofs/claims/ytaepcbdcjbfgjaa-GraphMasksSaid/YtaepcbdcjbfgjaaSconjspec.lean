/- Functions: conjspec. (Printed by wip/tools/mkfn.py out of wip/src/conjspec.src.) -/
import Derived.Test.YtaepcbdcjbfgjaaBAwf
import Derived.Test.YtaepcbdcjbfgjaaSspec
import Derived.Test.YtaepcbdcjbfgjaaSterms
import Derived.Test.YtaepcbdcjbfgjaaStermsz
namespace Go.Proofs.Ytaepcbdcjbfgjaa.B
open Go Go.RowKit
set_option maxRecDepth 100000
noncomputable section
attribute [local irreducible] awp ctxK itersK iterK retQ retGQ awf ctxF loopF

/-! ### terms told anew at their columns -/
mutual
def mapT (p : Term → Int → Term) (down : Int) : Term → Term
  | .mk op v depth at_ name kids sub type => .mk op v depth (if op = 2 then (p (.mk op v depth at_ name kids sub type) down).at_ else at_) name (mapTs p down kids) (mapRs p (down + 1) sub) type
def mapTs (p : Term → Int → Term) (down : Int) : List Term → List Term
  | [] => []
  | t :: r => mapT p down t :: mapTs p down r
def mapA (p : Term → Int → Term) (down : Int) : Agg → Agg
  | .mk name distinct t => .mk name distinct (mapTs p down t)
def mapAs (p : Term → Int → Term) (down : Int) : List Agg → List Agg
  | [] => []
  | t :: r => mapA p down t :: mapAs p down r
def mapR (p : Term → Int → Term) (down : Int) : Rel → Rel
  | .mk op table cols kids terms aggs keys limit skip all rows => .mk op table cols (mapRs p down kids) (mapTs p down terms) (mapAs p down aggs) keys limit skip all rows
def mapRs (p : Term → Int → Term) (down : Int) : List Rel → List Rel
  | [] => []
  | t :: r => mapR p down t :: mapRs p down r
end
/-! ### the places that a term uses, as they come -/
mutual
def inT (d : Int) : Term → List Int
  | .mk op _ depth at_ _ kids sub _ => (if op = 2 ∧ depth = d then [at_] else []) ++ inTs d kids ++ inRs (d + 1) sub
def inTs (d : Int) : List Term → List Int
  | [] => []
  | t :: r => inT d t ++ inTs d r
def inA (d : Int) : Agg → List Int
  | .mk _ _ t => inTs d t
def inAs (d : Int) : List Agg → List Int
  | [] => []
  | t :: r => inA d t ++ inAs d r
def inR (d : Int) : Rel → List Int
  | .mk _ _ _ kids terms aggs _ _ _ _ _ => inTs d terms ++ inAs d aggs ++ inRs d kids
def inRs (d : Int) : List Rel → List Int
  | [] => []
  | t :: r => inR d t ++ inRs d r
end
theorem mapTs_map (p : Term → Int → Term) (down : Int) : ∀ l, mapTs p down l = l.map (mapT p down)
  | [] => rfl
  | t :: r => by simp only [mapTs, List.map_cons, mapTs_map p down r]
theorem mapAs_map (p : Term → Int → Term) (down : Int) : ∀ l, mapAs p down l = l.map (mapA p down)
  | [] => rfl
  | t :: r => by simp only [mapAs, List.map_cons, mapAs_map p down r]
theorem mapRs_map (p : Term → Int → Term) (down : Int) : ∀ l, mapRs p down l = l.map (mapR p down)
  | [] => rfl
  | t :: r => by simp only [mapRs, List.map_cons, mapRs_map p down r]
theorem mapT_eq (p : Term → Int → Term) (down : Int) (t : Term) : mapT p down t = .mk t.op t.v t.depth (if t.op = 2 then (p t down).at_ else t.at_) t.name (mapTs p down t.kids) (mapRs p (down + 1) t.sub) t.type := by cases t; simp only [mapT]; rfl
theorem mapA_eq (p : Term → Int → Term) (down : Int) (t : Agg) : mapA p down t = .mk t.name t.distinct (mapTs p down t.t) := by cases t; simp only [mapA]; rfl
theorem mapR_eq (p : Term → Int → Term) (down : Int) (r : Rel) : mapR p down r = .mk r.op r.table r.cols (mapRs p down r.kids) (mapTs p down r.terms) (mapAs p down r.aggs) r.keys r.limit r.skip r.all r.rows := by cases r; simp only [mapR]; rfl
theorem inT_eq (d : Int) (t : Term) : inT d t = (if t.op = 2 ∧ t.depth = d then [t.at_] else []) ++ inTs d t.kids ++ inRs (d + 1) t.sub := by cases t; simp only [inT]; rfl
theorem inA_eq (d : Int) (t : Agg) : inA d t = inTs d t.t := by cases t; simp only [inA]; rfl
theorem inR_eq (d : Int) (r : Rel) : inR d r = inTs d r.terms ++ inAs d r.aggs ++ inRs d r.kids := by cases r; simp only [inR]; rfl
mutual
theorem inT_len : ∀ (d : Int) (t : Term), (inT d t).length ≤ t.sz
  | d, .mk op v depth at_ name kids sub type => by
    have h1 := inTs_len d kids
    have h2 := inRs_len (d + 1) sub
    simp only [inT, Term.sz, List.length_append]
    split
    · simp only [List.length_singleton]; omega
    · simp only [List.length_nil]; omega
theorem inTs_len : ∀ (d : Int) (l : List Term), (inTs d l).length ≤ szTs l
  | _, [] => by simp [inTs, szTs]
  | d, t :: r => by have := inT_len d t; have := inTs_len d r; simp only [inTs, szTs, List.length_append]; omega
theorem inA_len : ∀ (d : Int) (t : Agg), (inA d t).length ≤ t.sz
  | d, .mk _ _ l => by have := inTs_len d l; simp only [inA, Agg.sz]; omega
theorem inAs_len : ∀ (d : Int) (l : List Agg), (inAs d l).length ≤ szAs l
  | _, [] => by simp [inAs, szAs]
  | d, t :: r => by have := inA_len d t; have := inAs_len d r; simp only [inAs, szAs, List.length_append]; omega
theorem inR_len : ∀ (d : Int) (t : Rel), (inR d t).length ≤ t.sz
  | d, .mk _ _ _ kids terms aggs _ _ _ _ rows => by have := inRs_len d kids; have := inTs_len d terms; have := inAs_len d aggs; simp only [inR, Rel.sz, List.length_append]; omega
theorem inRs_len : ∀ (d : Int) (l : List Rel), (inRs d l).length ≤ szRs l
  | _, [] => by simp [inRs, szRs]
  | d, t :: r => by have := inR_len d t; have := inRs_len d r; simp only [inRs, szRs, List.length_append]; omega
end
/-- Only the place is told anew. -/
def setAt (t : Term) (n : Int) : Term := .mk t.op t.v t.depth n t.name t.kids t.sub t.type
def KeepsAt (p : Term → Int → Term) : Prop := ∀ c d, p c d = setAt c (p c d).at_
theorem term_eta (t : Term) : Term.mk t.op t.v t.depth t.at_ t.name t.kids t.sub t.type = t := by cases t; rfl
theorem agg_eta (t : Agg) : Agg.mk t.name t.distinct t.t = t := by cases t; rfl
theorem rel_eta (r : Rel) : Rel.mk r.op r.table r.cols r.kids r.terms r.aggs r.keys r.limit r.skip r.all r.rows = r := by cases r; rfl
theorem set_getD {α : Type} {l : List α} {i : Nat} {d : α} (h : i < l.length) : l.set i (l.getD i d) = l := by
  rw [List.getD_eq_getElem?_getD, List.getElem?_eq_getElem h]
  exact List.set_getElem_self h
theorem drop_getD {α : Type} {l : List α} {i : Nat} {d : α} (h : i < l.length) : l.drop i = l.getD i d :: l.drop (i + 1) := by
  rw [List.getD_eq_getElem?_getD, List.getElem?_eq_getElem h]
  exact List.drop_eq_getElem_cons h
theorem inTs_fold (d : Int) : ∀ (l : List Term) (o : List Int), l.foldl (fun o x => o ++ inT d x) o = o ++ inTs d l
  | [], o => by simp [inTs]
  | x :: l, o => by rw [List.foldl_cons, inTs_fold d l]; simp [inTs]
theorem inAs_fold (d : Int) : ∀ (l : List Agg) (o : List Int), l.foldl (fun o x => o ++ inA d x) o = o ++ inAs d l
  | [], o => by simp [inAs]
  | x :: l, o => by rw [List.foldl_cons, inAs_fold d l]; simp [inAs]
theorem inRs_fold (d : Int) : ∀ (l : List Rel) (o : List Int), l.foldl (fun o x => o ++ inR d x) o = o ++ inRs d l
  | [], o => by simp [inRs]
  | x :: l, o => by rw [List.foldl_cons, inRs_fold d l]; simp [inRs]

end
end Go.Proofs.Ytaepcbdcjbfgjaa.B
