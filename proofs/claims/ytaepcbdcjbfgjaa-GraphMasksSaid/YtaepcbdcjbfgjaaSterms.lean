/- Functions: terms. (Printed by wip/tools/mkfn.py out of wip/src/terms.src.) -/
import Derived.Test.YtaepcbdcjbfgjaaBLib
import Derived.Test.YtaepcbdcjbfgjaaSspec
namespace Go.Proofs.Ytaepcbdcjbfgjaa.B
open Go Go.RowKit
set_option maxRecDepth 100000
noncomputable section
attribute [local irreducible] awp ctxK itersK iterK retQ retGQ

/-! ### heights of terms and relations -/
mutual
def Term.ht : Term → Nat
  | .mk _ _ _ _ _ kids sub _ => max (htTs kids) (htRs sub) + 1
def htTs : List Term → Nat
  | [] => 0
  | t :: r => max t.ht (htTs r)
def Agg.ht : Agg → Nat
  | .mk _ _ t => htTs t + 1
def htAs : List Agg → Nat
  | [] => 0
  | t :: r => max t.ht (htAs r)
def Rel.ht : Rel → Nat
  | .mk _ _ _ kids terms aggs _ _ _ _ _ => max (htRs kids) (max (htTs terms) (htAs aggs)) + 1
def htRs : List Rel → Nat
  | [] => 0
  | t :: r => max t.ht (htRs r)
end

theorem htTs_mem {t : Term} : ∀ {l : List Term}, t ∈ l → t.ht ≤ htTs l
  | x :: l, h => by
    simp only [htTs]
    rcases List.mem_cons.1 h with rfl | h
    · omega
    · have := htTs_mem h; omega
theorem htRs_mem {t : Rel} : ∀ {l : List Rel}, t ∈ l → t.ht ≤ htRs l
  | x :: l, h => by
    simp only [htRs]
    rcases List.mem_cons.1 h with rfl | h
    · omega
    · have := htRs_mem h; omega
theorem htAs_mem {t : Agg} : ∀ {l : List Agg}, t ∈ l → t.ht ≤ htAs l
  | x :: l, h => by
    simp only [htAs]
    rcases List.mem_cons.1 h with rfl | h
    · omega
    · have := htAs_mem h; omega
theorem Term.ht_kid {t k : Term} (h : k ∈ t.kids) : k.ht < t.ht := by
  cases t; simp only [Term.kids_mk] at h; simp only [Term.ht]; have := htTs_mem h; omega
theorem Term.ht_sub {t : Term} {k : Rel} (h : k ∈ t.sub) : k.ht < t.ht := by
  cases t; simp only [Term.sub_mk] at h; simp only [Term.ht]; have := htRs_mem h; omega
theorem Rel.ht_kid {r k : Rel} (h : k ∈ r.kids) : k.ht < r.ht := by
  cases r; simp only [Rel.kids_mk] at h; simp only [Rel.ht]; have := htRs_mem h; omega
theorem Rel.ht_term {r : Rel} {k : Term} (h : k ∈ r.terms) : k.ht < r.ht := by
  cases r; simp only [Rel.terms_mk] at h; simp only [Rel.ht]; have := htTs_mem h; omega
theorem Rel.ht_agg {r : Rel} {k : Agg} (h : k ∈ r.aggs) : k.ht < r.ht := by
  cases r; simp only [Rel.aggs_mk] at h; simp only [Rel.ht]; have := htAs_mem h; omega
theorem getD_mem {α : Type} {l : List α} {i : Nat} {d : α} (h : i < l.length) : l.getD i d ∈ l := by
  rw [List.getD_eq_getElem?_getD, List.getElem?_eq_getElem h]; exact List.getElem_mem h
theorem Term.ht_kidD {t : Term} {i : Nat} (h : i < t.kids.length) : (t.kids.getD i zeroTerm).ht < t.ht := Term.ht_kid (getD_mem h)

end
end Go.Proofs.Ytaepcbdcjbfgjaa.B
