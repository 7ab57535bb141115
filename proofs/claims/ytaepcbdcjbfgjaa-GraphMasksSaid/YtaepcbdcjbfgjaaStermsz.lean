/- Functions: termsz. (Printed by wip/tools/mkfn.py out of wip/src/termsz.src.) -/
import Derived.Test.YtaepcbdcjbfgjaaBAwf
import Derived.Test.YtaepcbdcjbfgjaaSspec
import Derived.Test.YtaepcbdcjbfgjaaSterms
namespace Go.Proofs.Ytaepcbdcjbfgjaa.B
open Go Go.RowKit
set_option maxRecDepth 100000
noncomputable section
attribute [local irreducible] awp ctxK itersK iterK retQ retGQ awf ctxF loopF

/-! ### sizes of terms and relations -/
mutual
def Term.sz : Term → Nat
  | .mk _ _ _ _ _ kids sub _ => szTs kids + szRs sub + 1
def szTs : List Term → Nat
  | [] => 0
  | t :: r => t.sz + szTs r
def Agg.sz : Agg → Nat
  | .mk _ _ t => szTs t + 1
def szAs : List Agg → Nat
  | [] => 0
  | t :: r => t.sz + szAs r
def Rel.sz : Rel → Nat
  | .mk _ _ _ kids terms aggs _ _ _ _ rows => szRs kids + szTs terms + szAs aggs + rows.length + 1
def szRs : List Rel → Nat
  | [] => 0
  | t :: r => t.sz + szRs r
end
theorem Term.sz_eq (t : Term) : t.sz = szTs t.kids + szRs t.sub + 1 := by cases t; simp only [Term.sz, Term.kids_mk, Term.sub_mk]
theorem Agg.sz_eq (a : Agg) : a.sz = szTs a.t + 1 := by cases a; simp only [Agg.sz, Agg.t_mk]
theorem Rel.sz_eq (r : Rel) : r.sz = szRs r.kids + szTs r.terms + szAs r.aggs + r.rows.length + 1 := by cases r; simp only [Rel.sz, Rel.kids_mk, Rel.terms_mk, Rel.aggs_mk, Rel.rows_mk]
theorem szTs_mem {t : Term} : ∀ {l : List Term}, t ∈ l → t.sz ≤ szTs l
  | x :: l, h => by
    simp only [szTs]
    rcases List.mem_cons.1 h with rfl | h
    · omega
    · have := szTs_mem h; omega
theorem szRs_mem {t : Rel} : ∀ {l : List Rel}, t ∈ l → t.sz ≤ szRs l
  | x :: l, h => by
    simp only [szRs]
    rcases List.mem_cons.1 h with rfl | h
    · omega
    · have := szRs_mem h; omega
theorem szAs_mem {t : Agg} : ∀ {l : List Agg}, t ∈ l → t.sz ≤ szAs l
  | x :: l, h => by
    simp only [szAs]
    rcases List.mem_cons.1 h with rfl | h
    · omega
    · have := szAs_mem h; omega
theorem szTs_len : ∀ l : List Term, l.length ≤ szTs l
  | [] => Nat.zero_le _
  | x :: l => by have := szTs_len l; have h := x.sz_eq; simp only [szTs, List.length_cons]; omega
theorem szRs_len : ∀ l : List Rel, l.length ≤ szRs l
  | [] => Nat.zero_le _
  | x :: l => by have := szRs_len l; have h := x.sz_eq; simp only [szRs, List.length_cons]; omega
theorem szAs_len : ∀ l : List Agg, l.length ≤ szAs l
  | [] => Nat.zero_le _
  | x :: l => by have := szAs_len l; have h := x.sz_eq; simp only [szAs, List.length_cons]; omega
theorem szTs_append : ∀ (a b : List Term), szTs (a ++ b) = szTs a + szTs b
  | [], b => by simp [szTs]
  | x :: a, b => by simp only [List.cons_append, szTs, szTs_append a b]; omega
mutual
theorem ht_le_szT : ∀ t : Term, t.ht ≤ t.sz
  | .mk _ _ _ _ _ kids sub _ => by have := ht_le_szTs kids; have := ht_le_szRs sub; simp only [Term.ht, Term.sz]; omega
theorem ht_le_szTs : ∀ l : List Term, htTs l ≤ szTs l
  | [] => by simp [htTs, szTs]
  | t :: r => by have := ht_le_szT t; have := ht_le_szTs r; simp only [htTs, szTs]; omega
theorem ht_le_szA : ∀ t : Agg, t.ht ≤ t.sz
  | .mk _ _ l => by have := ht_le_szTs l; simp only [Agg.ht, Agg.sz]; omega
theorem ht_le_szAs : ∀ l : List Agg, htAs l ≤ szAs l
  | [] => by simp [htAs, szAs]
  | t :: r => by have := ht_le_szA t; have := ht_le_szAs r; simp only [htAs, szAs]; omega
theorem ht_le_szR : ∀ t : Rel, t.ht ≤ t.sz
  | .mk _ _ _ kids terms aggs _ _ _ _ rows => by have := ht_le_szRs kids; have := ht_le_szTs terms; have := ht_le_szAs aggs; simp only [Rel.ht, Rel.sz]; omega
theorem ht_le_szRs : ∀ l : List Rel, htRs l ≤ szRs l
  | [] => by simp [htRs, szRs]
  | t :: r => by have := ht_le_szR t; have := ht_le_szRs r; simp only [htRs, szRs]; omega
end

end
end Go.Proofs.Ytaepcbdcjbfgjaa.B
