/- Functions: largesz. (Printed by wip/tools/mkfn.py out of wip/src/largesz.src.) -/
import Derived.Test.YtaepcbdcjbfgjaaBAwf
import Derived.Test.YtaepcbdcjbfgjaaSspec
import Derived.Test.YtaepcbdcjbfgjaaSterms
import Derived.Test.YtaepcbdcjbfgjaaStermsz
import Derived.Test.YtaepcbdcjbfgjaaSlarge
namespace Go.Proofs.Ytaepcbdcjbfgjaa.B
open Go Go.RowKit
set_option maxRecDepth 100000
noncomputable section
attribute [local irreducible] awp ctxK itersK iterK retQ retGQ awf ctxF loopF

/-! ### what is not too large has few parts -/
def SpSz (p : SpP) : Prop := (∀ l n, 0 < p.1 l n → (szTs l : Int) + p.1 l n ≤ n) ∧ ∀ l n, 0 < p.2 l n → (szRs l : Int) + p.2 l n ≤ n
theorem loopT_sz {p : SpP} (h : SpSz p) : ∀ l n, 0 < loopT p l n → (szTs l : Int) + loopT p l n ≤ n
  | [], n, _ => by simp only [loopT, szTs]; omega
  | t :: r, n, h0 => by
    simp only [loopT] at h0 ⊢
    by_cases hn : n ≤ 0
    · rw [if_pos hn] at h0; omega
    · rw [if_neg hn] at h0 ⊢
      have h1 := loopT_sz h r _ h0
      have h2 := h.1 t.kids (p.2 t.sub (n - 1)) (by omega)
      have h3 := h.2 t.sub (n - 1) (by omega)
      have h4 := t.sz_eq
      simp only [szTs]; omega
theorem loopA_sz {p : SpP} (h : SpSz p) : ∀ l n, 0 < loopA p l n → (szAs l : Int) + loopA p l n ≤ n
  | [], n, _ => by simp only [loopA, szAs]; omega
  | t :: r, n, h0 => by
    simp only [loopA] at h0 ⊢
    by_cases hn : n ≤ 0
    · rw [if_pos hn] at h0; omega
    · rw [if_neg hn] at h0 ⊢
      have h1 := loopA_sz h r _ h0
      have h2 := h.1 t.t (n - 1) (by omega)
      have h4 := t.sz_eq
      simp only [szAs]; omega
theorem loopR_sz {p : SpP} (h : SpSz p) : ∀ l n, 0 < loopR p l n → (szRs l : Int) + loopR p l n ≤ n
  | [], n, _ => by simp only [loopR, szRs]; omega
  | t :: r, n, h0 => by
    simp only [loopR] at h0 ⊢
    by_cases hn : n ≤ 0
    · rw [if_pos hn] at h0; omega
    · rw [if_neg hn] at h0 ⊢
      have h1 := loopR_sz h r _ h0
      have h2 := h.2 t.kids (loopA p t.aggs (p.1 t.terms (n - 1 - t.rows.length))) (by omega)
      have h3 := loopA_sz h t.aggs (p.1 t.terms (n - 1 - t.rows.length)) (by omega)
      have h5 := h.1 t.terms (n - 1 - t.rows.length) (by omega)
      have h4 := t.sz_eq
      simp only [szRs]; omega
theorem spD_sz : ∀ d, SpSz (spD d)
  | 0 => by
    constructor
    · intro l n h0
      simp only [spD] at h0 ⊢
      by_cases hc : l = [] ∨ n ≤ 0
      · rw [if_pos hc] at h0 ⊢
        rcases hc with rfl | hc
        · simp only [szTs]; omega
        · omega
      · rw [if_neg hc] at h0; omega
    · intro l n h0
      simp only [spD] at h0 ⊢
      by_cases hc : l = [] ∨ n ≤ 0
      · rw [if_pos hc] at h0 ⊢
        rcases hc with rfl | hc
        · simp only [szRs]; omega
        · omega
      · rw [if_neg hc] at h0; omega
  | d + 1 => ⟨loopT_sz (spD_sz d), loopR_sz (spD_sz d)⟩
theorem large_sz {t : Term} (h : l21_Large t ≠ true) : t.sz ≤ 600 := by
  unfold l21_Large at h
  rw [ne_eq, decide_eq_true_eq] at h
  have := (spD_sz 30).1 [t] 600 (by omega)
  simp only [szTs] at this; omega

end
end Go.Proofs.Ytaepcbdcjbfgjaa.B
