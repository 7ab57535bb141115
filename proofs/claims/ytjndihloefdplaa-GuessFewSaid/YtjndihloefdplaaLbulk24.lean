/- What the bulk of columns' statistics bounds. -/
import Derived.Test.YtjndihloefdplaaBLaw
namespace Go.Proofs.Ytjndihloefdplaa.B
open Go
theorem VB.len {byt : Ty → Nat} {τ : Ty} {l : List (Den τ)} (h : VB byt (.dat (U := Un) τ l)) : l.length * byt τ ≤ reachBytes ∧ ∀ x ∈ l, ∀ d ∈ enc τ x, VB byt d := by
  cases h with
  | dat _ _ h1 h2 => exact ⟨h1, h2⟩
theorem bulk24 {l : List ColStat} (h : VB byt (.dat (U := Un) Ty.colStat l)) : l.length ≤ 1000000000000000000 ∧ l.all (fun c => decide (c.ends.length ≤ 4398046511104)) = true := by
  obtain ⟨h1, h2⟩ := h.len
  have e1 : byt Ty.colStat = 64 := rfl
  have e2 : byt Ty.val = 32 := rfl
  have e3 : reachBytes = 140737488351232 := rfl
  rw [e1, e3] at h1
  refine ⟨by omega, List.all_eq_true.2 fun c hc => decide_eq_true ?_⟩
  have h3 := (h2 c hc (.dat (U := Un) Ty.val c.ends) (by simp [enc])).len.1
  rw [e2, e3] at h3
  omega
end Go.Proofs.Ytjndihloefdplaa.B
