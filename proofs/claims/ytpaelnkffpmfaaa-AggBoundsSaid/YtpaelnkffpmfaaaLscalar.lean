/- Functions of the library that return scalars and leave the world as it is. -/
import Derived.Test.YtpaelnkffpmfaaaBLib
namespace Go.Proofs.Ytpaelnkffpmfaaa.B
open Go Go.RowKit
set_option maxRecDepth 1000000

/-- A function that returns a scalar and leaves the world as it is. -/
theorem contract_scalar {f : FuncId} {args : List (D Un)} {v : Value} (hv : oneC v = true)
    (h : ∀ (w : World) (vs : List Value), (∀ St, All2 (DRel Try.prog En St w) vs args → Calls Try.prog f vs.toArray w fun e w' => e = .returned v ∧ w' = w)) : Contract Try.prog En f args [.c (.s v)] [] := by
  intro w St vs hbd hvs
  refine (h w vs St hvs).mono ?_
  rintro e w' ⟨rfl, rfl⟩
  let gg : G := { β := fun _ => 0, lb := fun _ => False, ω := fun _ _ => none, tk := fun _ => (none, 0) }
  exact ⟨_, rfl, Ext.refl _, gg, fun _ h => h, fun b o x _ h => by simp [gg] at h, fun b o x h => by simp [gg] at h, ⟨rfl, hv⟩, fun k o h => by simp at h⟩
theorem drel_str {St : Nat → Nat → Prop} {w : World} {v : Value} {s : ByteArray} (h : DRel Try.prog En St w v (.d (.v (cs s)))) : v = .string s ∧ s.size ≤ 9223372036854775807 := by
  have h' : VRel En St w v (.s (.string s)) := h
  cases h' with | s _ h => exact ⟨rfl, oneC_str.1 h⟩

/-- The same of one that makes memory of its own. -/
theorem contract_scalarX {f : FuncId} {args : List (D Un)} {v : Value} (hv : oneC v = true)
    (h : ∀ (w : World) (vs : List Value), (∀ St, All2 (DRel Try.prog En St w) vs args → Calls Try.prog f vs.toArray w fun e w' => e = .returned v ∧ Ext w w')) : Contract Try.prog En f args [.c (.s v)] [] := by
  intro w St vs hbd hvs
  refine (h w vs St hvs).mono ?_
  rintro e w' ⟨rfl, hx⟩
  let gg : G := { β := fun _ => 0, lb := fun _ => False, ω := fun _ _ => none, tk := fun _ => (none, 0) }
  exact ⟨_, rfl, hx, gg, fun _ h => h, fun b o x _ h => by simp [gg] at h, fun b o x h => by simp [gg] at h, ⟨rfl, hv⟩, fun k o h => by simp at h⟩
/-- Two scalars. -/
theorem contract_scalar2 {f : FuncId} {args : List (D Un)} {v u : Value} (hv : oneC v = true) (hu : oneC u = true)
    (h : ∀ (w : World) (vs : List Value), (∀ St, All2 (DRel Try.prog En St w) vs args → Calls Try.prog f vs.toArray w fun e w' => e = .returned (.tuple #[v, u]) ∧ w' = w)) : Contract Try.prog En f args [.c (.s v), .c (.s u)] [] := by
  intro w St vs hbd hvs
  refine (h w vs St hvs).mono ?_
  rintro e w' ⟨rfl, rfl⟩
  let gg : G := { β := fun _ => 0, lb := fun _ => False, ω := fun _ _ => none, tk := fun _ => (none, 0) }
  exact ⟨_, rfl, Ext.refl _, gg, fun _ h => h, fun b o x _ h => by simp [gg] at h, fun b o x h => by simp [gg] at h, ⟨_, rfl, ⟨rfl, hv⟩, ⟨rfl, hu⟩, trivial⟩, fun k o h => by simp at h⟩
theorem drel_int {St : Nat → Nat → Prop} {w : World} {v : Value} {k : IntKind} {n : Int} (h : DRel Try.prog En St w v (.d (.v (.s (.int k n))))) : v = .int k n ∧ k.min ≤ n ∧ n ≤ k.max := by
  have h' : VRel En St w v (.s (.int k n)) := h
  cases h' with | s _ h => exact ⟨rfl, of_decide_eq_true h⟩
end Go.Proofs.Ytpaelnkffpmfaaa.B
