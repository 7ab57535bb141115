/- Functions: spec. (Printed by wip/tools/mkfn.py out of wip/src/spec.src.) -/
import Derived.Test.YtaepcbdcjbfgjaaBLib
namespace Go.Proofs.Ytaepcbdcjbfgjaa.B
open Go Go.RowKit
set_option maxRecDepth 100000
noncomputable section
attribute [local irreducible] awp ctxK itersK iterK retQ retGQ

/-! ### numbers, texts, values: what the document says -/
def inN (n : Int) : Bool := decide (-1000000000000000 ≤ n ∧ n ≤ 1000000000000000)
def plainB (s : ByteArray) : Bool := s.toList.all (fun b => decide (32 ≤ b.toNat ∧ b.toNat ≤ 126)) && decide (s.size ≤ 100)
def rightV (v : Val) : Bool :=
  if v.kind = 0 then decide (v.n = 0) && decide (v.s.size = 0)
  else if v.kind = 1 then decide (v.n = 0 ∨ v.n = 1) && decide (v.s.size = 0)
  else if v.kind = 2 then inN v.n && decide (v.s.size = 0)
  else if v.kind = 3 then decide (v.n = 0) && plainB v.s
  else false
/-- The order of numbers, of texts, of values, of rows. -/
def cmpI (a b : Int) : Int := if a < b then -1 else if a > b then 1 else 0
def cmpL : List UInt8 → List UInt8 → Int
  | [], [] => 0
  | [], _ :: _ => -1
  | _ :: _, [] => 1
  | a :: l, b :: r => if a = b then cmpL l r else cmpI a.toNat b.toNat
def cmpS (a b : ByteArray) : Int := cmpL a.toList b.toList
def ordV (a b : Val) : Int := if a.kind = b.kind then (if a.n = b.n then cmpS a.s b.s else cmpI a.n b.n) else cmpI a.kind b.kind
def ordR : List Val → List Val → Int
  | [], [] => 0
  | [], _ :: _ => -1
  | _ :: _, [] => 1
  | a :: l, b :: r => if ordV a b = 0 then ordR l r else ordV a b

theorem toList_size (s : ByteArray) : s.toList.length = s.size := by rw [ByteArray.toList_eq, Array.length_toList]; rfl
theorem toList_nil (s : ByteArray) : s.toList = [] ↔ s.size = 0 := by rw [← toList_size]; exact List.length_eq_zero_iff.symm
theorem empty_eq (s : ByteArray) : (s.toList == (⟨#[]⟩ : ByteArray).toList) = decide (s.size = 0) := by
  have h : (⟨#[]⟩ : ByteArray).toList = [] := by rw [toList_nil]; rfl
  rw [h]
  by_cases hs : s.size = 0
  · rw [(toList_nil s).2 hs, decide_eq_true hs]; rfl
  · have : s.toList ≠ [] := fun e => hs ((toList_nil s).1 e)
    rw [decide_eq_false hs]; simpa using this
theorem bytes_ext {a b : ByteArray} (h : a.toList = b.toList) : a = b := by
  rw [ByteArray.toList_eq, ByteArray.toList_eq] at h
  cases a; cases b; simp at h; subst h; rfl
theorem size0 {s : ByteArray} (h : s.size = 0) : s = ⟨#[]⟩ := bytes_ext (by
  rw [(toList_nil s).2 h]
  symm
  rw [toList_nil]; rfl)

/-- The first rune that is none of those from 32 to 126. -/
theorem decode_get (s : ByteArray) (i : Nat) (h : i < s.size) : (Utf8.decode s i).1 = (s.toList.getD i 0).toNat ∧ (Utf8.decode s i).2 = 1 ∨ 128 ≤ (s.toList.getD i 0).toNat ∧ 128 ≤ (Utf8.decode s i).1 := by
  have hg : s.get! i = s.toList.getD i 0 := by
    have hb := bytes_get s i h
    rw [getElem?_pos s i h] at hb
    simp only [Option.some.injEq] at hb
    rw [← hb]
    show s.data[i]! = s.data[i]
    exact getElem!_pos s.data i h
  unfold Utf8.decode
  simp only [Nat.add_zero, hg]
  generalize (s.toList.getD i 0).toNat = b
  by_cases hb : b < 0x80
  · simp [hb]
  · right
    refine ⟨by omega, ?_⟩
    simp only [hb, if_false]
    repeat' split
    all_goals first | (simp [Utf8.runeError]; done) | (simp_all; done) | (simp_all; omega)

/-! ### the order -/
theorem cmpI_self (a : Int) : cmpI a a = 0 := by unfold cmpI; rw [if_neg (by omega), if_neg (by omega)]
theorem cmpI_zero {a b : Int} : cmpI a b = 0 ↔ a = b := by
  unfold cmpI
  by_cases h1 : a < b
  · rw [if_pos h1]; omega
  · rw [if_neg h1]
    by_cases h2 : a > b
    · rw [if_pos h2]; omega
    · rw [if_neg h2]; omega
theorem cmpL_zero : ∀ {a b : List UInt8}, cmpL a b = 0 ↔ a = b
  | [], [] => by simp [cmpL]
  | [], _ :: _ => by simp [cmpL]
  | _ :: _, [] => by simp [cmpL]
  | a :: l, b :: r => by
    simp only [cmpL]
    split
    · rename_i h; subst h; rw [cmpL_zero]; simp
    · rename_i h
      rw [cmpI_zero]
      constructor
      · intro e; exact absurd (UInt8.toNat_inj.1 (Int.ofNat_inj.1 e)) h
      · intro e; simp at e; exact absurd e.1 h
theorem cmpS_zero {a b : ByteArray} : cmpS a b = 0 ↔ a = b := by
  unfold cmpS; rw [cmpL_zero]
  exact ⟨bytes_ext, fun h => by rw [h]⟩
theorem ordV_zero {a b : Val} : ordV a b = 0 ↔ a = b := by
  cases a; cases b
  unfold ordV
  simp only
  split
  · split
    · rename_i h1 h2; subst h1; subst h2; rw [cmpS_zero]; simp
    · rename_i h1 h2; rw [cmpI_zero]; simp [h2]
  · rename_i h1; rw [cmpI_zero]; simp [h1]
theorem ordR_zero : ∀ {a b : List Val}, ordR a b = 0 ↔ a = b
  | [], [] => by simp [ordR]
  | [], _ :: _ => by simp [ordR]
  | _ :: _, [] => by simp [ordR]
  | a :: l, b :: r => by
    simp only [ordR]
    split
    · rename_i h; rw [ordV_zero] at h; subst h; rw [ordR_zero]; simp
    · rename_i h
      constructor
      · intro e; exact absurd e h
      · intro e; simp at e; rw [e.1] at h; exact absurd (ordV_zero.2 rfl) h

end
end Go.Proofs.Ytaepcbdcjbfgjaa.B
