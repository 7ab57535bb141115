/- What every walk of ours says of the world: what was there before the call is as it was ('Ext'). -/
import Derived.WalkKit
import Derived.ProofKit
import Derived.OpenShut
import Derived.Lib.Hide
import Derived.WalkLawsBesides
import Derived.BigQuiet
import Derived.Deep.QuietTactic
namespace Go.Proofs.Ytaepcbdcjbfgjaa
open Go.RowKit

/-- Nothing of what lay in memory has turned; there may be new blocks. -/
def Ext (w w' : World) : Prop := Below w.heap.size w w'

theorem Ext.refl (w : World) : Ext w w := Below.refl _ _
theorem Ext.trans {a b c : World} (h : Ext a b) (k : Ext b c) : Ext a c := Below.trans h (Below.mono k h.size)
theorem Ext.alloc {a b : World} (h : Ext a b) (o : Obj) : Ext a (b.alloc o) := Below.alloc h h.size o
theorem Ext.drew {a b : World} (h : Ext a b) : Ext a b.drew := Below.drew h
theorem Ext.drewN {a b : World} (h : Ext a b) (n : Nat) : Ext a (b.drewN n) := by
  induction n with
  | zero => exact h
  | succ n ih => exact Ext.drew ih
theorem Ext.setCell {a b : World} (h : Ext a b) {p : Addr} (hp : a.heap.size ≤ p.block) (u : Value) : Ext a (b.setCell p u) := Below.setCell h hp u
theorem Ext.cell {a b : World} (h : Ext a b) {p : Addr} (hp : p.block < a.heap.size) : b.cell? p = a.cell? p := Below.cell h hp
theorem Ext.frozen {a b : World} (h : Ext a b) {p : Addr} (hp : p.block < a.heap.size) : b.frozen? p = a.frozen? p := Below.frozen h hp
/-- A cell that must not be written, or one of a block on which a text's bytes lie. -/
def stuck (w : World) (p : Addr) : Bool := w.frozen? p || (match w.shape? p.block with | some (_, n) => w.frozen? ⟨p.block, n, none⟩ | none => false)
theorem stuck_no {w : World} {p : Addr} (h : stuck w p = false) : w.frozen? p = false := (Bool.or_eq_false_iff.1 h).1
theorem stuck_mark {w : World} {p : Addr} (h : stuck w p = false) {t : TypeId} {n : Nat} (hs : w.shape? p.block = some (t, n)) : w.frozen? ⟨p.block, n, none⟩ = false := by
  have := (Bool.or_eq_false_iff.1 h).2
  rw [hs] at this; exact this
theorem stuck_heap {w w' : World} {p : Addr} (h : w'.heap[p.block]? = w.heap[p.block]?) : stuck w' p = stuck w p := by
  unfold stuck World.frozen? World.shape?
  simp only [h]
theorem stuck_setCell (w : World) (a : Addr) (v : Value) (p : Addr) : stuck (w.setCell a v) p = stuck w p := by
  have hs : (w.setCell a v).shape? p.block = w.shape? p.block := by
    unfold World.shape? World.setCell
    simp only [Array.getElem?_modify]
    by_cases h : a.block = p.block
    · rw [if_pos h]
      cases w.heap[p.block]? with
      | none => rfl
      | some o => cases o <;> (try rfl); simp only [Option.map_some]; split <;> simp_all
    · rw [if_neg h]
  unfold stuck
  simp only [World.frozen?_setCell, hs]
@[simp] theorem stuck_new (w : World) (arr : Array Value) (t : TypeId) (o : Nat) : stuck (w.alloc (.cells arr t)) ⟨w.heap.size, o, none⟩ = false := by
  unfold stuck World.shape? World.frozen? World.alloc
  simp
theorem Ext.stuck {a b : World} (h : Ext a b) {p : Addr} (hp : p.block < a.heap.size) : stuck b p = stuck a p := stuck_heap (Below.block h _ hp)
theorem Ext.le {a b : World} (h : Ext a b) : a.heap.size ≤ b.heap.size := h.size
theorem Ext.block {a b : World} (h : Ext a b) {k : Nat} (hk : k < a.heap.size) : b.heap[k]? = a.heap[k]? := Below.block h k hk
/-- A cell that holds something lies in a block that is there. -/
theorem lt_of_cell {w : World} {p : Addr} {v : Value} (h : w.cell? p = some v) : p.block < w.heap.size := by
  unfold World.cell? at h
  rcases Nat.lt_or_ge p.block w.heap.size with hl | hl
  · exact hl
  · rw [Array.getElem?_eq_none hl] at h; simp at h
/-- What a cell holds it holds later, too. -/
theorem Ext.keeps {a b : World} (h : Ext a b) {p : Addr} {v : Value} (hc : a.cell? p = some v) : b.cell? p = some v := by
  rw [h.cell (lt_of_cell hc)]; exact hc

/-- All old cells and all old marks read as before: two rules for the walk. -/
theorem Ext.both {W w1 : World} (h : Ext W w1) : (∀ b o, b < W.heap.size → w1.cell? ⟨b, o, none⟩ = W.cell? ⟨b, o, none⟩) ∧ (∀ b o, b < W.heap.size → w1.frozen? ⟨b, o, none⟩ = W.frozen? ⟨b, o, none⟩) :=
  ⟨fun _ _ hb => h.cell hb, fun _ _ hb => h.frozen hb⟩

theorem ret_int {k : IntKind} {a b : Int} (h : a = b) : Ending.returned (.int k a) = .returned (.int k b) := by rw [h]
theorem ret_bool {a b : Bool} (h : a = b) : Ending.returned (.bool a) = .returned (.bool b) := by rw [h]
end Go.Proofs.Ytaepcbdcjbfgjaa
