/- What the model's steps on memory come to: loads, stores, new variables. -/
import Derived.Test.YtaepcbdcjbfgjaaBRel
namespace Go.Proofs.Ytaepcbdcjbfgjaa.B
open Go Go.RowKit
variable {P : Program}

theorem add_none (b o i : Nat) : (⟨b, o, none⟩ : Addr).add i = ⟨b, o + i, none⟩ := by
  unfold Addr.add; split
  · rename_i h; subst h; rfl
  · rfl

theorem run_loadCellsFrom (w : World) (b o : Nat) : ∀ (vs : List Value) (i : Nat) (acc : Array Value), (∀ (j : Nat) v, vs[j]? = some v → w.cell? ⟨b, o + i + j, none⟩ = some v) →
    (loadCellsFrom ⟨b, o, none⟩ i vs.length acc).run P w = .ok (acc ++ vs.toArray) w
  | [], i, acc, _ => by simp [loadCellsFrom]
  | v :: vs, i, acc, h => by
    have h0 := h 0 v rfl
    have ih := run_loadCellsFrom w b o vs (i + 1) (acc.push v) (fun j u hu => by
      have := h (j + 1) u (by simpa using hu)
      rw [show o + (i + 1) + j = o + i + (j + 1) from by omega]; exact this)
    simp only [List.length_cons, loadCellsFrom, Sem.run_bind, run_load, add_none, Nat.add_zero] at h0 ⊢
    rw [h0]
    simp only [Result.andThen_ok]
    rw [ih]
    congr 1
    simp

theorem run_loadCells (w : World) (b o : Nat) (vs : List Value) (h : ∀ (j : Nat) v, vs[j]? = some v → w.cell? ⟨b, o + j, none⟩ = some v) :
    (loadCells ⟨b, o, none⟩ vs.length).run P w = .ok vs.toArray w := by
  unfold loadCells
  rw [run_loadCellsFrom w b o vs 0 #[] (by simpa using h)]
  simp

/-- What a row of stores leaves. -/
structure Stored (w w' : World) (b o : Nat) (vs : List Value) : Prop where
  os : w'.os = w.os
  tape : w'.tape = w.tape
  output : w'.output = w.output
  size : w'.heap.size = w.heap.size
  block : ∀ k, k ≠ b → w'.heap[k]? = w.heap[k]?
  cell : ∀ (i : Nat) v, vs[i]? = some v → w'.cell? ⟨b, o + i, none⟩ = some v
  other : ∀ p : Addr, (p.off < o ∨ o + vs.length ≤ p.off ∨ p.block ≠ b) → w'.cell? p = w.cell? p
  frozen : ∀ p : Addr, stuck w' p = stuck w p
  same : vs = [] → w' = w

theorem oneC_eq {v : Value} (h : oneC v = true) : v.oneCell' = true := by cases v <;> first | rfl | simp [oneC] at h

theorem run_storeCells : ∀ (vs : List Value) (w : World) (b o i : Nat), (∀ v ∈ vs, oneC v = true) →
    (∀ (j : Nat), j < vs.length → (∃ u, w.cell? ⟨b, o + i + j, none⟩ = some u) ∧ stuck w ⟨b, o + i + j, none⟩ = false) →
    ∃ w', (storeCells ⟨b, o, none⟩ vs i).run P w = .ok () w' ∧ Stored w w' b (o + i) vs
  | [], w, b, o, i, _, _ => ⟨w, by simp [storeCells], ⟨rfl, rfl, rfl, rfl, fun _ _ => rfl, fun i v h => by simp at h, fun _ _ => rfl, fun _ => rfl, fun _ => rfl⟩⟩
  | v :: vs, w, b, o, i, hv, hc => by
    obtain ⟨⟨u, hu⟩, hf⟩ := hc 0 (by simp)
    simp only [Nat.add_zero] at hu hf
    obtain ⟨w', hr, hs⟩ := run_storeCells vs (w.setCell ⟨b, o + i, none⟩ v) b o (i + 1) (fun x hx => hv x (by simp [hx])) (fun j hj => by
      obtain ⟨⟨x, hx⟩, hfx⟩ := hc (j + 1) (by simp; omega)
      refine ⟨⟨x, ?_⟩, ?_⟩
      · rw [World.cell?_setCell_other _ _ _ _ (by simp)]
        rw [show o + (i + 1) + j = o + i + (j + 1) from by omega]; exact hx
      · rw [stuck_setCell, show o + (i + 1) + j = o + i + (j + 1) from by omega]; exact hfx)
    refine ⟨w', ?_, ⟨hs.os, hs.tape, hs.output, by rw [hs.size]; simp, fun k hk => by rw [hs.block k hk]; exact Below.heap_setCell _ _ _ _ hk, ?_, ?_, ?_, by simp⟩⟩
    · simp only [storeCells, Sem.run_bind, add_none]
      rw [run_store P w _ v .plain (oneC_eq (hv v (by simp))), hu]
      simp only [stuck_no hf, Bool.false_eq_true, if_false, Result.andThen_ok]
      exact hr
    · intro j x hx
      cases j with
      | zero =>
        simp at hx; subst hx
        rw [Nat.add_zero, hs.other _ (by left; show o + i < o + (i + 1); omega)]
        exact World.cell?_setCell_same _ _ _ hu
      | succ j =>
        have := hs.cell j x (by simpa using hx)
        rw [show o + i + (j + 1) = o + (i + 1) + j from by omega]; exact this
    · intro p hp
      simp only [List.length_cons] at hp
      rw [hs.other p (by omega)]
      exact World.cell?_setCell_other _ _ _ _ (by rintro rfl; simp at hp; omega)
    · intro p; rw [hs.frozen]; exact stuck_setCell _ _ _ _

end Go.Proofs.Ytaepcbdcjbfgjaa.B
