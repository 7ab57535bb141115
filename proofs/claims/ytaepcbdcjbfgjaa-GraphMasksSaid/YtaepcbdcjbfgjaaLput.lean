/- What the library leaves that writes into a row of one-celled elements: an object with other elements. -/
import Derived.Test.YtaepcbdcjbfgjaaLown
import Derived.Sort.Grow
namespace Go.Proofs.Ytaepcbdcjbfgjaa.B
open Go Go.RowKit Go.Shelf Go.Sort
set_option maxRecDepth 1000000
set_option linter.unusedVariables false

/-- Some cells of a row have been written; there may be new blocks. -/
structure PutR (w w' : World) (b off : Nat) (us : List Value) : Prop where
  os : w'.os = w.os
  tape : w'.tape = w.tape
  output : w'.output = w.output
  size : w.heap.size ≤ w'.heap.size
  block : ∀ k, k < w.heap.size → k ≠ b → w'.heap[k]? = w.heap[k]?
  cell : ∀ (i : Nat) v, us[i]? = some v → w'.cell? ⟨b, off + i, none⟩ = some v
  other : ∀ p : Addr, p.block < w.heap.size → (p.off < off ∨ off + us.length ≤ p.off ∨ p.block ≠ b) → w'.cell? p = w.cell? p
  frozen : ∀ p : Addr, p.block < w.heap.size → stuck w' p = stuck w p

theorem grow_block (w : World) (os : Array Obj) {k : Nat} (h : k < w.heap.size) : (grow w os).heap[k]? = w.heap[k]? := by
  unfold grow; exact Array.getElem?_append_left h
theorem grow_cell (w : World) (os : Array Obj) {p : Addr} (h : p.block < w.heap.size) : (grow w os).cell? p = w.cell? p := by
  unfold World.cell?; rw [grow_block w os h]
theorem stuck_mapBlock (w : World) (blk : Nat) (f : Array Value → Array Value) (hf : ∀ c, (f c).size = c.size) (p : Addr) : stuck (mapBlock w blk f) p = stuck w p := by
  have h1 : ∀ a, (mapBlock w blk f).frozen? a = w.frozen? a := fun a => frozen?_mapBlock w blk f a
  have h2 : (mapBlock w blk f).shape? p.block = w.shape? p.block := by
    simp only [mapBlock, World.shape?, Array.getElem?_modify]
    by_cases hk : blk = p.block
    · simp only [hk, if_true]
      cases w.heap[p.block]? with
      | none => rfl
      | some o => cases o <;> simp [onCells, hf]
    · simp [hk]
  unfold stuck
  rw [h1, h2]
  simp only [h1]
/-- A row that was put, in the library's own words. -/
theorem putR_of {α : Type} [Inhabited α] {enc : α → Value} {w : World} {b off n : Nat} {os : Array Obj} {d0 d : Array α} (hb : b < w.heap.size) (hH : Holds enc w b off d0) (hs : d.size = d0.size) :
    PutR w (grow (putRow enc (Sort.ahead w n) b off d) os) b off (d.toList.map enc) := by
  have hsz : (putRow enc (Sort.ahead w n) b off d).heap.size = w.heap.size := by rw [size_putRow]; rfl
  refine ⟨rfl, rfl, rfl, ?_, fun k hk hne => ?_, fun i v hv => ?_, fun p hp ho => ?_, fun p hp => ?_⟩
  · rw [size_grow, hsz]; omega
  · rw [grow_block _ _ (by rw [hsz]; exact hk)]
    unfold putRow mapBlock Sort.ahead
    simp only [Array.getElem?_modify, if_neg (Ne.symm hne)]
  · rw [grow_cell _ _ (by rw [hsz]; exact hb)]
    rw [List.getElem?_map] at hv
    have hi : i < d.size := by
      rcases Nat.lt_or_ge i d.size with g | g
      · exact g
      · rw [List.getElem?_eq_none (by simpa using g)] at hv; simp at hv
    have hH' : Holds enc (Sort.ahead w n) b off d0 := hH
    rw [cell?_putRow enc (Sort.ahead w n) b off d0 d hH' hs i hi]
    rw [List.getElem?_eq_getElem (by simpa using hi)] at hv
    rw [getElem!_pos d i hi]
    simpa using hv
  · rw [grow_cell _ _ (by rw [hsz]; exact hp)]
    rw [cell?_putRow_other enc (Sort.ahead w n) b off d p (by simp only [List.length_map, Array.length_toList] at ho; omega)]
    rfl
  · rw [stuck_heap (grow_block _ _ (by rw [hsz]; exact hp))]
    exact stuck_mapBlock (Sort.ahead w n) b _ (fun c => by unfold putCells; simp) p

theorem FExt.put {fr : Fr} {w' : World} {b off : Nat} {us : List Value} (hst : PutR fr.w0 w' b off us) (ho : ∀ (i : Nat), i < us.length → fr.own b (off + i)) (hne : 0 < us.length) : FExt fr w' := by
  refine ⟨hst.os, hst.tape, hst.output, hst.size, fun k hk hn => ?_, fun b' o hk hn => ?_, fun b' o hk hn => hst.frozen _ hk⟩
  · by_cases e : k = b
    · subst e
      exact (hn _ (ho 0 hne)).elim
    · exact hst.block k hk e
  · refine hst.other _ hk ?_
    by_cases e : b' = b
    · subst e
      by_cases h1 : o < off
      · exact .inl h1
      · by_cases h2 : off + us.length ≤ o
        · exact .inr (.inl h2)
        · have h3 := ho (o - off) (by omega)
          rw [show off + (o - off) = o from by omega] at h3; exact (hn h3).elim
    · exact .inr (.inr e)

/-- An object of one-celled elements, its row written anew. -/
theorem ObRel.put {g : G} {w w' : World} {k ver : Nat} {live : Bool} {τ : Ty} (h1 : sz τ = 1) {xs ys : List (Den τ)} {b off cap : Nat} {us : List Value} (htk : g.tk k = (some ⟨b, off, none⟩, cap)) (hb : b < w.heap.size) (hown : ∀ b o x, g.ω b o = some x → b < w.heap.size)
    (hO : ObAt En g w k ⟨ver, τ, xs, some 0, live⟩ b off cap (fun i j => (w.cell? ⟨b, off + i * sz τ + j, none⟩).getD undef))
    (hst : PutR w w' b off us) (hul : us.length = xs.length) (hyl : ys.length ≤ us.length) (hcap : xs.length ≤ cap) (hbig : xs.length ≤ 9223372036854775807)
    (hrel : ∀ i (hi : i < ys.length) d, (enc τ ys[i])[0]? = some d → ∃ u, us[i]? = some u ∧ VRel En g.St w u d) :
    ObRel En g w' k ⟨ver, τ, ys, some 0, live⟩ ∧ Keeps g.St w g.St w' := by
  have hmine : ∀ i, i < us.length → g.ω b (off + i) = some (.obj k) ∧ stuck w ⟨b, off + i, none⟩ = false := by
    intro i hi
    have := (hO.cell i 0 (by show i < xs.length; omega) (by show 0 < sz τ; omega)).2
    have e : off + i * Un.sz τ + 0 = off + i := by show off + i * sz τ + 0 = _; rw [h1]; omega
    rw [e] at this
    exact this.2 (Nat.zero_le _)
  have hk : Keeps g.St w g.St w' := fun b' o hs => ⟨hs, hst.other ⟨b', o, none⟩ (hown _ _ _ hs) (by
    by_cases e : b' = b
    · subst e
      by_cases h2 : o < off
      · exact .inl h2
      · by_cases h3 : off + us.length ≤ o
        · exact .inr (.inl h3)
        · have := (hmine (o - off) (by omega)).1
          rw [show off + (o - off) = o by omega] at this
          have hs' : g.ω b' o = some .st := hs
          rw [this] at hs'; simp at hs'
    · exact .inr (.inr e))⟩
  refine ⟨⟨⟨⟨by rw [htk]; show ys.length ≤ cap; omega, by show ys.length ≤ _; omega⟩, fun f hf => by simp at hf; subst hf; exact Nat.zero_le _⟩, fun _ => ⟨b, off, fun i j => us.getD i undef, by rw [htk], ⟨?_, ?_, ?_⟩⟩⟩, hk⟩
  · intro i j hi hj
    have hi' : i < ys.length := hi
    have hj' : j < sz τ := hj
    obtain rfl : j = 0 := by omega
    have e0 : off + i * Un.sz τ + 0 = off + i := by show off + i * sz τ + 0 = _; rw [h1]; omega
    show w'.cell? ⟨b, off + i * Un.sz τ + 0, none⟩ = _ ∧ Mode g w' k (some 0) i b (off + i * Un.sz τ + 0)
    rw [e0]
    refine ⟨?_, fun h => absurd h (Nat.not_lt_zero _), fun _ => ⟨(hmine i (by omega)).1, by rw [hst.frozen _ hb]; exact (hmine i (by omega)).2⟩⟩
    rw [List.getD_eq_getElem?_getD, List.getElem?_eq_getElem (by omega)]
    exact hst.cell _ _ (List.getElem?_eq_getElem (by omega))
  · intro i hi j d hd
    have hj : j < sz τ := by have h0 := (List.getElem?_eq_some_iff.1 hd).1; have := enc_len τ (ys[i]'hi); exact this ▸ h0
    obtain rfl : j = 0 := by omega
    obtain ⟨u, h2, h3⟩ := hrel i hi d hd
    show VRel En g.St w' (us.getD i undef) d
    rw [List.getD_eq_getElem?_getD, h2]
    exact h3.mono hk
  · intro hl x hx hx'
    rw [htk] at hx'
    have hx1 : ys.length * sz τ ≤ x := hx
    have hx2 : x < cap * sz τ := hx'
    rw [h1] at hx1 hx2
    rcases Nat.lt_or_ge x us.length with g1 | g1
    · exact ⟨(hmine x g1).1, ⟨us[x], hst.cell _ _ (List.getElem?_eq_getElem g1)⟩, by rw [hst.frozen _ hb]; exact (hmine x g1).2⟩
    · obtain ⟨m1, ⟨v, m2⟩, m3⟩ := hO.spare hl x (by show xs.length * sz τ ≤ x; rw [h1]; omega) (by show x < cap * sz τ; rw [h1]; omega)
      exact ⟨m1, ⟨v, by rw [hst.other ⟨b, off + x, none⟩ hb (.inr (.inl (by show off + us.length ≤ off + x; omega)))]; exact m2⟩, by rw [hst.frozen _ hb]; exact m3⟩
/-- The row of an object of one-celled elements. -/
theorem ObRel.open1 {g : G} {w : World} {k ver : Nat} {live : Bool} {τ : Ty} {xs : List (Den τ)} (h : ObRel En g w k ⟨ver, τ, xs, some 0, live⟩) (hne : xs ≠ []) :
    ∃ b off, g.tk k = (some ⟨b, off, none⟩, (g.tk k).2) ∧ xs.length ≤ (g.tk k).2 ∧ ObAt En g w k ⟨ver, τ, xs, some 0, live⟩ b off (g.tk k).2 (fun i j => (w.cell? ⟨b, off + i * sz τ + j, none⟩).getD undef) := by
  obtain ⟨⟨⟨hcap, hmax⟩, _⟩, hrow⟩ := h
  have hpos : 0 < xs.length := List.length_pos_iff.2 hne
  have hc : xs.length ≤ (g.tk k).2 := hcap
  obtain ⟨b, off, cv, hbase, hA⟩ := hrow (by omega)
  have hcv : ∀ i j, i < xs.length → j < sz τ → (w.cell? ⟨b, off + i * sz τ + j, none⟩).getD undef = cv i j := fun i j hi hj => by
    have := (hA.cell i j hi hj).1
    have e : w.cell? ⟨b, off + i * sz τ + j, none⟩ = some (cv i j) := this
    rw [e]; rfl
  refine ⟨b, off, by rw [← hbase], hc, ⟨fun i j hi hj => ?_, fun i hi j d hd => ?_, hA.spare⟩⟩
  · have := hA.cell i j hi hj
    rw [hcv i j hi hj]; exact this
  · have hj : j < sz τ := by have h0 := (List.getElem?_eq_some_iff.1 hd).1; have := enc_len τ (xs[i]'hi); exact this ▸ h0
    rw [hcv i j hi hj]; exact hA.rel i hi j d hd
theorem vrel_s {St : Nat → Nat → Prop} {w : World} {v x : Value} (h : VRel En St w v (.s x)) : v = x ∧ oneC x = true := by cases h with | s _ h => exact ⟨rfl, h⟩
/-- An object of ints, in the library's words. -/
theorem ObAt.holds {g : G} {w : World} {k ver : Nat} {live : Bool} {xs : List Int} {b off cap : Nat} {cv : Nat → Nat → Value} (hA : ObAt En g w k ⟨ver, .int, xs, some 0, live⟩ b off cap cv) :
    Holds (Value.int .i64) w b off xs.toArray ∧ ∀ x ∈ xs, oneC (.int .i64 x) = true := by
  have key : ∀ i (hi : i < xs.length), cv i 0 = .int .i64 xs[i] ∧ oneC (.int .i64 xs[i]) = true := fun i hi => by
    have := hA.rel i hi 0 (.s (.int .i64 xs[i])) rfl
    exact vrel_s this
  refine ⟨fun j hj => ?_, fun x hx => ?_⟩
  · have hj' : j < xs.length := by simpa using hj
    have hc := hA.cell j 0 hj' (show (0 : Nat) < 1 from Nat.one_pos)
    have e : off + j * Un.sz .int + 0 = off + j := by show off + j * 1 + 0 = _; omega
    rw [e] at hc
    refine ⟨?_, stuck_no (hc.2.2 (Nat.zero_le _)).2⟩
    rw [hc.1, (key j hj').1, getElem!_pos _ j hj]
    simp
  · obtain ⟨i, hi, rfl⟩ := List.getElem_of_mem hx
    exact (key i hi).2
end Go.Proofs.Ytaepcbdcjbfgjaa.B
