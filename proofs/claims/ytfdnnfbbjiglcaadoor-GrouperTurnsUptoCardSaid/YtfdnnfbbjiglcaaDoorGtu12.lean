/- Part 12 of the proof: Lnest Lret Shelf Lbuild Sspec Lkeyt. -/
import Derived.Maps.AppendAt
import Derived.OneCell
import Derived.Laws.OwnMore
import Derived.Shelf.Strings.Builder1
import Derived.Shelf.Small.Bits
import Derived.Shelf.Small.Strs
import Derived.Shelf.Small.Wraps
import Derived.Shelf.Strings.BuilderF
import Derived.Shelf.Strings.BuilderK
import Derived.Shelf.Strconv.Itoa0
import Derived.Shelf.Strconv.Itoa1
import Derived.Shelf.LaysM
import Derived.Shelf.Strconv.Itoa2
import Derived.Shelf.Strconv.Itoa3
import Derived.Shelf.Strings.BuilderCap
import Derived.Ground.Names2Prog
import Derived.Shelf.Slices.SearchI
import Derived.Ground.SlsfProg
import Derived.Shelf.SlSortCmp.Insertion
import Derived.Shelf.SlSortCmp.SiftDown1
import Derived.Shelf.SlSortCmp.HeapSort1
import Derived.Shelf.SlSortCmp.Insertion1
import Derived.Shelf.SlSortCmp.Median1
import Derived.Shelf.SlSortCmp.Pivot1
import Derived.Shelf.SlSortCmp.ReverseRange1
import Derived.Shelf.SlSortCmp.PartialInsertion1
import Derived.Shelf.SlSortCmp.PartitionEqual1
import Derived.Shelf.SlSortCmp.Partition1
import Derived.Shelf.SlSortCmp.Pdq1
import Derived.Shelf.SlSortCmp.Whole1
import Derived.Shelf.SlSortCmp.NoneTotal
import Derived.Test.YtfdnnfbbjiglcaaDoorProg
import Derived.Lib.ItoaLen
import Derived.Test.YtfdnnfbbjiglcaaDoorGtu11
namespace Go.Proofs.YtfdnnfbbjiglcaaDoor.B
open Go Go.RowKit
set_option linter.unusedVariables false
structure Nest (w : World) (base : Nat) (te ti : TypeId) (k q z : Nat) (v : Value) (cs : List Value) (ys : List (Nat × List Value)) : Prop where
  outer : w.ownsRow base te k v ys.length cs
  inner : ∀ i m zs, ys[i]? = some (m, zs) → ∃ u, cs[i * k + q]? = some u ∧ w.ownsRow base ti z u m zs ∧ (u.ownBlock = none ∨ u.ownBlock ≠ v.ownBlock)
  apart : ∀ i j u u', i ≠ j → i < ys.length → j < ys.length → cs[i * k + q]? = some u → cs[j * k + q]? = some u' → u.ownBlock = none ∨ u.ownBlock ≠ u'.ownBlock
theorem Nest.nil (w : World) (base : Nat) (te ti : TypeId) (k q z : Nat) : Nest w base te ti k q z (.slice none 0 0) [] [] :=
  ⟨⟨by simp, .inl ⟨rfl, rfl⟩⟩, fun i m zs h => by simp at h, fun i j u u' _ h => by simp at h⟩
section
variable {w w' : World} {base : Nat} {te ti : TypeId} {k q z : Nat} {v v' : Value} {cs : List Value} {ys : List (Nat × List Value)}
theorem Nest.kept {row : Option Nat} (h : Nest w base te ti k q z v cs ys) (hg : w.grownBy w' row) (hr : ∀ b, row = some b → b < base) : Nest w' base te ti k q z v cs ys := by
  have ne : ∀ {e : TypeId} {s : Nat} {x : Value} {n : Nat} {l : List Value}, w.ownsRow base e s x n l → x.ownBlock = none ∨ x.ownBlock ≠ row := fun {e s x n l} ho => by
    cases hx : x.ownBlock with
    | none => exact .inl rfl
    | some g =>
      refine .inr fun e2 => ?_
      have h1 := (ho.lt g hx).1
      have h2 := hr g e2.symm
      omega
  refine ⟨h.outer.kept hg (ne h.outer), fun i m zs hi => ?_, h.apart⟩
  obtain ⟨u, h1, h2, h3⟩ := h.inner i m zs hi
  exact ⟨u, h1, h2.kept hg (ne h2), h3⟩
theorem Nest.push (h : Nest w base te ti k q z v cs ys) (es : List Value) {u0 : Value} (hes : es.length = k) (hq : es[q]? = some u0) (h0 : w'.ownsRow base ti z u0 0 []) (hf : ∀ b, u0.ownBlock = some b → w.heap.size ≤ b ∧ v'.ownBlock ≠ some b)
    (ho : w'.ownsRow base te k v' (ys.length + 1) (cs ++ es)) (hg : w.grownBy w' v.ownBlock)
    (hb : v'.ownBlock = v.ownBlock ∨ ∃ b, v'.ownBlock = some b ∧ w.heap.size ≤ b) : Nest w' base te ti k q z v' (cs ++ es) (ys ++ [(0, [])]) := by
  have hcl : cs.length = ys.length * k := h.outer.1
  have hqk : q < k := by rw [← hes]; exact (List.getElem?_eq_some_iff.1 hq).1
  have at1 : ∀ i, i < ys.length → (cs ++ es)[i * k + q]? = cs[i * k + q]? := fun i hi => by
    refine List.getElem?_append_left ?_
    have : (i + 1) * k ≤ ys.length * k := Nat.mul_le_mul_right _ hi
    rw [Nat.add_mul] at this; omega
  have at2 : (cs ++ es)[ys.length * k + q]? = some u0 := by
    rw [List.getElem?_append_right (by omega), hcl, Nat.add_sub_cancel_left]; exact hq
  have low : ∀ {i : Nat} {u : Value}, i < ys.length → cs[i * k + q]? = some u → ∀ g, u.ownBlock = some g → g < w.heap.size := fun {i u} hi hu g hx => by
    obtain ⟨p, hp⟩ : ∃ p, ys[i]? = some p := ⟨_, List.getElem?_eq_getElem hi⟩
    obtain ⟨y, y1, y2, _⟩ := h.inner i p.1 p.2 hp
    rw [hu] at y1
    obtain rfl := Option.some.inj y1
    exact (y2.lt g hx).2
  refine ⟨by rw [List.length_append, List.length_singleton]; exact ho, fun i m zs hi => ?_, fun i j u u' hne hi hj h1 h2 => ?_⟩
  · by_cases hl : i < ys.length
    · rw [List.getElem?_append_left hl] at hi
      obtain ⟨u, g1, g2, g3⟩ := h.inner i m zs hi
      refine ⟨u, by rw [at1 i hl]; exact g1, g2.kept hg g3, ?_⟩
      rcases hb with e | ⟨b, e, hbl⟩
      · rw [e]; exact g3
      · cases hx : u.ownBlock with
        | none => exact .inl rfl
        | some g =>
          refine .inr fun e2 => ?_
          rw [e] at e2
          have := (g2.lt g hx).2
          have := Option.some.inj e2
          omega
    · have hl2 : i = ys.length := by
        have := (List.getElem?_eq_some_iff.1 hi).1
        rw [List.length_append, List.length_singleton] at this; omega
      subst hl2
      rw [List.getElem?_append_right (Nat.le_refl _), Nat.sub_self] at hi
      simp only [List.getElem?_cons_zero, Option.some.injEq, Prod.mk.injEq] at hi
      obtain ⟨rfl, rfl⟩ := hi
      refine ⟨u0, at2, h0, ?_⟩
      cases hx : u0.ownBlock with
      | none => exact .inl rfl
      | some g => exact .inr fun e => (hf g hx).2 e.symm
  · rw [List.length_append, List.length_singleton] at hi hj
    have far : ∀ {i : Nat} {u : Value}, i < ys.length → cs[i * k + q]? = some u → u.ownBlock = none ∨ u.ownBlock ≠ u0.ownBlock := fun {i u} hi hu => by
      cases hx : u.ownBlock with
      | none => exact .inl rfl
      | some g =>
        refine .inr fun e => ?_
        have h1 := low hi hu g hx
        have h2 := (hf g e.symm).1
        omega
    by_cases hli : i < ys.length
    · rw [at1 i hli] at h1
      by_cases hlj : j < ys.length
      · rw [at1 j hlj] at h2; exact h.apart i j u u' hne hli hlj h1 h2
      · have : j = ys.length := by omega
        subst this
        rw [at2] at h2
        obtain rfl := Option.some.inj h2
        exact far hli h1
    · have : i = ys.length := by omega
      subst this
      rw [at2] at h1
      obtain rfl := Option.some.inj h1
      rw [at1 j (by omega)] at h2
      rcases far (by omega) h2 with e | e
      · cases hx : u0.ownBlock with
        | none => exact .inl rfl
        | some g => rw [e]; exact .inr (by simp)
      · exact .inr fun e2 => e e2.symm
theorem Nest.get (h : Nest w base te ti k q z v cs ys) (hk : 0 < k) (hq : q < k) {i m : Nat} {zs : List Value} (hi : ys[i]? = some (m, zs)) :
    ∃ g cap u, v = .slice (some ⟨g, 0, none⟩) ys.length cap ∧ base ≤ g ∧ cs[i * k + q]? = some u ∧ w.cell? ⟨g, i * k + q, none⟩ = some u ∧ w.frozen? ⟨g, i * k + q, none⟩ = false ∧ w.ownsRow base ti z u m zs ∧ (u.ownBlock = none ∨ u.ownBlock ≠ v.ownBlock) := by
  obtain ⟨u, h1, h2, h3⟩ := h.inner i m zs hi
  have hl := (List.getElem?_eq_some_iff.1 hi).1
  have ho := h.outer
  obtain ⟨hcl, ⟨rfl, h0⟩ | ⟨g, cap, cur, rfl, hge, _⟩⟩ := ho
  · omega
  · have hlt : i * k + q < ys.length * k := by
      have : (i + 1) * k ≤ ys.length * k := Nat.mul_le_mul_right _ hl
      rw [Nat.add_mul] at this; omega
    exact ⟨g, cap, u, rfl, hge, h1, by rw [h.outer.cellAt _ hlt]; exact h1, h.outer.frozenAt _, h2, h3⟩
theorem Nest.app (h : Nest w base te ti k q z v cs ys) (hk : 0 < k) (hqk : q < k) {i m m' : Nat} {zs zs' : List Value} {g cap : Nat} {u u' : Value} (hi : ys[i]? = some (m, zs)) (hv : v = .slice (some ⟨g, 0, none⟩) ys.length cap) (hu : cs[i * k + q]? = some u)
    (ho : w'.ownsRow base ti z u' m' zs') (hg : w.grownBy w' u.ownBlock) (hb : u'.ownBlock = u.ownBlock ∨ u'.ownBlock = some w.heap.size) :
    Nest (w'.setCell ⟨g, i * k + q, none⟩ u') base te ti k q z v (cs.set (i * k + q) u') (ys.set i (m', zs')) := by
  obtain ⟨u0, g1, g2, g3⟩ := h.inner i m zs hi
  rw [hu] at g1
  obtain rfl := Option.some.inj g1
  have hl := (List.getElem?_eq_some_iff.1 hi).1
  have hvb : v.ownBlock = some g := by rw [hv]; rfl
  have hgl := (h.outer.lt g hvb).2
  have hne : v.ownBlock = none ∨ v.ownBlock ≠ u.ownBlock := by
    rcases g3 with e | e
    · rw [e, hvb]; exact .inr (by simp)
    · exact .inr fun e2 => e e2.symm
  have hsz := hg.size
  have hu' : ∀ {x : Value}, (x.ownBlock = none ∨ x.ownBlock ≠ u.ownBlock) → (∀ b, x.ownBlock = some b → b < w.heap.size) → x.ownBlock = none ∨ x.ownBlock ≠ u'.ownBlock := fun {x} hx hlt => by
    rcases hb with e | e
    · rw [e]; exact hx
    · cases hxb : x.ownBlock with
      | none => exact .inl rfl
      | some b =>
        refine .inr fun e2 => ?_
        rw [e] at e2
        have := hlt b hxb
        have := Option.some.inj e2
        omega
  have hug : u'.ownBlock ≠ some g := fun e2 => by
    rcases hu' hne (fun b hb2 => (h.outer.lt b hb2).2) with e | e
    · rw [hvb] at e; exact absurd e (by simp)
    · rw [hvb] at e; exact e e2.symm
  have hpos : ∀ j, j < ys.length → j * k + q < cs.length := fun j hj => by
    rw [h.outer.1]
    have : (j + 1) * k ≤ ys.length * k := Nat.mul_le_mul_right _ hj
    rw [Nat.add_mul] at this; omega
  have hinj : ∀ j, j ≠ i → j * k + q ≠ i * k + q := fun j hj e => hj (Nat.eq_of_mul_eq_mul_right hk (by omega))
  have hcs : ∀ j, (cs.set (i * k + q) u')[j * k + q]? = if j = i then some u' else cs[j * k + q]? := fun j => by
    rw [List.getElem?_set]
    by_cases e : j = i
    · subst e; rw [if_pos rfl, if_pos rfl, if_pos (hpos j hl)]
    · rw [if_neg (fun e2 => hinj j e e2.symm), if_neg e]
  refine ⟨?_, fun j n ws hj => ?_, fun j j' x x' hne2 hj hj' h1 h2 => ?_⟩
  · rw [List.length_set]
    have h1 := h.outer.kept hg hne
    rw [hv] at h1 ⊢
    exact (h1.stored _ _).1
  · rw [List.getElem?_set] at hj
    by_cases e : i = j
    · subst e
      rw [if_pos rfl, if_pos hl] at hj
      simp only [Option.some.injEq, Prod.mk.injEq] at hj
      obtain ⟨rfl, rfl⟩ := hj
      refine ⟨u', by rw [hcs, if_pos rfl], ownsRow_setCell_other ho hug u', ?_⟩
      rw [hvb]
      exact .inr hug
    · rw [if_neg e] at hj
      obtain ⟨x, x1, x2, x3⟩ := h.inner j n ws hj
      have hlj := (List.getElem?_eq_some_iff.1 hj).1
      refine ⟨x, by rw [hcs, if_neg (fun e2 => e e2.symm)]; exact x1, ?_, x3⟩
      refine ownsRow_setCell_other (x2.kept hg (h.apart j i x u (fun e2 => e e2.symm) hlj hl x1 hu)) (fun e2 => ?_) u'
      rcases x3 with e3 | e3
      · rw [e3] at e2; simp at e2
      · rw [hvb] at e3; exact e3 e2
  · rw [List.length_set] at hj hj'
    rw [hcs] at h1 h2
    by_cases e : j = i
    · rw [if_pos e] at h1
      have hj2 : j' ≠ i := fun e2 => hne2 (e.trans e2.symm)
      rw [if_neg hj2] at h2
      obtain rfl := Option.some.inj h1
      subst e
      obtain ⟨p, hp⟩ : ∃ p, ys[j']? = some p := ⟨_, List.getElem?_eq_getElem hj'⟩
      obtain ⟨y, y1, y2, _⟩ := h.inner j' p.1 p.2 hp
      rw [h2] at y1
      obtain rfl := Option.some.inj y1
      have := hu' (h.apart j' j x' u (fun e2 => hj2 e2) hj' hj h2 hu) (fun b hb2 => (y2.lt b hb2).2)
      rcases this with e3 | e3
      · cases hx : u'.ownBlock with
        | none => exact .inl rfl
        | some b => rw [e3]; exact .inr (by simp)
      · exact .inr fun e4 => e3 e4.symm
    · rw [if_neg e] at h1
      by_cases e' : j' = i
      · rw [if_pos e'] at h2
        obtain rfl := Option.some.inj h2
        subst e'
        obtain ⟨p, hp⟩ : ∃ p, ys[j]? = some p := ⟨_, List.getElem?_eq_getElem hj⟩
        obtain ⟨y, y1, y2, _⟩ := h.inner j p.1 p.2 hp
        rw [h1] at y1
        obtain rfl := Option.some.inj y1
        exact hu' (h.apart j j' x u e hj hj' h1 hu) (fun b hb2 => (y2.lt b hb2).2)
      · rw [if_neg e'] at h2
        exact h.apart j j' x x' hne2 hj hj' h1 h2
end
end Go.Proofs.YtfdnnfbbjiglcaaDoor.B
namespace Go.Proofs.YtfdnnfbbjiglcaaDoor.B
open Go Go.RowKit Go.Shelf
set_option maxRecDepth 1000000
set_option linter.unusedVariables false
def StN (St : Nat → Nat → Prop) (w w' : World) (v : Value) (b o : Nat) : Prop := (b < w.heap.size ∧ St b o) ∨ (w.heap.size ≤ b ∧ b < w'.heap.size ∧ v.ownBlock ≠ some b)
open Classical in
theorem ret_own2 {St : Nat → Nat → Prop} {w w' : World} {v : Value} {e : TypeId} {τ : Ty} {xs : List (Den τ)} {news : List Value} (hext : Ext w w') (hbd : ∀ b o, St b o → b < w.heap.size) (hlen : xs.length ≤ 9223372036854775807)
    (hrow : w'.ownsRow w.heap.size e (sz τ) v xs.length news) (hrel : ∀ i (hi : i < xs.length) j d, (enc τ xs[i])[j]? = some d → ∃ u, news[i * sz τ + j]? = some u ∧ VRel En (StN St w w' v) w' u d) :
    Ret Tryd.prog En St w w' v [.c (.ob 0 0)] [⟨0, τ, xs, some 0, true⟩] := by
  refine ⟨hext, ?_⟩
  obtain ⟨hnl, ⟨rfl, hn0⟩ | ⟨gb, cap, cur, rfl, hge, hheap, hcap, hmax, hsz, htake⟩⟩ := hrow
  · have hx : xs = [] := List.eq_nil_of_length_eq_zero hn0
    subst hx
    refine ⟨⟨fun _ => 0, fun _ => False, fun b o => if St b o then some .st else none, fun _ => (none, 0)⟩, fun _ h => h, ?_, ?_, ?_, ?_⟩
    · intro b o x _ hx
      have hx' : (if St b o then some Own.st else none) = some x := hx
      split at hx'
      · rename_i hs; simp at hx'; exact ⟨hx'.symm, hs⟩
      · simp at hx'
    · intro b o x hx
      have hx' : (if St b o then some Own.st else none) = some x := hx
      split at hx'
      · rename_i hs; exact Nat.lt_of_lt_of_le (hbd b o hs) hext.le
      · simp at hx'
    · exact ⟨rfl, _, rfl, Nat.le_refl _, fun _ => rfl⟩
    · intro k o ho
      cases k with
      | zero => simp at ho; subst ho; exact ⟨⟨⟨⟨Nat.le_refl _, by simp⟩, fun f hf => by simp at hf; subst hf; exact Nat.le_refl _⟩, fun h => absurd h (Nat.lt_irrefl 0)⟩, rfl⟩
      | succ k => simp at ho
  · have hcell : ∀ q, q < cap * sz τ → w'.cell? ⟨gb, q, none⟩ = cur[q]? ∧ (∃ u, w'.cell? ⟨gb, q, none⟩ = some u) ∧ stuck w' ⟨gb, q, none⟩ = false := by
      intro q hq
      have h1 : w'.cell? ⟨gb, q, none⟩ = cur[q]? := by simp [World.cell?, hheap]
      refine ⟨h1, ⟨cur[q]'(by omega), by rw [h1]; exact Array.getElem?_eq_getElem _⟩, ?_⟩
      simp [stuck, World.shape?, World.frozen?, hheap]
    have hgb : gb < w'.heap.size := (Array.getElem?_eq_some_iff.1 hheap).1
    let g : G := ⟨fun _ => 0, fun _ => False, fun b o => if b < w.heap.size then (if St b o then some .st else none) else if b = gb then (if o < cap * sz τ then some (.obj 0) else none) else if b < w'.heap.size then some .st else none, fun _ => (some ⟨gb, 0, none⟩, cap)⟩
    have hω : ∀ o, o < cap * sz τ → g.ω gb o = some (.obj 0) := fun o ho => by
      show (if gb < w.heap.size then _ else _) = _
      rw [if_neg (by omega), if_pos rfl, if_pos ho]
    have hst : Keeps (StN St w w' (.slice (some ⟨gb, 0, none⟩) xs.length cap)) w' g.St w' := fun b o hs => by
      refine ⟨?_, rfl⟩
      show (if b < w.heap.size then _ else _) = _
      rcases hs with ⟨h1, h2⟩ | ⟨h1, h2, h3⟩
      · rw [if_pos h1, if_pos h2]
      · rw [if_neg (by omega), if_neg (fun e => h3 (by rw [e]; rfl)), if_pos h2]
    refine ⟨g, fun _ h => h, ?_, ?_, ?_, ?_⟩
    · intro b o x hb hx
      have hx' : (if b < w.heap.size then (if St b o then some Own.st else none) else _) = some x := hx
      rw [if_pos hb] at hx'
      split at hx'
      · rename_i hs; simp at hx'; exact ⟨hx'.symm, hs⟩
      · simp at hx'
    · intro b o x hx
      have hx' : (if b < w.heap.size then (if St b o then some Own.st else none) else if b = gb then (if o < cap * sz τ then some (Own.obj 0) else none) else if b < w'.heap.size then some Own.st else none) = some x := hx
      split at hx'
      · rename_i hb; exact Nat.lt_of_lt_of_le hb hext.le
      · split at hx'
        · rename_i hh; rw [hh]; exact hgb
        · split at hx'
          · assumption
          · simp at hx'
    · exact ⟨rfl, _, rfl, Nat.le_refl _, fun _ => rfl⟩
    · intro k o ho
      cases k with
      | succ k => simp at ho
      | zero =>
        simp at ho; subst ho
        refine ⟨⟨⟨⟨hcap, hlen⟩, fun f hf => by simp at hf; subst hf; exact Nat.zero_le _⟩, fun _ => ⟨gb, 0, fun i j => cur.getD (i * sz τ + j) undef, rfl, ⟨?_, ?_, ?_⟩⟩⟩, rfl⟩
        · intro i j hi hj
          have hlt : i * sz τ + j < cap * sz τ := by
            have h1 : (i + 1) * sz τ ≤ cap * sz τ := Nat.mul_le_mul_right _ (Nat.le_trans hi hcap)
            have hj' : j < sz τ := hj
            rw [Nat.add_mul] at h1; omega
          obtain ⟨c1, _, c3⟩ := hcell _ hlt
          have e0 : 0 + i * Un.sz τ + j = i * sz τ + j := by show 0 + i * sz τ + j = _; omega
          refine ⟨?_, ?_⟩
          · show w'.cell? ⟨gb, 0 + i * Un.sz τ + j, none⟩ = _
            rw [e0, c1, Array.getD_eq_getD_getElem?, Array.getElem?_eq_getElem (by omega)]; rfl
          · show Mode g w' 0 (some 0) i gb (0 + i * Un.sz τ + j)
            rw [e0]
            exact ⟨fun h => absurd h (Nat.not_lt_zero _), fun _ => ⟨hω _ hlt, c3⟩⟩
        · intro i hi j d hd
          obtain ⟨u, hu, hr⟩ := hrel i hi j d hd
          have hj : j < sz τ := by have h0 : j < (enc τ (xs[i]'hi)).length := (List.getElem?_eq_some_iff.1 hd).1; rwa [enc_len] at h0
          have hlt : i * sz τ + j < xs.length * sz τ := by
            have h1 : (i + 1) * sz τ ≤ xs.length * sz τ := Nat.mul_le_mul_right _ hi
            rw [Nat.add_mul] at h1; omega
          have hu2 : cur.getD (i * sz τ + j) undef = u := by
            rw [← htake, List.getElem?_take_of_lt hlt, Array.getElem?_toList] at hu
            rw [Array.getD_eq_getD_getElem?, hu]; rfl
          show VRel En g.St w' (cur.getD (i * sz τ + j) undef) d
          rw [hu2]; exact hr.mono hst
        · intro _ x hx hx'
          have hx2 : x < cap * sz τ := hx'
          obtain ⟨_, c2, c3⟩ := hcell x hx2
          show g.ω gb (0 + x) = _ ∧ _
          rw [Nat.zero_add]
          exact ⟨hω x hx2, c2, c3⟩
open Classical in
theorem ret_dat {St : Nat → Nat → Prop} {w w' : World} {v : Value} {τ : Ty} {xs : List (Den τ)} (hext : Ext w w') (hbd : ∀ b o, St b o → b < w.heap.size) (h : VRel En (StN St w w' .nilFunc) w' v (.dat τ xs)) :
    Ret Tryd.prog En St w w' v [.c (.sl (U := Un) τ xs false)] [] := by
  refine ⟨hext, ⟨fun _ => 0, fun _ => False, fun b o => if StN St w w' .nilFunc b o then some .st else none, fun _ => (none, 0)⟩, fun _ h => h, ?_, ?_, ?_, ?_⟩
  · intro b o x hb hx
    have hx' : (if StN St w w' .nilFunc b o then some Own.st else none) = some x := hx
    split at hx'
    · rename_i hs
      simp at hx'
      rcases hs with ⟨_, h2⟩ | ⟨h1, _⟩
      · exact ⟨hx'.symm, h2⟩
      · omega
    · simp at hx'
  · intro b o x hx
    have hx' : (if StN St w w' .nilFunc b o then some Own.st else none) = some x := hx
    split at hx'
    · rename_i hs
      rcases hs with ⟨h1, _⟩ | ⟨_, h2, _⟩
      · exact Nat.lt_of_lt_of_le h1 hext.le
      · exact h2
    · simp at hx'
  · refine ⟨h.mono fun b o hs => ⟨?_, rfl⟩, fun h => by simp at h⟩
    show (if StN St w w' .nilFunc b o then some Own.st else none) = some .st
    rw [if_pos hs]
  · intro k o ho; simp at ho
theorem ints_vrel {St : Nat → Nat → Prop} {w : World} {base : Nat} {ti : TypeId} {u : Value} {xs : List Int} (h : w.ownsRow base ti 1 u xs.length (xs.map (Value.int .i64))) (hb : ∀ x ∈ xs, -9223372036854775808 ≤ x ∧ x ≤ 9223372036854775807) (hl : xs.length ≤ 9223372036854775807)
    (hs : ∀ b o, u.ownBlock = some b → St b o) : VRel En St w u (.dat (U := Un) Ty.int xs) := by
  have h' := h
  obtain ⟨_, ⟨rfl, h0⟩ | ⟨g, cap, cur, rfl, _, _, hcap, _⟩⟩ := h
  · have : xs = [] := List.eq_nil_of_length_eq_zero h0
    subst this
    exact .nil _ _ _
  · refine VRel.dat (U := Un) Ty.int (xs : List (Un.Den Ty.int)) g 0 cap (fun i j => .int .i64 (xs.getD i 0)) ⟨hcap, hl⟩ (fun i j hi hj => ?_) (fun i hi j d hd => ?_)
    · have hj0 : j = 0 := by have : j < 1 := hj; omega
      subst hj0
      refine ⟨hs _ _ rfl, ?_⟩
      have e : 0 + i * Un.sz Ty.int + 0 = i := by show 0 + i * 1 + 0 = i; omega
      rw [e, h'.cellAt i (by simpa using hi), List.getElem?_map, List.getElem?_eq_getElem hi, List.getD_eq_getElem?_getD, List.getElem?_eq_getElem hi]; rfl
    · have hd' : ([ci (xs[i]'hi)] : List (V Un))[j]? = some d := hd
      cases j with
      | zero =>
        simp at hd'; subst hd'
        have e : xs.getD i 0 = xs[i] := by rw [List.getD_eq_getElem?_getD, List.getElem?_eq_getElem hi]; rfl
        show VRel En St w (.int .i64 (xs.getD i 0)) (.s (.int .i64 xs[i]))
        rw [e]
        exact .s _ (oneC_i64.2 (hb _ (List.getElem_mem hi)))
      | succ j => simp at hd'
theorem ret_fresh {St : Nat → Nat → Prop} {w w' : World} {v : Value} {r : List Val} (h : Ret Tryd.prog En St w w' v [.c (.ob 0 0)] [⟨0, .val, r, some 0, true⟩]) : Ext w w' ∧ VRel En (fun b _ => w.heap.size ≤ b ∧ b < w'.heap.size) w' v (.dat (U := Un) Ty.val r) := by
  obtain ⟨hx, g, _, h2, h3, h4, h5⟩ := h
  obtain ⟨hO, _⟩ := h5 0 _ rfl
  obtain ⟨_, o, ho, _, hv⟩ := (h4 : CRel Tryd.prog En g _ w' v (.ob 0 0))
  simp at ho; subst ho
  have hv' : v = .slice (g.tk 0).1 r.length (g.tk 0).2 := hv rfl
  obtain ⟨⟨⟨hc1, hc2⟩, _⟩, hop⟩ := hO
  refine ⟨hx, ?_⟩
  by_cases hr : r = []
  · subst hr; rw [hv']; exact .nil _ _ _
  · have hpos : 0 < r.length := List.length_pos_iff.2 hr
    obtain ⟨b, off, cv, e, hA⟩ := hop (by have : r.length ≤ (g.tk 0).2 := hc1; omega)
    rw [hv', e]
    refine VRel.dat (U := Un) Ty.val (r : List (Un.Den Ty.val)) b off _ cv ⟨hc1, hc2⟩ (fun i j hi hj => ?_) (fun i hi j d hd => ?_)
    · obtain ⟨c1, c2⟩ := hA.cell i j hi hj
      have hω := (c2.2 (Nat.zero_le _)).1
      refine ⟨⟨?_, h3 _ _ _ hω⟩, c1⟩
      rcases Nat.lt_or_ge b w.heap.size with hlt | hge
      · have := (h2 _ _ _ hlt hω).1; simp at this
      · exact hge
    · have h1 := hA.rel i hi j d hd
      have sv : ∀ {St' : Nat → Nat → Prop} {u x : Value}, VRel En g.St w' u (.s x) → VRel En St' w' u (.s x) := fun h => by cases h; exact .s _ (by assumption)
      have hd' : ([ci (r[i]'hi).kind, ci (r[i]'hi).n, cs (r[i]'hi).s] : List (V Un))[j]? = some d := hd
      match j, hd' with
      | 0, hd' => simp at hd'; subst hd'; exact sv h1
      | 1, hd' => simp at hd'; subst hd'; exact sv h1
      | 2, hd' => simp at hd'; subst hd'; exact sv h1
theorem rows_cells {St : Nat → Nat → Prop} {w : World} {v : Value} {keys : List (List Val)} (h : VRel En St w v (.dat (U := Un) Ty.row keys)) :
    ∃ (a : Option Addr) (b off cap : Nat) (kv : Nat → Value), v = .slice a keys.length cap ∧ (keys ≠ [] → a = some ⟨b, off, none⟩ ∧ keys.length ≤ cap) ∧ ∀ i, i < keys.length → St b (off + i) ∧ w.cell? ⟨b, off + i, none⟩ = some (kv i) ∧ VRel En St w (kv i) (.dat (U := Un) Ty.val (keys.getD i [])) := by
  rcases h.inv with ⟨rfl, a, cap, rfl⟩ | ⟨b, o, cap, cv, rfl, hcap, h1, h2⟩
  · exact ⟨a, 0, 0, cap, fun _ => undef, rfl, fun h => (h rfl).elim, fun i hi => by simp at hi⟩
  · refine ⟨_, b, o, cap, fun i => cv i 0, rfl, fun _ => ⟨rfl, hcap.1⟩, fun i hi => ?_⟩
    obtain ⟨g1, g2⟩ := h1 i 0 hi (show (0 : Nat) < 1 from Nat.one_pos)
    have e : o + i * Un.sz Ty.row + 0 = o + i := by show o + i * 1 + 0 = _; omega
    rw [e] at g1 g2
    have g3 := h2 i hi 0 (.dat (U := Un) Ty.val keys[i]) rfl
    have e2 : keys.getD i [] = keys[i] := by rw [List.getD_eq_getElem?_getD, List.getElem?_eq_getElem hi]; rfl
    exact ⟨g1, g2, by rw [e2]; exact g3⟩
theorem vals_cells {St : Nat → Nat → Prop} {w : World} {v : Value} {r : List Val} (h : VRel En St w v (.dat (U := Un) Ty.val r)) :
    ∃ (a : Option Addr) (b off cap : Nat), v = .slice a r.length cap ∧ (r ≠ [] → a = some ⟨b, off, none⟩ ∧ r.length ≤ cap) ∧ ∀ i x, r[i]? = some x → (w.cell? ⟨b, off + i * 3, none⟩ = some (.int .i64 x.kind) ∧ w.cell? ⟨b, off + i * 3 + 1, none⟩ = some (.int .i64 x.n) ∧ w.cell? ⟨b, off + i * 3 + 2, none⟩ = some (.string x.s)) ∧
      (-9223372036854775808 ≤ x.kind ∧ x.kind ≤ 9223372036854775807) ∧ (-9223372036854775808 ≤ x.n ∧ x.n ≤ 9223372036854775807) ∧ x.s.size ≤ maxLen := by
  rcases h.inv with ⟨rfl, a, cap, rfl⟩ | ⟨b, o, cap, cv, rfl, hcap, h1, h2⟩
  · exact ⟨a, 0, 0, cap, rfl, fun h => (h rfl).elim, fun i x hi => by simp at hi⟩
  · refine ⟨_, b, o, cap, rfl, fun _ => ⟨rfl, hcap.1⟩, fun i x hx => ?_⟩
    obtain ⟨hi, rfl⟩ := List.getElem?_eq_some_iff.1 hx
    have e : ∀ j, o + i * Un.sz Ty.val + j = o + i * 3 + j := fun j => rfl
    have c0 := (h1 i 0 hi (show (0 : Nat) < 3 by omega)).2
    have c1 := (h1 i 1 hi (show (1 : Nat) < 3 by omega)).2
    have c2 := (h1 i 2 hi (show (2 : Nat) < 3 by omega)).2
    have r0 := h2 i hi 0 (ci r[i].kind) rfl
    have r1 := h2 i hi 1 (ci r[i].n) rfl
    have r2 := h2 i hi 2 (cs r[i].s) rfl
    rw [e] at c0 c1 c2
    have sv : ∀ {u x : Value}, VRel En St w u (.s x) → u = x ∧ oneC x = true := fun h => by cases h; exact ⟨rfl, by assumption⟩
    have g0 := sv r0
    have g1 := sv r1
    have g2 := sv r2
    rw [g0.1] at c0; rw [g1.1] at c1; rw [g2.1] at c2
    exact ⟨⟨c0, c1, c2⟩, oneC_i64.1 g0.2, oneC_i64.1 g1.2, of_decide_eq_true g2.2⟩
theorem ext_keep {St : Nat → Nat → Prop} {w w' : World} (hx : Ext w w') (hbd : ∀ b o, St b o → b < w.heap.size) : Keeps St w St w' := fun b o hs => ⟨hs, hx.cell (p := ⟨b, o, none⟩) (hbd b o hs)⟩
end Go.Proofs.YtfdnnfbbjiglcaaDoor.B
namespace Go.Proofs
open Go.Shelf
def Tryd.lays169_ren : Go.Shelf.Ren := ⟨fun | 169 => 28 | n => n, fun | 70 => 48 | 9 => 9 | 0 => 0 | 72 => 51 | 37 => 49 | 127 => 65 | 3 => 3 | 5 => 5 | n => n, fun | n => n⟩
theorem Tryd.lays169 : Go.Proofs.Lays.n169 Tryd.prog Tryd.lays169_ren := {
  mixed := by kernel_rfl
  f169 := Tryd.func28.trans (congrArg some (by kernel_rfl))
  t0 := Tryd.underlying0
  a0 := Tryd.isAgg0
  z0 := Tryd.sizeOf0
  v0 := Tryd.zeroValue0
  t3 := Tryd.underlying3
  a3 := Tryd.isAgg3
  z3 := Tryd.sizeOf3
  v3 := Tryd.zeroValue3
  t9 := Tryd.underlying9
  a9 := Tryd.isAgg9
  z9 := Tryd.sizeOf9
  v9 := Tryd.zeroValue9
  t37 := Tryd.underlying49
  a37 := Tryd.isAgg49
  z37 := Tryd.sizeOf49
  v37 := Tryd.zeroValue49
  t70 := Tryd.underlying48
  a70 := Tryd.isAgg48
  z70 := Tryd.sizeOf48
  v70 := Tryd.zeroValue48
  t72 := Tryd.underlying51
  a72 := Tryd.isAgg51
  z72 := Tryd.sizeOf51
  v72 := Tryd.zeroValue51
  t127 := Tryd.underlying65
  a127 := Tryd.isAgg65
  z127 := Tryd.sizeOf65
  v127 := Tryd.zeroValue65 }
theorem Tryd.Builder_Extra_169 : Builder.Extra Tryd.prog Tryd.lays169_ren := {
  sizeBuilder := by kernel_rfl
  liesBuilder := by kernel_rfl
  t5 := Tryd.underlying5
  a5 := Tryd.isAgg5
  z5 := Tryd.sizeOf5
  v5 := Tryd.zeroValue5
  infoByte := by kernel_rfl
  cellsByte := by kernel_rfl
  sizeByte := by kernel_rfl
  neB5 := by decide }
def Tryd.lays106_ren : Go.Shelf.Ren := ⟨fun | 106 => 35 | 213 => 51 | 265 => 61 | n => n, fun | 9 => 9 | 3 => 3 | n => n, fun | n => n⟩
theorem Tryd.lays106 : Go.Proofs.Lays.n106 Tryd.prog Tryd.lays106_ren := {
  mixed := by kernel_rfl
  f106 := Tryd.func35.trans (congrArg some (by kernel_rfl))
  f213 := Tryd.func51.trans (congrArg some (by kernel_rfl))
  f265 := Tryd.func61.trans (congrArg some (by kernel_rfl))
  t3 := Tryd.underlying3
  a3 := Tryd.isAgg3
  z3 := Tryd.sizeOf3
  v3 := Tryd.zeroValue3
  t9 := Tryd.underlying9
  a9 := Tryd.isAgg9
  z9 := Tryd.sizeOf9
  v9 := Tryd.zeroValue9 }
open Go.RowKit in
theorem Tryd.strings_Compare (a b : ByteArray) (w : World) :
    Calls Tryd.prog 35 #[.string a, .string b] w fun e w' => e = .returned (.int .i64 (Lib.compareBytes a.data.toList b.data.toList)) ∧ w' = w := Any.strings_Compare Tryd.lays106 a b w
def Tryd.lays122_ren : Go.Shelf.Ren := ⟨fun | 122 => 34 | 215 => 50 | n => n, fun | 3 => 3 | 4 => 4 | n => n, fun | n => n⟩
theorem Tryd.lays122 : Go.Proofs.Lays.n122 Tryd.prog Tryd.lays122_ren := {
  mixed := by kernel_rfl
  f122 := Tryd.func34.trans (congrArg some (by kernel_rfl))
  f215 := Tryd.func50.trans (congrArg some (by kernel_rfl))
  t3 := Tryd.underlying3
  a3 := Tryd.isAgg3
  z3 := Tryd.sizeOf3
  v3 := Tryd.zeroValue3
  t4 := Tryd.underlying4
  a4 := Tryd.isAgg4
  z4 := Tryd.sizeOf4
  v4 := Tryd.zeroValue4 }
open Go.RowKit in
theorem Tryd.cmp_Compare_int (x y : Int) (w : World) :
    Calls Tryd.prog 34 #[.int .i64 x, .int .i64 y] w fun e w' => e = .returned (.int .i64 (Lib.compareInt x y)) ∧ w' = w := Any.cmp_Compare_int Tryd.lays122 x y w
open Go.RowKit in
theorem Tryd.Builder_String_any_k (B b : Nat) (l : List UInt8) (w : World) (h : Lib.IsBuilderF 51 5 B b (Lib.byteCells l) w) (hBw : B ≤ w.heap.size) :
    Calls Tryd.prog 28 #[.pointer (some ⟨b, 0, none⟩)] w fun e w' => e = .returned (.string ⟨l.toArray⟩) ∧ (Lib.IsBuilderF 51 5 B b (Lib.byteCells l) w' ∧ Below B w w' ∧ Lib.OthersKept 5 (some b) w w') := Any.Builder_String_any_k Tryd.lays169 Tryd.Builder_Extra_169 B b l w h hBw
def Tryd.laysM171_ren : Go.Shelf.Ren := ⟨fun | 171 => 27 | 243 => 38 | 246 => 55 | 283 => 63 | 284 => 64 | 285 => 65 | 286 => 66 | 129 => 49 | 317 => 69 | 318 => 70 | 319 => 71 | 320 => 72 | 337 => 73 | 338 => 74 | n => n, fun | 3 => 3 | 9 => 9 | 2 => 2 | 4 => 4 | 171 => 89 | 0 => 0 | 53 => 76 | 37 => 49 | 5 => 5 | 173 => 91 | 212 => 98 | 51 => 74 | 20 => 20 | 213 => 99 | 46 => 61 | 232 => 100 | 233 => 101 | n => n, fun | 17 => 1 | 18 => 2 | 19 => 3 | n => n⟩
theorem Tryd.laysM171 : Go.Proofs.LaysM.n171 Tryd.prog Tryd.laysM171_ren := {
  mixed := by kernel_rfl
  f129 := Tryd.func49.trans (congrArg some (by kernel_rfl))
  f171 := Tryd.func27.trans (congrArg some (by kernel_rfl))
  f243 := Tryd.func38.trans (congrArg some (by kernel_rfl))
  f246 := Tryd.func55.trans (congrArg some (by kernel_rfl))
  f283 := Tryd.func63.trans (congrArg some (by kernel_rfl))
  f284 := Tryd.func64.trans (congrArg some (by kernel_rfl))
  f285 := Tryd.func65.trans (congrArg some (by kernel_rfl))
  f286 := Tryd.func66.trans (congrArg some (by kernel_rfl))
  f317 := Tryd.func69.trans (congrArg some (by kernel_rfl))
  f318 := Tryd.func70.trans (congrArg some (by kernel_rfl))
  f319 := Tryd.func71.trans (congrArg some (by kernel_rfl))
  f320 := Tryd.func72.trans (congrArg some (by kernel_rfl))
  f337 := Tryd.func73.trans (congrArg some (by kernel_rfl))
  f338 := Tryd.func74.trans (congrArg some (by kernel_rfl))
  t0 := Tryd.underlying0
  a0 := Tryd.isAgg0
  z0 := Tryd.sizeOf0
  v0 := Tryd.zeroValue0
  t2 := Tryd.underlying2
  a2 := Tryd.isAgg2
  z2 := Tryd.sizeOf2
  v2 := Tryd.zeroValue2
  t3 := Tryd.underlying3
  a3 := Tryd.isAgg3
  z3 := Tryd.sizeOf3
  v3 := Tryd.zeroValue3
  t4 := Tryd.underlying4
  a4 := Tryd.isAgg4
  z4 := Tryd.sizeOf4
  v4 := Tryd.zeroValue4
  t5 := Tryd.underlying5
  a5 := Tryd.isAgg5
  z5 := Tryd.sizeOf5
  v5 := Tryd.zeroValue5
  t9 := Tryd.underlying9
  a9 := Tryd.isAgg9
  z9 := Tryd.sizeOf9
  v9 := Tryd.zeroValue9
  t20 := Tryd.underlying20
  a20 := Tryd.isAgg20
  z20 := Tryd.sizeOf20
  v20 := Tryd.zeroValue20
  t37 := Tryd.underlying49
  a37 := Tryd.isAgg49
  z37 := Tryd.sizeOf49
  v37 := Tryd.zeroValue49
  t46 := Tryd.underlying61
  a46 := Tryd.isAgg61
  z46 := Tryd.sizeOf61
  v46 := Tryd.zeroValue61
  t51 := Tryd.underlying74
  a51 := Tryd.isAgg74
  z51 := Tryd.sizeOf74
  v51 := Tryd.zeroValue74
  t53 := Tryd.underlying76
  a53 := Tryd.isAgg76
  z53 := Tryd.sizeOf76
  v53 := Tryd.zeroValue76
  t171 := Tryd.underlying89
  a171 := Tryd.isAgg89
  z171 := Tryd.sizeOf89
  v171 := Tryd.zeroValue89
  t173 := Tryd.underlying91
  a173 := Tryd.isAgg91
  z173 := Tryd.sizeOf91
  v173 := Tryd.zeroValue91
  t212 := Tryd.underlying98
  a212 := Tryd.isAgg98
  z212 := Tryd.sizeOf98
  v212 := Tryd.zeroValue98
  t213 := Tryd.underlying99
  a213 := Tryd.isAgg99
  z213 := Tryd.sizeOf99
  t232 := Tryd.underlying100
  a232 := Tryd.isAgg100
  z232 := Tryd.sizeOf100
  v232 := Tryd.zeroValue100
  t233 := Tryd.underlying101
  a233 := Tryd.isAgg101
  z233 := Tryd.sizeOf101
  v233 := Tryd.zeroValue101
  g17 := by kernel_rfl
  g18 := by kernel_rfl
  g19 := by kernel_rfl
  i0 := by kernel_rfl
  i2 := by kernel_rfl
  i3 := by kernel_rfl
  i4 := by kernel_rfl
  i5 := by kernel_rfl
  i9 := by kernel_rfl
  i20 := by kernel_rfl
  i37 := by kernel_rfl
  i46 := by kernel_rfl
  i51 := by kernel_rfl
  i53 := by kernel_rfl
  i171 := by kernel_rfl
  i173 := by kernel_rfl
  i212 := by kernel_rfl
  i232 := by kernel_rfl
  i233 := by kernel_rfl
  m17 := by kernel_rfl
  m18 := by kernel_rfl
  m19 := by kernel_rfl }
open Go.RowKit Go.Sort Go.Lib in
theorem Tryd.strconv_Itoa (n : Int) (h0 : -9223372036854775808 ≤ n) (h1 : n ≤ 9223372036854775807) (w : World) (htab : Lib.TabIs Tryd.prog w "internal/strconv.uint64pow10" .u64 Lib.pow10Tab) :
    Calls Tryd.prog 27 #[.int .i64 n] w fun e w' => e = .returned (.string ⟨(Lib.itoa n).toArray⟩) ∧ ∃ k os, w' = grow (w.drewN k) os := Any.strconv_Itoa Tryd.laysM171 n h0 h1 w htab
def Tryd.laysSlF6_f20_ren : Go.Shelf.Ren := ⟨fun | 6 => 20 | 15 => 32 | 14 => 31 | 28 => 48 | 29 => 49 | 20 => 40 | 21 => 41 | 22 => 42 | 23 => 43 | 24 => 44 | 25 => 45 | 26 => 46 | 27 => 47 | 46 => 56 | 47 => 57 | 48 => 58 | 49 => 59 | 50 => 60 | 57 => 67 | n => n, fun | 22 => 25 | 24 => 30 | 25 => 43 | 3 => 3 | 39 => 61 | 0 => 0 | 53 => 74 | 55 => 76 | 4 => 4 | 46 => 68 | 45 => 67 | 50 => 41 | 5 => 5 | 9 => 9 | 66 => 83 | 70 => 87 | 76 => 93 | 77 => 94 | n => n, fun | n => n⟩
theorem Tryd.laysSlF6_f20 : Go.Proofs.SlLaysF.n6 Tryd.prog Tryd.laysSlF6_f20_ren := {
  mixed := by kernel_rfl
  f6 := ⟨Tryd.f20.name, by decide, Tryd.func20.trans (congrArg some (by kernel_rfl))⟩
  f14 := ⟨Tryd.f31.name, by decide, Tryd.func31.trans (congrArg some (by kernel_rfl))⟩
  f15 := Tryd.func32.trans (congrArg some (by kernel_rfl))
  f20 := ⟨Tryd.f40.name, by decide, Tryd.func40.trans (congrArg some (by kernel_rfl))⟩
  f21 := ⟨Tryd.f41.name, by decide, Tryd.func41.trans (congrArg some (by kernel_rfl))⟩
  f22 := ⟨Tryd.f42.name, by decide, Tryd.func42.trans (congrArg some (by kernel_rfl))⟩
  f23 := ⟨Tryd.f43.name, by decide, Tryd.func43.trans (congrArg some (by kernel_rfl))⟩
  f24 := ⟨Tryd.f44.name, by decide, Tryd.func44.trans (congrArg some (by kernel_rfl))⟩
  f25 := ⟨Tryd.f45.name, by decide, Tryd.func45.trans (congrArg some (by kernel_rfl))⟩
  f26 := ⟨Tryd.f46.name, by decide, Tryd.func46.trans (congrArg some (by kernel_rfl))⟩
  f27 := ⟨Tryd.f47.name, by decide, Tryd.func47.trans (congrArg some (by kernel_rfl))⟩
  f28 := Tryd.func48.trans (congrArg some (by kernel_rfl))
  f29 := Tryd.func49.trans (congrArg some (by kernel_rfl))
  f46 := ⟨Tryd.f56.name, by decide, Tryd.func56.trans (congrArg some (by kernel_rfl))⟩
  f47 := Tryd.func57.trans (congrArg some (by kernel_rfl))
  f48 := Tryd.func58.trans (congrArg some (by kernel_rfl))
  f49 := ⟨Tryd.f59.name, by decide, Tryd.func59.trans (congrArg some (by kernel_rfl))⟩
  f50 := ⟨Tryd.f60.name, by decide, Tryd.func60.trans (congrArg some (by kernel_rfl))⟩
  f57 := ⟨Tryd.f67.name, by decide, Tryd.func67.trans (congrArg some (by kernel_rfl))⟩
  t0 := Tryd.underlying0
  a0 := Tryd.isAgg0
  z0 := Tryd.sizeOf0
  v0 := Tryd.zeroValue0
  t3 := Tryd.underlying3
  a3 := Tryd.isAgg3
  z3 := Tryd.sizeOf3
  v3 := Tryd.zeroValue3
  t4 := Tryd.underlying4
  a4 := Tryd.isAgg4
  z4 := Tryd.sizeOf4
  v4 := Tryd.zeroValue4
  t5 := Tryd.underlying5
  a5 := Tryd.isAgg5
  z5 := Tryd.sizeOf5
  v5 := Tryd.zeroValue5
  t9 := Tryd.underlying9
  a9 := Tryd.isAgg9
  z9 := Tryd.sizeOf9
  v9 := Tryd.zeroValue9
  t22 := Tryd.underlying25
  a22 := Tryd.isAgg25
  z22 := Tryd.sizeOf25
  v22 := Tryd.zeroValue25
  a24 := Tryd.isAgg30
  z24 := Tryd.sizeOf30
  t25 := Tryd.underlying43
  a25 := Tryd.isAgg43
  z25 := Tryd.sizeOf43
  v25 := Tryd.zeroValue43
  t39 := Tryd.underlying61
  a39 := Tryd.isAgg61
  z39 := Tryd.sizeOf61
  v39 := Tryd.zeroValue61
  t45 := Tryd.underlying67
  a45 := Tryd.isAgg67
  z45 := Tryd.sizeOf67
  v45 := Tryd.zeroValue67
  t46 := Tryd.underlying68
  a46 := Tryd.isAgg68
  z46 := Tryd.sizeOf68
  v46 := Tryd.zeroValue68
  t50 := Tryd.underlying41
  a50 := Tryd.isAgg41
  z50 := Tryd.sizeOf41
  v50 := Tryd.zeroValue41
  t53 := Tryd.underlying74
  a53 := Tryd.isAgg74
  z53 := Tryd.sizeOf74
  v53 := Tryd.zeroValue74
  t55 := Tryd.underlying76
  a55 := Tryd.isAgg76
  z55 := Tryd.sizeOf76
  v55 := Tryd.zeroValue76
  t66 := Tryd.underlying83
  a66 := Tryd.isAgg83
  z66 := Tryd.sizeOf83
  v66 := Tryd.zeroValue83
  t70 := Tryd.underlying87
  a70 := Tryd.isAgg87
  z70 := Tryd.sizeOf87
  v70 := Tryd.zeroValue87
  t76 := Tryd.underlying93
  a76 := Tryd.isAgg93
  z76 := Tryd.sizeOf93
  v76 := Tryd.zeroValue93
  t77 := Tryd.underlying94
  a77 := Tryd.isAgg94
  z77 := Tryd.sizeOf94
  v77 := Tryd.zeroValue94 }
def Tryd.laysSlF06_f20_ren : Go.Shelf.Ren := ⟨fun | 6 => 20 | 15 => 32 | 14 => 31 | 28 => 48 | 29 => 49 | 20 => 40 | 21 => 41 | 22 => 42 | 23 => 43 | 24 => 44 | 25 => 45 | 26 => 46 | 27 => 47 | 46 => 56 | 47 => 57 | 48 => 58 | 49 => 59 | 50 => 60 | 57 => 67 | n => n, fun | 22 => 25 | 24 => 30 | 25 => 43 | 3 => 3 | 39 => 61 | 0 => 0 | 53 => 74 | 55 => 76 | 4 => 4 | 46 => 68 | 45 => 67 | 50 => 41 | 5 => 5 | 9 => 9 | 66 => 83 | 70 => 87 | 76 => 93 | 77 => 94 | n => n, fun | n => n⟩
theorem Tryd.laysSlF06_f20 : Go.Proofs.SlLaysF0.n6 Tryd.prog Tryd.laysSlF06_f20_ren := {
  mixed := by kernel_rfl
  f6 := ⟨Tryd.f20.name, by decide, Tryd.func20.trans (congrArg some (by kernel_rfl))⟩
  f14 := ⟨Tryd.f31.name, by decide, Tryd.func31.trans (congrArg some (by kernel_rfl))⟩
  f15 := Tryd.func32.trans (congrArg some (by kernel_rfl))
  f20 := ⟨Tryd.f40.name, by decide, Tryd.func40.trans (congrArg some (by kernel_rfl))⟩
  f21 := ⟨Tryd.f41.name, by decide, Tryd.func41.trans (congrArg some (by kernel_rfl))⟩
  f22 := ⟨Tryd.f42.name, by decide, Tryd.func42.trans (congrArg some (by kernel_rfl))⟩
  f23 := ⟨Tryd.f43.name, by decide, Tryd.func43.trans (congrArg some (by kernel_rfl))⟩
  f24 := ⟨Tryd.f44.name, by decide, Tryd.func44.trans (congrArg some (by kernel_rfl))⟩
  f25 := ⟨Tryd.f45.name, by decide, Tryd.func45.trans (congrArg some (by kernel_rfl))⟩
  f26 := ⟨Tryd.f46.name, by decide, Tryd.func46.trans (congrArg some (by kernel_rfl))⟩
  f27 := ⟨Tryd.f47.name, by decide, Tryd.func47.trans (congrArg some (by kernel_rfl))⟩
  f28 := Tryd.func48.trans (congrArg some (by kernel_rfl))
  f29 := Tryd.func49.trans (congrArg some (by kernel_rfl))
  f46 := ⟨Tryd.f56.name, by decide, Tryd.func56.trans (congrArg some (by kernel_rfl))⟩
  f47 := Tryd.func57.trans (congrArg some (by kernel_rfl))
  f48 := Tryd.func58.trans (congrArg some (by kernel_rfl))
  f49 := ⟨Tryd.f59.name, by decide, Tryd.func59.trans (congrArg some (by kernel_rfl))⟩
  f50 := ⟨Tryd.f60.name, by decide, Tryd.func60.trans (congrArg some (by kernel_rfl))⟩
  f57 := ⟨Tryd.f67.name, by decide, Tryd.func67.trans (congrArg some (by kernel_rfl))⟩
  t0 := Tryd.underlying0
  a0 := Tryd.isAgg0
  z0 := Tryd.sizeOf0
  v0 := Tryd.zeroValue0
  t3 := Tryd.underlying3
  a3 := Tryd.isAgg3
  z3 := Tryd.sizeOf3
  v3 := Tryd.zeroValue3
  t4 := Tryd.underlying4
  a4 := Tryd.isAgg4
  z4 := Tryd.sizeOf4
  v4 := Tryd.zeroValue4
  t5 := Tryd.underlying5
  a5 := Tryd.isAgg5
  z5 := Tryd.sizeOf5
  v5 := Tryd.zeroValue5
  t9 := Tryd.underlying9
  a9 := Tryd.isAgg9
  z9 := Tryd.sizeOf9
  v9 := Tryd.zeroValue9
  t22 := Tryd.underlying25
  a22 := Tryd.isAgg25
  z22 := Tryd.sizeOf25
  v22 := Tryd.zeroValue25
  t25 := Tryd.underlying43
  a25 := Tryd.isAgg43
  z25 := Tryd.sizeOf43
  v25 := Tryd.zeroValue43
  t39 := Tryd.underlying61
  a39 := Tryd.isAgg61
  z39 := Tryd.sizeOf61
  v39 := Tryd.zeroValue61
  t45 := Tryd.underlying67
  a45 := Tryd.isAgg67
  z45 := Tryd.sizeOf67
  v45 := Tryd.zeroValue67
  t46 := Tryd.underlying68
  a46 := Tryd.isAgg68
  z46 := Tryd.sizeOf68
  v46 := Tryd.zeroValue68
  t50 := Tryd.underlying41
  a50 := Tryd.isAgg41
  z50 := Tryd.sizeOf41
  v50 := Tryd.zeroValue41
  t53 := Tryd.underlying74
  a53 := Tryd.isAgg74
  z53 := Tryd.sizeOf74
  v53 := Tryd.zeroValue74
  t55 := Tryd.underlying76
  a55 := Tryd.isAgg76
  z55 := Tryd.sizeOf76
  v55 := Tryd.zeroValue76
  t66 := Tryd.underlying83
  a66 := Tryd.isAgg83
  z66 := Tryd.sizeOf83
  v66 := Tryd.zeroValue83
  t70 := Tryd.underlying87
  a70 := Tryd.isAgg87
  z70 := Tryd.sizeOf87
  v70 := Tryd.zeroValue87
  t76 := Tryd.underlying93
  a76 := Tryd.isAgg93
  z76 := Tryd.sizeOf93
  v76 := Tryd.zeroValue93
  t77 := Tryd.underlying94
  a77 := Tryd.isAgg94
  z77 := Tryd.sizeOf94
  v77 := Tryd.zeroValue94 }
open Go.RowKit Go.Lib Go.Sort in
theorem Tryd.slices_SortFunc_none {α : Type} [Inhabited α] (p : Option Addr) (cap : Nat) (fv : Value) (w : World) :
    Calls Tryd.prog 20 #[.slice p 0 cap, fv] w fun e w' => e = .returned (.tuple #[]) ∧ w' = w := AnyF.slices_SortFunc_none Tryd.laysSlF06_f20 p cap fv w
open Go.RowKit Go.Lib Go.Sort in
theorem Tryd.slices_SortFunc_total {α : Type} [Inhabited α] (enc : α → Value) (h1 : OneCell enc) (cf : α → α → Int) (hO : SWO (ltOf cf)) (g : Nat) (cb : Array Value) (blk off cap : Nat) (d : Array α) (w : World) (eg : ∀ args w, (callFunc g args).run Tryd.prog w = .ok (.enter g args) w) (hcmp : CmpLays1 Tryd.prog g cb enc cf blk off d.size w) (hH : Holds enc w blk off d) (hblk : blk < w.heap.size) (hsz : d.size < 4611686018427387904) (hT : ∀ x y, (ltOf cf) x y = false → (ltOf cf) y x = false → x = y) :
    Calls Tryd.prog 20 #[.slice (some ⟨blk, off, none⟩) d.size cap, .func (.func g) #[] cb] w fun e w' =>
      e = .returned (.tuple #[]) ∧ ∃ n os, w' = sortWorld enc w blk off n (d.toList.mergeSort fun x y => !(ltOf cf) y x).toArray os := Any.slices_SortFunc_total Tryd.laysSlF6_f20 enc h1 cf hO g cb blk off cap d w eg hcmp hH hblk hsz hT
end Go.Proofs
namespace Go.Proofs.YtfdnnfbbjiglcaaDoor.B
open Go Go.RowKit Go.Shelf
set_option maxRecDepth 1000000
set_option linter.unusedVariables false
def ren_bs : Ren := ⟨fun | 166 => 26 | 240 => 37 | 276 => 54 | n => n, fun | 0 => 0 | 3 => 3 | 4 => 4 | 9 => 9 | 20 => 20 | 37 => 49 | 70 => 48 | 72 => 51 | 75 => 53 | 164 => 80 | 5 => 5 | 80 => 57 | n => n, fun | n => n⟩
theorem lays_bs : Lays.n166 Tryd.prog ren_bs := {
  mixed := by kernel_rfl
  f166 := Tryd.func26.trans (congrArg some (by kernel_rfl))
  f240 := Tryd.func37.trans (congrArg some (by kernel_rfl))
  f276 := Tryd.func54.trans (congrArg some (by kernel_rfl))
  t0 := Tryd.underlying0
  a0 := Tryd.isAgg0
  z0 := Tryd.sizeOf0
  v0 := Tryd.zeroValue0
  t3 := Tryd.underlying3
  a3 := Tryd.isAgg3
  z3 := Tryd.sizeOf3
  v3 := Tryd.zeroValue3
  t4 := Tryd.underlying4
  a4 := Tryd.isAgg4
  z4 := Tryd.sizeOf4
  v4 := Tryd.zeroValue4
  t9 := Tryd.underlying9
  a9 := Tryd.isAgg9
  z9 := Tryd.sizeOf9
  v9 := Tryd.zeroValue9
  t20 := Tryd.underlying20
  a20 := Tryd.isAgg20
  z20 := Tryd.sizeOf20
  v20 := Tryd.zeroValue20
  t37 := Tryd.underlying49
  a37 := Tryd.isAgg49
  z37 := Tryd.sizeOf49
  v37 := Tryd.zeroValue49
  t70 := Tryd.underlying48
  a70 := Tryd.isAgg48
  z70 := Tryd.sizeOf48
  v70 := Tryd.zeroValue48
  t72 := Tryd.underlying51
  a72 := Tryd.isAgg51
  z72 := Tryd.sizeOf51
  v72 := Tryd.zeroValue51
  t75 := Tryd.underlying53
  a75 := Tryd.isAgg53
  z75 := Tryd.sizeOf53
  v75 := Tryd.zeroValue53
  t164 := Tryd.underlying80
  a164 := Tryd.isAgg80
  z164 := Tryd.sizeOf80
  v164 := Tryd.zeroValue80 }
theorem extra_bs : Builder.Extra Tryd.prog ren_bs := {
  sizeBuilder := by kernel_rfl
  liesBuilder := by kernel_rfl
  t5 := Tryd.underlying5
  a5 := Tryd.isAgg5
  z5 := Tryd.sizeOf5
  v5 := Tryd.zeroValue5
  infoByte := by kernel_rfl
  cellsByte := by kernel_rfl
  sizeByte := by kernel_rfl
  neB5 := by decide }
theorem writeString (B b : Nat) (bs : List Value) (s : ByteArray) (w : World) (h : Lib.IsBuilderF 51 5 B b bs w) (hlen : bs.length + s.size ≤ 140737488355328) (hBw : B ≤ w.heap.size) :
    Calls Tryd.prog 26 #[.pointer (some ⟨b, 0, none⟩), .string s] w fun e w' => e = .returned (.tuple #[.int .i64 s.size, .nilIface]) ∧ (Lib.BuilderAtF 51 5 B b (.pointer (some ⟨b, 0, none⟩)) (bs ++ Lib.strCells s) w' ∧ Below B w w' ∧ Lib.OthersKept 5 (some b) w w') :=
  Any.Builder_WriteString_k lays_bs extra_bs B b bs s w h hlen hBw
end Go.Proofs.YtfdnnfbbjiglcaaDoor.B
namespace Go.Proofs.YtfdnnfbbjiglcaaDoor.B
open Go Go.RowKit
set_option maxRecDepth 100000
noncomputable section
attribute [local irreducible] awp ctxK itersK iterK retQ retGQ
def inN (n : Int) : Bool := decide (-1000000000000000 ≤ n ∧ n ≤ 1000000000000000)
def plainB (s : ByteArray) : Bool := s.toList.all (fun b => decide (32 ≤ b.toNat ∧ b.toNat ≤ 126)) && decide (s.size ≤ 100)
def rightV (v : Val) : Bool :=
  if v.kind = 0 then decide (v.n = 0) && decide (v.s.size = 0)
  else if v.kind = 1 then decide (v.n = 0 ∨ v.n = 1) && decide (v.s.size = 0)
  else if v.kind = 2 then inN v.n && decide (v.s.size = 0)
  else if v.kind = 3 then decide (v.n = 0) && plainB v.s
  else false
def cmpI (a b : Int) : Int := if a < b then -1 else if a > b then 1 else 0
def cmpL : List UInt8 → List UInt8 → Int
  | [], [] => 0
  | [], _ :: _ => -1
  | _ :: _, [] => 1
  | a :: l, b :: r => if a = b then cmpL l r else cmpI a.toNat b.toNat
def cmpS (a b : ByteArray) : Int := cmpL a.toList b.toList
def ordV (a b : Val) : Int := if a.kind = b.kind then (if a.n = b.n then cmpS a.s b.s else cmpI a.n b.n) else cmpI a.kind b.kind
def ordR : List Val → List Val → Int
  | [], [] => 0
  | [], _ :: _ => -1
  | _ :: _, [] => 1
  | a :: l, b :: r => if ordV a b = 0 then ordR l r else ordV a b
theorem toList_size (s : ByteArray) : s.toList.length = s.size := by rw [ByteArray.toList_eq, Array.length_toList]; rfl
theorem bytes_ext {a b : ByteArray} (h : a.toList = b.toList) : a = b := by
  rw [ByteArray.toList_eq, ByteArray.toList_eq] at h
  cases a; cases b; simp at h; subst h; rfl
theorem cmpI_zero {a b : Int} : cmpI a b = 0 ↔ a = b := by
  unfold cmpI
  by_cases h1 : a < b
  · rw [if_pos h1]; omega
  · rw [if_neg h1]
    by_cases h2 : a > b
    · rw [if_pos h2]; omega
    · rw [if_neg h2]; omega
theorem cmpL_zero : ∀ {a b : List UInt8}, cmpL a b = 0 ↔ a = b
  | [], [] => by simp [cmpL]
  | [], _ :: _ => by simp [cmpL]
  | _ :: _, [] => by simp [cmpL]
  | a :: l, b :: r => by
    simp only [cmpL]
    split
    · rename_i h; subst h; rw [cmpL_zero]; simp
    · rename_i h
      rw [cmpI_zero]
      constructor
      · intro e; exact absurd (UInt8.toNat_inj.1 (Int.ofNat_inj.1 e)) h
      · intro e; simp at e; exact absurd e.1 h
theorem cmpS_zero {a b : ByteArray} : cmpS a b = 0 ↔ a = b := by
  unfold cmpS; rw [cmpL_zero]
  exact ⟨bytes_ext, fun h => by rw [h]⟩
theorem ordV_zero {a b : Val} : ordV a b = 0 ↔ a = b := by
  cases a; cases b
  unfold ordV
  simp only
  split
  · split
    · rename_i h1 h2; subst h1; subst h2; rw [cmpS_zero]; simp
    · rename_i h1 h2; rw [cmpI_zero]; simp [h2]
  · rename_i h1; rw [cmpI_zero]; simp [h1]
theorem ordR_zero : ∀ {a b : List Val}, ordR a b = 0 ↔ a = b
  | [], [] => by simp [ordR]
  | [], _ :: _ => by simp [ordR]
  | _ :: _, [] => by simp [ordR]
  | a :: l, b :: r => by
    simp only [ordR]
    split
    · rename_i h; rw [ordV_zero] at h; subst h; rw [ordR_zero]; simp
    · rename_i h
      constructor
      · intro e; exact absurd e h
      · intro e; simp at e; rw [e.1] at h; exact absurd (ordV_zero.2 rfl) h
end
end Go.Proofs.YtfdnnfbbjiglcaaDoor.B
namespace Go.Proofs.YtfdnnfbbjiglcaaDoor.B
open Go Go.RowKit
set_option linter.unusedVariables false
def dval (l : List UInt8) : Nat := l.foldl (fun a c => 10 * a + (c.toNat - 48)) 0
theorem dval_snoc (l : List UInt8) (c : UInt8) : dval (l ++ [c]) = 10 * dval l + (c.toNat - 48) := by unfold dval; rw [List.foldl_append]; rfl
theorem dig_toNat {u : Nat} (h : u < 10) : (UInt8.ofNat (48 + u)).toNat = 48 + u := by
  rw [UInt8.toNat_ofNat']; exact Nat.mod_eq_of_lt (by omega)
theorem dval_dec (u : Nat) : dval (Lib.decDigits u) = u ∧ ∀ c ∈ Lib.decDigits u, 48 ≤ c.toNat := by
  induction u using Nat.strongRecOn with
  | _ u ih =>
    by_cases h : u < 10
    · rw [Lib.decDigits, dif_pos h]
      refine ⟨?_, fun c hc => ?_⟩
      · unfold dval; simp only [List.foldl_cons, List.foldl_nil]; rw [dig_toNat h]; omega
      · rw [List.mem_singleton.1 hc, dig_toNat h]; omega
    · rw [Lib.decDigits, dif_neg h]
      obtain ⟨h1, h2⟩ := ih (u / 10) (by omega)
      refine ⟨?_, fun c hc => ?_⟩
      · rw [dval_snoc, h1, dig_toNat (by omega)]; omega
      · rcases List.mem_append.1 hc with hc | hc
        · exact h2 c hc
        · rw [List.mem_singleton.1 hc, dig_toNat (by omega)]; omega
theorem itoa_ne (n : Int) : ∀ c ∈ Lib.itoa n, c ≠ 32 := by
  have key : ∀ u, ∀ c ∈ Lib.decDigits u, c ≠ 32 := fun u c hc e => by
    have := (dval_dec u).2 c hc
    rw [e] at this; simp at this
  unfold Lib.itoa
  split
  · intro c hc
    rcases List.mem_cons.1 hc with rfl | hc
    · decide
    · exact key _ c hc
  · exact key _
theorem itoa_inj {n m : Int} (h : Lib.itoa n = Lib.itoa m) : n = m := by
  have k1 : ∀ u v, Lib.decDigits u = Lib.decDigits v → u = v := fun u v h => by rw [← (dval_dec u).1, ← (dval_dec v).1, h]
  have k2 : ∀ u, (45 : UInt8) ∉ Lib.decDigits u := fun u hm => by
    have := (dval_dec u).2 45 hm
    simp at this
  have k3 : ∀ u v, 45 :: Lib.decDigits u ≠ Lib.decDigits v := fun u v e => k2 v (by rw [← e]; exact List.mem_cons_self)
  unfold Lib.itoa at h
  split at h <;> split at h
  · have := k1 _ _ (List.cons.inj h).2; omega
  · exact (k3 _ _ h).elim
  · exact (k3 _ _ h.symm).elim
  · have := k1 _ _ h; omega
theorem split32 : ∀ {x x' y y' : List UInt8}, (∀ c ∈ x, c ≠ 32) → (∀ c ∈ x', c ≠ 32) → x ++ 32 :: y = x' ++ 32 :: y' → x = x' ∧ y = y'
  | [], [], y, y', _, _, h => ⟨rfl, (List.cons.inj h).2⟩
  | [], c :: x', y, y', _, h2, h => (h2 c List.mem_cons_self (List.cons.inj h).1.symm).elim
  | c :: x, [], y, y', h1, _, h => (h1 c List.mem_cons_self (List.cons.inj h).1).elim
  | c :: x, c' :: x', y, y', h1, h2, h => by
    obtain ⟨e1, e2⟩ := List.cons.inj h
    obtain ⟨r1, r2⟩ := split32 (fun d hd => h1 d (List.mem_cons_of_mem _ hd)) (fun d hd => h2 d (List.mem_cons_of_mem _ hd)) e2
    exact ⟨by rw [e1, r1], r2⟩
def valT (v : Val) : List UInt8 := Lib.itoa v.kind ++ 32 :: (Lib.itoa v.n ++ 32 :: (Lib.itoa (v.s.size : Int) ++ 32 :: v.s.data.toList))
def keyT : List Val → List UInt8
  | [] => []
  | v :: r => valT v ++ keyT r
theorem keyT_append : ∀ (a b : List Val), keyT (a ++ b) = keyT a ++ keyT b
  | [], _ => rfl
  | v :: a, b => by rw [List.cons_append, keyT, keyT, keyT_append a b, List.append_assoc]
theorem valT_inj {v v' : Val} {y y' : List UInt8} (h : valT v ++ y = valT v' ++ y') : v = v' ∧ y = y' := by
  unfold valT at h
  simp only [List.append_assoc, List.cons_append] at h
  obtain ⟨e1, h⟩ := split32 (itoa_ne _) (itoa_ne _) h
  obtain ⟨e2, h⟩ := split32 (itoa_ne _) (itoa_ne _) h
  obtain ⟨e3, h⟩ := split32 (itoa_ne _) (itoa_ne _) h
  have e1' := itoa_inj e1
  have e2' := itoa_inj e2
  have e3' := itoa_inj e3
  obtain ⟨e4, e5⟩ := List.append_inj h (by rw [Array.length_toList, Array.length_toList]; have : v.s.size = v'.s.size := by omega
                                           exact this)
  have e6 : v.s = v'.s := ByteArray.ext (Array.toList_inj.1 e4)
  exact ⟨by cases v; cases v'; simp_all, e5⟩
theorem keyT_inj : ∀ {a b : List Val}, keyT a = keyT b → a = b
  | [], [], _ => rfl
  | [], v :: b, h => by
    have : (keyT (v :: b)).length = 0 := by rw [← h]; rfl
    unfold keyT valT at this
    simp at this
  | v :: a, [], h => by
    have : (keyT (v :: a)).length = 0 := by rw [h]; rfl
    unfold keyT valT at this
    simp at this
  | v :: a, v' :: b, h => by
    obtain ⟨e1, e2⟩ := valT_inj (show valT v ++ keyT a = valT v' ++ keyT b from h)
    rw [e1, keyT_inj e2]
end Go.Proofs.YtfdnnfbbjiglcaaDoor.B
