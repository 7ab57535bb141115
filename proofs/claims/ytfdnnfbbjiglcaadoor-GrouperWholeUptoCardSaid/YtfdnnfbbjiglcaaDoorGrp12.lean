/- Part 12 of the proof: Lnest Lret Shelf Lbuild Sspec Lkeyt Lkeyof Lkeys. -/
import Derived.Maps.AppendAt
import Derived.OneCell
import Derived.Laws.OwnMore
import Derived.Shelf.Strings.Builder1
import Derived.Shelf.Small.Bits
import Derived.Shelf.Small.Strs
import Derived.Shelf.Small.Wraps
import Derived.Shelf.Strings.BuilderF
import Derived.Shelf.Strings.BuilderK
import Derived.Shelf.Strconv.Itoa0
import Derived.Shelf.Strconv.Itoa1
import Derived.Shelf.LaysM
import Derived.Shelf.Strconv.Itoa2
import Derived.Shelf.Strconv.Itoa3
import Derived.Shelf.Strings.BuilderCap
import Derived.Ground.Names2Prog
import Derived.Shelf.Slices.SearchI
import Derived.Test.YtfdnnfbbjiglcaaDoorProg
import Derived.Lib.ItoaLen
import Derived.Deep.RegionHeld3
import Derived.Lib.OthersKept
import Derived.Lib.AppendIntMem
import Derived.Laws.Concat
import Derived.Maps.OwnSet
import Derived.Maps.Views
import Derived.DeepKeys4
import Derived.Test.YtfdnnfbbjiglcaaDoorGrp11
namespace Go.Proofs.YtfdnnfbbjiglcaaDoor.B
open Go Go.RowKit
set_option linter.unusedVariables false
structure Nest (w : World) (base : Nat) (te ti : TypeId) (k q z : Nat) (v : Value) (cs : List Value) (ys : List (Nat × List Value)) : Prop where
  outer : w.ownsRow base te k v ys.length cs
  inner : ∀ i m zs, ys[i]? = some (m, zs) → ∃ u, cs[i * k + q]? = some u ∧ w.ownsRow base ti z u m zs ∧ (u.ownBlock = none ∨ u.ownBlock ≠ v.ownBlock)
  apart : ∀ i j u u', i ≠ j → i < ys.length → j < ys.length → cs[i * k + q]? = some u → cs[j * k + q]? = some u' → u.ownBlock = none ∨ u.ownBlock ≠ u'.ownBlock
theorem Nest.nil (w : World) (base : Nat) (te ti : TypeId) (k q z : Nat) : Nest w base te ti k q z (.slice none 0 0) [] [] :=
  ⟨⟨by simp, .inl ⟨rfl, rfl⟩⟩, fun i m zs h => by simp at h, fun i j u u' _ h => by simp at h⟩
section
variable {w w' : World} {base : Nat} {te ti : TypeId} {k q z : Nat} {v v' : Value} {cs : List Value} {ys : List (Nat × List Value)}
theorem Nest.kept {row : Option Nat} (h : Nest w base te ti k q z v cs ys) (hg : w.grownBy w' row) (hr : ∀ b, row = some b → b < base) : Nest w' base te ti k q z v cs ys := by
  have ne : ∀ {e : TypeId} {s : Nat} {x : Value} {n : Nat} {l : List Value}, w.ownsRow base e s x n l → x.ownBlock = none ∨ x.ownBlock ≠ row := fun {e s x n l} ho => by
    cases hx : x.ownBlock with
    | none => exact .inl rfl
    | some g =>
      refine .inr fun e2 => ?_
      have h1 := (ho.lt g hx).1
      have h2 := hr g e2.symm
      omega
  refine ⟨h.outer.kept hg (ne h.outer), fun i m zs hi => ?_, h.apart⟩
  obtain ⟨u, h1, h2, h3⟩ := h.inner i m zs hi
  exact ⟨u, h1, h2.kept hg (ne h2), h3⟩
theorem Nest.push (h : Nest w base te ti k q z v cs ys) (es : List Value) {u0 : Value} (hes : es.length = k) (hq : es[q]? = some u0) (h0 : w'.ownsRow base ti z u0 0 []) (hf : ∀ b, u0.ownBlock = some b → w.heap.size ≤ b ∧ v'.ownBlock ≠ some b)
    (ho : w'.ownsRow base te k v' (ys.length + 1) (cs ++ es)) (hg : w.grownBy w' v.ownBlock)
    (hb : v'.ownBlock = v.ownBlock ∨ ∃ b, v'.ownBlock = some b ∧ w.heap.size ≤ b) : Nest w' base te ti k q z v' (cs ++ es) (ys ++ [(0, [])]) := by
  have hcl : cs.length = ys.length * k := h.outer.1
  have hqk : q < k := by rw [← hes]; exact (List.getElem?_eq_some_iff.1 hq).1
  have at1 : ∀ i, i < ys.length → (cs ++ es)[i * k + q]? = cs[i * k + q]? := fun i hi => by
    refine List.getElem?_append_left ?_
    have : (i + 1) * k ≤ ys.length * k := Nat.mul_le_mul_right _ hi
    rw [Nat.add_mul] at this; omega
  have at2 : (cs ++ es)[ys.length * k + q]? = some u0 := by
    rw [List.getElem?_append_right (by omega), hcl, Nat.add_sub_cancel_left]; exact hq
  have low : ∀ {i : Nat} {u : Value}, i < ys.length → cs[i * k + q]? = some u → ∀ g, u.ownBlock = some g → g < w.heap.size := fun {i u} hi hu g hx => by
    obtain ⟨p, hp⟩ : ∃ p, ys[i]? = some p := ⟨_, List.getElem?_eq_getElem hi⟩
    obtain ⟨y, y1, y2, _⟩ := h.inner i p.1 p.2 hp
    rw [hu] at y1
    obtain rfl := Option.some.inj y1
    exact (y2.lt g hx).2
  refine ⟨by rw [List.length_append, List.length_singleton]; exact ho, fun i m zs hi => ?_, fun i j u u' hne hi hj h1 h2 => ?_⟩
  · by_cases hl : i < ys.length
    · rw [List.getElem?_append_left hl] at hi
      obtain ⟨u, g1, g2, g3⟩ := h.inner i m zs hi
      refine ⟨u, by rw [at1 i hl]; exact g1, g2.kept hg g3, ?_⟩
      rcases hb with e | ⟨b, e, hbl⟩
      · rw [e]; exact g3
      · cases hx : u.ownBlock with
        | none => exact .inl rfl
        | some g =>
          refine .inr fun e2 => ?_
          rw [e] at e2
          have := (g2.lt g hx).2
          have := Option.some.inj e2
          omega
    · have hl2 : i = ys.length := by
        have := (List.getElem?_eq_some_iff.1 hi).1
        rw [List.length_append, List.length_singleton] at this; omega
      subst hl2
      rw [List.getElem?_append_right (Nat.le_refl _), Nat.sub_self] at hi
      simp only [List.getElem?_cons_zero, Option.some.injEq, Prod.mk.injEq] at hi
      obtain ⟨rfl, rfl⟩ := hi
      refine ⟨u0, at2, h0, ?_⟩
      cases hx : u0.ownBlock with
      | none => exact .inl rfl
      | some g => exact .inr fun e => (hf g hx).2 e.symm
  · rw [List.length_append, List.length_singleton] at hi hj
    have far : ∀ {i : Nat} {u : Value}, i < ys.length → cs[i * k + q]? = some u → u.ownBlock = none ∨ u.ownBlock ≠ u0.ownBlock := fun {i u} hi hu => by
      cases hx : u.ownBlock with
      | none => exact .inl rfl
      | some g =>
        refine .inr fun e => ?_
        have h1 := low hi hu g hx
        have h2 := (hf g e.symm).1
        omega
    by_cases hli : i < ys.length
    · rw [at1 i hli] at h1
      by_cases hlj : j < ys.length
      · rw [at1 j hlj] at h2; exact h.apart i j u u' hne hli hlj h1 h2
      · have : j = ys.length := by omega
        subst this
        rw [at2] at h2
        obtain rfl := Option.some.inj h2
        exact far hli h1
    · have : i = ys.length := by omega
      subst this
      rw [at2] at h1
      obtain rfl := Option.some.inj h1
      rw [at1 j (by omega)] at h2
      rcases far (by omega) h2 with e | e
      · cases hx : u0.ownBlock with
        | none => exact .inl rfl
        | some g => rw [e]; exact .inr (by simp)
      · exact .inr fun e2 => e e2.symm
theorem Nest.get (h : Nest w base te ti k q z v cs ys) (hk : 0 < k) (hq : q < k) {i m : Nat} {zs : List Value} (hi : ys[i]? = some (m, zs)) :
    ∃ g cap u, v = .slice (some ⟨g, 0, none⟩) ys.length cap ∧ base ≤ g ∧ cs[i * k + q]? = some u ∧ w.cell? ⟨g, i * k + q, none⟩ = some u ∧ w.frozen? ⟨g, i * k + q, none⟩ = false ∧ w.ownsRow base ti z u m zs ∧ (u.ownBlock = none ∨ u.ownBlock ≠ v.ownBlock) := by
  obtain ⟨u, h1, h2, h3⟩ := h.inner i m zs hi
  have hl := (List.getElem?_eq_some_iff.1 hi).1
  have ho := h.outer
  obtain ⟨hcl, ⟨rfl, h0⟩ | ⟨g, cap, cur, rfl, hge, _⟩⟩ := ho
  · omega
  · have hlt : i * k + q < ys.length * k := by
      have : (i + 1) * k ≤ ys.length * k := Nat.mul_le_mul_right _ hl
      rw [Nat.add_mul] at this; omega
    exact ⟨g, cap, u, rfl, hge, h1, by rw [h.outer.cellAt _ hlt]; exact h1, h.outer.frozenAt _, h2, h3⟩
theorem Nest.app (h : Nest w base te ti k q z v cs ys) (hk : 0 < k) (hqk : q < k) {i m m' : Nat} {zs zs' : List Value} {g cap : Nat} {u u' : Value} (hi : ys[i]? = some (m, zs)) (hv : v = .slice (some ⟨g, 0, none⟩) ys.length cap) (hu : cs[i * k + q]? = some u)
    (ho : w'.ownsRow base ti z u' m' zs') (hg : w.grownBy w' u.ownBlock) (hb : u'.ownBlock = u.ownBlock ∨ u'.ownBlock = some w.heap.size) :
    Nest (w'.setCell ⟨g, i * k + q, none⟩ u') base te ti k q z v (cs.set (i * k + q) u') (ys.set i (m', zs')) := by
  obtain ⟨u0, g1, g2, g3⟩ := h.inner i m zs hi
  rw [hu] at g1
  obtain rfl := Option.some.inj g1
  have hl := (List.getElem?_eq_some_iff.1 hi).1
  have hvb : v.ownBlock = some g := by rw [hv]; rfl
  have hgl := (h.outer.lt g hvb).2
  have hne : v.ownBlock = none ∨ v.ownBlock ≠ u.ownBlock := by
    rcases g3 with e | e
    · rw [e, hvb]; exact .inr (by simp)
    · exact .inr fun e2 => e e2.symm
  have hsz := hg.size
  have hu' : ∀ {x : Value}, (x.ownBlock = none ∨ x.ownBlock ≠ u.ownBlock) → (∀ b, x.ownBlock = some b → b < w.heap.size) → x.ownBlock = none ∨ x.ownBlock ≠ u'.ownBlock := fun {x} hx hlt => by
    rcases hb with e | e
    · rw [e]; exact hx
    · cases hxb : x.ownBlock with
      | none => exact .inl rfl
      | some b =>
        refine .inr fun e2 => ?_
        rw [e] at e2
        have := hlt b hxb
        have := Option.some.inj e2
        omega
  have hug : u'.ownBlock ≠ some g := fun e2 => by
    rcases hu' hne (fun b hb2 => (h.outer.lt b hb2).2) with e | e
    · rw [hvb] at e; exact absurd e (by simp)
    · rw [hvb] at e; exact e e2.symm
  have hpos : ∀ j, j < ys.length → j * k + q < cs.length := fun j hj => by
    rw [h.outer.1]
    have : (j + 1) * k ≤ ys.length * k := Nat.mul_le_mul_right _ hj
    rw [Nat.add_mul] at this; omega
  have hinj : ∀ j, j ≠ i → j * k + q ≠ i * k + q := fun j hj e => hj (Nat.eq_of_mul_eq_mul_right hk (by omega))
  have hcs : ∀ j, (cs.set (i * k + q) u')[j * k + q]? = if j = i then some u' else cs[j * k + q]? := fun j => by
    rw [List.getElem?_set]
    by_cases e : j = i
    · subst e; rw [if_pos rfl, if_pos rfl, if_pos (hpos j hl)]
    · rw [if_neg (fun e2 => hinj j e e2.symm), if_neg e]
  refine ⟨?_, fun j n ws hj => ?_, fun j j' x x' hne2 hj hj' h1 h2 => ?_⟩
  · rw [List.length_set]
    have h1 := h.outer.kept hg hne
    rw [hv] at h1 ⊢
    exact (h1.stored _ _).1
  · rw [List.getElem?_set] at hj
    by_cases e : i = j
    · subst e
      rw [if_pos rfl, if_pos hl] at hj
      simp only [Option.some.injEq, Prod.mk.injEq] at hj
      obtain ⟨rfl, rfl⟩ := hj
      refine ⟨u', by rw [hcs, if_pos rfl], ownsRow_setCell_other ho hug u', ?_⟩
      rw [hvb]
      exact .inr hug
    · rw [if_neg e] at hj
      obtain ⟨x, x1, x2, x3⟩ := h.inner j n ws hj
      have hlj := (List.getElem?_eq_some_iff.1 hj).1
      refine ⟨x, by rw [hcs, if_neg (fun e2 => e e2.symm)]; exact x1, ?_, x3⟩
      refine ownsRow_setCell_other (x2.kept hg (h.apart j i x u (fun e2 => e e2.symm) hlj hl x1 hu)) (fun e2 => ?_) u'
      rcases x3 with e3 | e3
      · rw [e3] at e2; simp at e2
      · rw [hvb] at e3; exact e3 e2
  · rw [List.length_set] at hj hj'
    rw [hcs] at h1 h2
    by_cases e : j = i
    · rw [if_pos e] at h1
      have hj2 : j' ≠ i := fun e2 => hne2 (e.trans e2.symm)
      rw [if_neg hj2] at h2
      obtain rfl := Option.some.inj h1
      subst e
      obtain ⟨p, hp⟩ : ∃ p, ys[j']? = some p := ⟨_, List.getElem?_eq_getElem hj'⟩
      obtain ⟨y, y1, y2, _⟩ := h.inner j' p.1 p.2 hp
      rw [h2] at y1
      obtain rfl := Option.some.inj y1
      have := hu' (h.apart j' j x' u (fun e2 => hj2 e2) hj' hj h2 hu) (fun b hb2 => (y2.lt b hb2).2)
      rcases this with e3 | e3
      · cases hx : u'.ownBlock with
        | none => exact .inl rfl
        | some b => rw [e3]; exact .inr (by simp)
      · exact .inr fun e4 => e3 e4.symm
    · rw [if_neg e] at h1
      by_cases e' : j' = i
      · rw [if_pos e'] at h2
        obtain rfl := Option.some.inj h2
        subst e'
        obtain ⟨p, hp⟩ : ∃ p, ys[j]? = some p := ⟨_, List.getElem?_eq_getElem hj⟩
        obtain ⟨y, y1, y2, _⟩ := h.inner j p.1 p.2 hp
        rw [h1] at y1
        obtain rfl := Option.some.inj y1
        exact hu' (h.apart j j' x u e hj hj' h1 hu) (fun b hb2 => (y2.lt b hb2).2)
      · rw [if_neg e'] at h2
        exact h.apart j j' x x' hne2 hj hj' h1 h2
end
end Go.Proofs.YtfdnnfbbjiglcaaDoor.B
namespace Go.Proofs.YtfdnnfbbjiglcaaDoor.B
open Go Go.RowKit Go.Shelf
set_option maxRecDepth 1000000
set_option linter.unusedVariables false
def StN (St : Nat → Nat → Prop) (w w' : World) (v : Value) (b o : Nat) : Prop := (b < w.heap.size ∧ St b o) ∨ (w.heap.size ≤ b ∧ b < w'.heap.size ∧ v.ownBlock ≠ some b)
open Classical in
theorem ret_own2 {St : Nat → Nat → Prop} {w w' : World} {v : Value} {e : TypeId} {τ : Ty} {xs : List (Den τ)} {news : List Value} (hext : Ext w w') (hbd : ∀ b o, St b o → b < w.heap.size) (hlen : xs.length ≤ 9223372036854775807)
    (hrow : w'.ownsRow w.heap.size e (sz τ) v xs.length news) (hrel : ∀ i (hi : i < xs.length) j d, (enc τ xs[i])[j]? = some d → ∃ u, news[i * sz τ + j]? = some u ∧ VRel En (StN St w w' v) w' u d) :
    Ret Tryd.prog En St w w' v [.c (.ob 0 0)] [⟨0, τ, xs, some 0, true⟩] := by
  refine ⟨hext, ?_⟩
  obtain ⟨hnl, ⟨rfl, hn0⟩ | ⟨gb, cap, cur, rfl, hge, hheap, hcap, hmax, hsz, htake⟩⟩ := hrow
  · have hx : xs = [] := List.eq_nil_of_length_eq_zero hn0
    subst hx
    refine ⟨⟨fun _ => 0, fun _ => False, fun b o => if St b o then some .st else none, fun _ => (none, 0)⟩, fun _ h => h, ?_, ?_, ?_, ?_⟩
    · intro b o x _ hx
      have hx' : (if St b o then some Own.st else none) = some x := hx
      split at hx'
      · rename_i hs; simp at hx'; exact ⟨hx'.symm, hs⟩
      · simp at hx'
    · intro b o x hx
      have hx' : (if St b o then some Own.st else none) = some x := hx
      split at hx'
      · rename_i hs; exact Nat.lt_of_lt_of_le (hbd b o hs) hext.le
      · simp at hx'
    · exact ⟨rfl, _, rfl, Nat.le_refl _, fun _ => rfl⟩
    · intro k o ho
      cases k with
      | zero => simp at ho; subst ho; exact ⟨⟨⟨⟨Nat.le_refl _, by simp⟩, fun f hf => by simp at hf; subst hf; exact Nat.le_refl _⟩, fun h => absurd h (Nat.lt_irrefl 0)⟩, rfl⟩
      | succ k => simp at ho
  · have hcell : ∀ q, q < cap * sz τ → w'.cell? ⟨gb, q, none⟩ = cur[q]? ∧ (∃ u, w'.cell? ⟨gb, q, none⟩ = some u) ∧ stuck w' ⟨gb, q, none⟩ = false := by
      intro q hq
      have h1 : w'.cell? ⟨gb, q, none⟩ = cur[q]? := by simp [World.cell?, hheap]
      refine ⟨h1, ⟨cur[q]'(by omega), by rw [h1]; exact Array.getElem?_eq_getElem _⟩, ?_⟩
      simp [stuck, World.shape?, World.frozen?, hheap]
    have hgb : gb < w'.heap.size := (Array.getElem?_eq_some_iff.1 hheap).1
    let g : G := ⟨fun _ => 0, fun _ => False, fun b o => if b < w.heap.size then (if St b o then some .st else none) else if b = gb then (if o < cap * sz τ then some (.obj 0) else none) else if b < w'.heap.size then some .st else none, fun _ => (some ⟨gb, 0, none⟩, cap)⟩
    have hω : ∀ o, o < cap * sz τ → g.ω gb o = some (.obj 0) := fun o ho => by
      show (if gb < w.heap.size then _ else _) = _
      rw [if_neg (by omega), if_pos rfl, if_pos ho]
    have hst : Keeps (StN St w w' (.slice (some ⟨gb, 0, none⟩) xs.length cap)) w' g.St w' := fun b o hs => by
      refine ⟨?_, rfl⟩
      show (if b < w.heap.size then _ else _) = _
      rcases hs with ⟨h1, h2⟩ | ⟨h1, h2, h3⟩
      · rw [if_pos h1, if_pos h2]
      · rw [if_neg (by omega), if_neg (fun e => h3 (by rw [e]; rfl)), if_pos h2]
    refine ⟨g, fun _ h => h, ?_, ?_, ?_, ?_⟩
    · intro b o x hb hx
      have hx' : (if b < w.heap.size then (if St b o then some Own.st else none) else _) = some x := hx
      rw [if_pos hb] at hx'
      split at hx'
      · rename_i hs; simp at hx'; exact ⟨hx'.symm, hs⟩
      · simp at hx'
    · intro b o x hx
      have hx' : (if b < w.heap.size then (if St b o then some Own.st else none) else if b = gb then (if o < cap * sz τ then some (Own.obj 0) else none) else if b < w'.heap.size then some Own.st else none) = some x := hx
      split at hx'
      · rename_i hb; exact Nat.lt_of_lt_of_le hb hext.le
      · split at hx'
        · rename_i hh; rw [hh]; exact hgb
        · split at hx'
          · assumption
          · simp at hx'
    · exact ⟨rfl, _, rfl, Nat.le_refl _, fun _ => rfl⟩
    · intro k o ho
      cases k with
      | succ k => simp at ho
      | zero =>
        simp at ho; subst ho
        refine ⟨⟨⟨⟨hcap, hlen⟩, fun f hf => by simp at hf; subst hf; exact Nat.zero_le _⟩, fun _ => ⟨gb, 0, fun i j => cur.getD (i * sz τ + j) undef, rfl, ⟨?_, ?_, ?_⟩⟩⟩, rfl⟩
        · intro i j hi hj
          have hlt : i * sz τ + j < cap * sz τ := by
            have h1 : (i + 1) * sz τ ≤ cap * sz τ := Nat.mul_le_mul_right _ (Nat.le_trans hi hcap)
            have hj' : j < sz τ := hj
            rw [Nat.add_mul] at h1; omega
          obtain ⟨c1, _, c3⟩ := hcell _ hlt
          have e0 : 0 + i * Un.sz τ + j = i * sz τ + j := by show 0 + i * sz τ + j = _; omega
          refine ⟨?_, ?_⟩
          · show w'.cell? ⟨gb, 0 + i * Un.sz τ + j, none⟩ = _
            rw [e0, c1, Array.getD_eq_getD_getElem?, Array.getElem?_eq_getElem (by omega)]; rfl
          · show Mode g w' 0 (some 0) i gb (0 + i * Un.sz τ + j)
            rw [e0]
            exact ⟨fun h => absurd h (Nat.not_lt_zero _), fun _ => ⟨hω _ hlt, c3⟩⟩
        · intro i hi j d hd
          obtain ⟨u, hu, hr⟩ := hrel i hi j d hd
          have hj : j < sz τ := by have h0 : j < (enc τ (xs[i]'hi)).length := (List.getElem?_eq_some_iff.1 hd).1; rwa [enc_len] at h0
          have hlt : i * sz τ + j < xs.length * sz τ := by
            have h1 : (i + 1) * sz τ ≤ xs.length * sz τ := Nat.mul_le_mul_right _ hi
            rw [Nat.add_mul] at h1; omega
          have hu2 : cur.getD (i * sz τ + j) undef = u := by
            rw [← htake, List.getElem?_take_of_lt hlt, Array.getElem?_toList] at hu
            rw [Array.getD_eq_getD_getElem?, hu]; rfl
          show VRel En g.St w' (cur.getD (i * sz τ + j) undef) d
          rw [hu2]; exact hr.mono hst
        · intro _ x hx hx'
          have hx2 : x < cap * sz τ := hx'
          obtain ⟨_, c2, c3⟩ := hcell x hx2
          show g.ω gb (0 + x) = _ ∧ _
          rw [Nat.zero_add]
          exact ⟨hω x hx2, c2, c3⟩
open Classical in
theorem ret_dat {St : Nat → Nat → Prop} {w w' : World} {v : Value} {τ : Ty} {xs : List (Den τ)} (hext : Ext w w') (hbd : ∀ b o, St b o → b < w.heap.size) (h : VRel En (StN St w w' .nilFunc) w' v (.dat τ xs)) :
    Ret Tryd.prog En St w w' v [.c (.sl (U := Un) τ xs false)] [] := by
  refine ⟨hext, ⟨fun _ => 0, fun _ => False, fun b o => if StN St w w' .nilFunc b o then some .st else none, fun _ => (none, 0)⟩, fun _ h => h, ?_, ?_, ?_, ?_⟩
  · intro b o x hb hx
    have hx' : (if StN St w w' .nilFunc b o then some Own.st else none) = some x := hx
    split at hx'
    · rename_i hs
      simp at hx'
      rcases hs with ⟨_, h2⟩ | ⟨h1, _⟩
      · exact ⟨hx'.symm, h2⟩
      · omega
    · simp at hx'
  · intro b o x hx
    have hx' : (if StN St w w' .nilFunc b o then some Own.st else none) = some x := hx
    split at hx'
    · rename_i hs
      rcases hs with ⟨h1, _⟩ | ⟨_, h2, _⟩
      · exact Nat.lt_of_lt_of_le h1 hext.le
      · exact h2
    · simp at hx'
  · refine ⟨h.mono fun b o hs => ⟨?_, rfl⟩, fun h => by simp at h⟩
    show (if StN St w w' .nilFunc b o then some Own.st else none) = some .st
    rw [if_pos hs]
  · intro k o ho; simp at ho
theorem ints_vrel {St : Nat → Nat → Prop} {w : World} {base : Nat} {ti : TypeId} {u : Value} {xs : List Int} (h : w.ownsRow base ti 1 u xs.length (xs.map (Value.int .i64))) (hb : ∀ x ∈ xs, -9223372036854775808 ≤ x ∧ x ≤ 9223372036854775807) (hl : xs.length ≤ 9223372036854775807)
    (hs : ∀ b o, u.ownBlock = some b → St b o) : VRel En St w u (.dat (U := Un) Ty.int xs) := by
  have h' := h
  obtain ⟨_, ⟨rfl, h0⟩ | ⟨g, cap, cur, rfl, _, _, hcap, _⟩⟩ := h
  · have : xs = [] := List.eq_nil_of_length_eq_zero h0
    subst this
    exact .nil _ _ _
  · refine VRel.dat (U := Un) Ty.int (xs : List (Un.Den Ty.int)) g 0 cap (fun i j => .int .i64 (xs.getD i 0)) ⟨hcap, hl⟩ (fun i j hi hj => ?_) (fun i hi j d hd => ?_)
    · have hj0 : j = 0 := by have : j < 1 := hj; omega
      subst hj0
      refine ⟨hs _ _ rfl, ?_⟩
      have e : 0 + i * Un.sz Ty.int + 0 = i := by show 0 + i * 1 + 0 = i; omega
      rw [e, h'.cellAt i (by simpa using hi), List.getElem?_map, List.getElem?_eq_getElem hi, List.getD_eq_getElem?_getD, List.getElem?_eq_getElem hi]; rfl
    · have hd' : ([ci (xs[i]'hi)] : List (V Un))[j]? = some d := hd
      cases j with
      | zero =>
        simp at hd'; subst hd'
        have e : xs.getD i 0 = xs[i] := by rw [List.getD_eq_getElem?_getD, List.getElem?_eq_getElem hi]; rfl
        show VRel En St w (.int .i64 (xs.getD i 0)) (.s (.int .i64 xs[i]))
        rw [e]
        exact .s _ (oneC_i64.2 (hb _ (List.getElem_mem hi)))
      | succ j => simp at hd'
theorem ret_fresh {St : Nat → Nat → Prop} {w w' : World} {v : Value} {r : List Val} (h : Ret Tryd.prog En St w w' v [.c (.ob 0 0)] [⟨0, .val, r, some 0, true⟩]) : Ext w w' ∧ VRel En (fun b _ => w.heap.size ≤ b ∧ b < w'.heap.size) w' v (.dat (U := Un) Ty.val r) := by
  obtain ⟨hx, g, _, h2, h3, h4, h5⟩ := h
  obtain ⟨hO, _⟩ := h5 0 _ rfl
  obtain ⟨_, o, ho, _, hv⟩ := (h4 : CRel Tryd.prog En g _ w' v (.ob 0 0))
  simp at ho; subst ho
  have hv' : v = .slice (g.tk 0).1 r.length (g.tk 0).2 := hv rfl
  obtain ⟨⟨⟨hc1, hc2⟩, _⟩, hop⟩ := hO
  refine ⟨hx, ?_⟩
  by_cases hr : r = []
  · subst hr; rw [hv']; exact .nil _ _ _
  · have hpos : 0 < r.length := List.length_pos_iff.2 hr
    obtain ⟨b, off, cv, e, hA⟩ := hop (by have : r.length ≤ (g.tk 0).2 := hc1; omega)
    rw [hv', e]
    refine VRel.dat (U := Un) Ty.val (r : List (Un.Den Ty.val)) b off _ cv ⟨hc1, hc2⟩ (fun i j hi hj => ?_) (fun i hi j d hd => ?_)
    · obtain ⟨c1, c2⟩ := hA.cell i j hi hj
      have hω := (c2.2 (Nat.zero_le _)).1
      refine ⟨⟨?_, h3 _ _ _ hω⟩, c1⟩
      rcases Nat.lt_or_ge b w.heap.size with hlt | hge
      · have := (h2 _ _ _ hlt hω).1; simp at this
      · exact hge
    · have h1 := hA.rel i hi j d hd
      have sv : ∀ {St' : Nat → Nat → Prop} {u x : Value}, VRel En g.St w' u (.s x) → VRel En St' w' u (.s x) := fun h => by cases h; exact .s _ (by assumption)
      have hd' : ([ci (r[i]'hi).kind, ci (r[i]'hi).n, cs (r[i]'hi).s] : List (V Un))[j]? = some d := hd
      match j, hd' with
      | 0, hd' => simp at hd'; subst hd'; exact sv h1
      | 1, hd' => simp at hd'; subst hd'; exact sv h1
      | 2, hd' => simp at hd'; subst hd'; exact sv h1
theorem call_int {f : FuncId} {F : FnC Un} (hok : FnOK f F) {args : List (D Un)} {ob : List Prop} {k : IntKind} {n : Int} (hF : F args = some (ob, [.c (.s (.int k n))], [])) (hob : ∀ p ∈ ob, p) {w : World} {St : Nat → Nat → Prop} {vs : List Value} (hbd : ∀ b o, St b o → b < w.heap.size) (hrel : All2 (DRel Tryd.prog En St w) vs args) (hld : Laid w) :
    Calls Tryd.prog f vs.toArray w fun e w' => e = .returned (.int k n) ∧ Ext w w' := by
  refine ((hok args ob _ [] hF hob).1 w St vs hbd hrel hld).mono ?_
  rintro e w' ⟨v, rfl, hx, g, -, -, -, hr, -⟩
  exact ⟨by rw [show v = .int k n from hr.1], hx⟩
theorem rows_cells {St : Nat → Nat → Prop} {w : World} {v : Value} {keys : List (List Val)} (h : VRel En St w v (.dat (U := Un) Ty.row keys)) :
    ∃ (a : Option Addr) (b off cap : Nat) (kv : Nat → Value), v = .slice a keys.length cap ∧ (keys ≠ [] → a = some ⟨b, off, none⟩ ∧ keys.length ≤ cap) ∧ ∀ i, i < keys.length → St b (off + i) ∧ w.cell? ⟨b, off + i, none⟩ = some (kv i) ∧ VRel En St w (kv i) (.dat (U := Un) Ty.val (keys.getD i [])) := by
  rcases h.inv with ⟨rfl, a, cap, rfl⟩ | ⟨b, o, cap, cv, rfl, hcap, h1, h2⟩
  · exact ⟨a, 0, 0, cap, fun _ => undef, rfl, fun h => (h rfl).elim, fun i hi => by simp at hi⟩
  · refine ⟨_, b, o, cap, fun i => cv i 0, rfl, fun _ => ⟨rfl, hcap.1⟩, fun i hi => ?_⟩
    obtain ⟨g1, g2⟩ := h1 i 0 hi (show (0 : Nat) < 1 from Nat.one_pos)
    have e : o + i * Un.sz Ty.row + 0 = o + i := by show o + i * 1 + 0 = _; omega
    rw [e] at g1 g2
    have g3 := h2 i hi 0 (.dat (U := Un) Ty.val keys[i]) rfl
    have e2 : keys.getD i [] = keys[i] := by rw [List.getD_eq_getElem?_getD, List.getElem?_eq_getElem hi]; rfl
    exact ⟨g1, g2, by rw [e2]; exact g3⟩
theorem vals_cells {St : Nat → Nat → Prop} {w : World} {v : Value} {r : List Val} (h : VRel En St w v (.dat (U := Un) Ty.val r)) :
    ∃ (a : Option Addr) (b off cap : Nat), v = .slice a r.length cap ∧ (r ≠ [] → a = some ⟨b, off, none⟩ ∧ r.length ≤ cap) ∧ ∀ i x, r[i]? = some x → (w.cell? ⟨b, off + i * 3, none⟩ = some (.int .i64 x.kind) ∧ w.cell? ⟨b, off + i * 3 + 1, none⟩ = some (.int .i64 x.n) ∧ w.cell? ⟨b, off + i * 3 + 2, none⟩ = some (.string x.s)) ∧
      (-9223372036854775808 ≤ x.kind ∧ x.kind ≤ 9223372036854775807) ∧ (-9223372036854775808 ≤ x.n ∧ x.n ≤ 9223372036854775807) ∧ x.s.size ≤ maxLen := by
  rcases h.inv with ⟨rfl, a, cap, rfl⟩ | ⟨b, o, cap, cv, rfl, hcap, h1, h2⟩
  · exact ⟨a, 0, 0, cap, rfl, fun h => (h rfl).elim, fun i x hi => by simp at hi⟩
  · refine ⟨_, b, o, cap, rfl, fun _ => ⟨rfl, hcap.1⟩, fun i x hx => ?_⟩
    obtain ⟨hi, rfl⟩ := List.getElem?_eq_some_iff.1 hx
    have e : ∀ j, o + i * Un.sz Ty.val + j = o + i * 3 + j := fun j => rfl
    have c0 := (h1 i 0 hi (show (0 : Nat) < 3 by omega)).2
    have c1 := (h1 i 1 hi (show (1 : Nat) < 3 by omega)).2
    have c2 := (h1 i 2 hi (show (2 : Nat) < 3 by omega)).2
    have r0 := h2 i hi 0 (ci r[i].kind) rfl
    have r1 := h2 i hi 1 (ci r[i].n) rfl
    have r2 := h2 i hi 2 (cs r[i].s) rfl
    rw [e] at c0 c1 c2
    have sv : ∀ {u x : Value}, VRel En St w u (.s x) → u = x ∧ oneC x = true := fun h => by cases h; exact ⟨rfl, by assumption⟩
    have g0 := sv r0
    have g1 := sv r1
    have g2 := sv r2
    rw [g0.1] at c0; rw [g1.1] at c1; rw [g2.1] at c2
    exact ⟨⟨c0, c1, c2⟩, oneC_i64.1 g0.2, oneC_i64.1 g1.2, of_decide_eq_true g2.2⟩
theorem ext_keep {St : Nat → Nat → Prop} {w w' : World} (hx : Ext w w') (hbd : ∀ b o, St b o → b < w.heap.size) : Keeps St w St w' := fun b o hs => ⟨hs, hx.cell (p := ⟨b, o, none⟩) (hbd b o hs)⟩
end Go.Proofs.YtfdnnfbbjiglcaaDoor.B
namespace Go.Proofs
open Go.Shelf
def Tryd.lays169_ren : Go.Shelf.Ren := ⟨fun | 169 => 28 | n => n, fun | 70 => 48 | 9 => 9 | 0 => 0 | 72 => 51 | 37 => 49 | 127 => 65 | 3 => 3 | 5 => 5 | n => n, fun | n => n⟩
theorem Tryd.lays169 : Go.Proofs.Lays.n169 Tryd.prog Tryd.lays169_ren := {
  mixed := by kernel_rfl
  f169 := Tryd.func28.trans (congrArg some (by kernel_rfl))
  t0 := Tryd.underlying0
  a0 := Tryd.isAgg0
  z0 := Tryd.sizeOf0
  v0 := Tryd.zeroValue0
  t3 := Tryd.underlying3
  a3 := Tryd.isAgg3
  z3 := Tryd.sizeOf3
  v3 := Tryd.zeroValue3
  t9 := Tryd.underlying9
  a9 := Tryd.isAgg9
  z9 := Tryd.sizeOf9
  v9 := Tryd.zeroValue9
  t37 := Tryd.underlying49
  a37 := Tryd.isAgg49
  z37 := Tryd.sizeOf49
  v37 := Tryd.zeroValue49
  t70 := Tryd.underlying48
  a70 := Tryd.isAgg48
  z70 := Tryd.sizeOf48
  v70 := Tryd.zeroValue48
  t72 := Tryd.underlying51
  a72 := Tryd.isAgg51
  z72 := Tryd.sizeOf51
  v72 := Tryd.zeroValue51
  t127 := Tryd.underlying65
  a127 := Tryd.isAgg65
  z127 := Tryd.sizeOf65
  v127 := Tryd.zeroValue65 }
theorem Tryd.Builder_Extra_169 : Builder.Extra Tryd.prog Tryd.lays169_ren := {
  sizeBuilder := by kernel_rfl
  liesBuilder := by kernel_rfl
  t5 := Tryd.underlying5
  a5 := Tryd.isAgg5
  z5 := Tryd.sizeOf5
  v5 := Tryd.zeroValue5
  infoByte := by kernel_rfl
  cellsByte := by kernel_rfl
  sizeByte := by kernel_rfl
  neB5 := by decide }
def Tryd.lays106_ren : Go.Shelf.Ren := ⟨fun | 106 => 35 | 213 => 51 | 265 => 61 | n => n, fun | 9 => 9 | 3 => 3 | n => n, fun | n => n⟩
theorem Tryd.lays106 : Go.Proofs.Lays.n106 Tryd.prog Tryd.lays106_ren := {
  mixed := by kernel_rfl
  f106 := Tryd.func35.trans (congrArg some (by kernel_rfl))
  f213 := Tryd.func51.trans (congrArg some (by kernel_rfl))
  f265 := Tryd.func61.trans (congrArg some (by kernel_rfl))
  t3 := Tryd.underlying3
  a3 := Tryd.isAgg3
  z3 := Tryd.sizeOf3
  v3 := Tryd.zeroValue3
  t9 := Tryd.underlying9
  a9 := Tryd.isAgg9
  z9 := Tryd.sizeOf9
  v9 := Tryd.zeroValue9 }
open Go.RowKit in
theorem Tryd.strings_Compare (a b : ByteArray) (w : World) :
    Calls Tryd.prog 35 #[.string a, .string b] w fun e w' => e = .returned (.int .i64 (Lib.compareBytes a.data.toList b.data.toList)) ∧ w' = w := Any.strings_Compare Tryd.lays106 a b w
def Tryd.lays122_ren : Go.Shelf.Ren := ⟨fun | 122 => 34 | 215 => 50 | n => n, fun | 3 => 3 | 4 => 4 | n => n, fun | n => n⟩
theorem Tryd.lays122 : Go.Proofs.Lays.n122 Tryd.prog Tryd.lays122_ren := {
  mixed := by kernel_rfl
  f122 := Tryd.func34.trans (congrArg some (by kernel_rfl))
  f215 := Tryd.func50.trans (congrArg some (by kernel_rfl))
  t3 := Tryd.underlying3
  a3 := Tryd.isAgg3
  z3 := Tryd.sizeOf3
  v3 := Tryd.zeroValue3
  t4 := Tryd.underlying4
  a4 := Tryd.isAgg4
  z4 := Tryd.sizeOf4
  v4 := Tryd.zeroValue4 }
open Go.RowKit in
theorem Tryd.cmp_Compare_int (x y : Int) (w : World) :
    Calls Tryd.prog 34 #[.int .i64 x, .int .i64 y] w fun e w' => e = .returned (.int .i64 (Lib.compareInt x y)) ∧ w' = w := Any.cmp_Compare_int Tryd.lays122 x y w
open Go.RowKit in
theorem Tryd.Builder_String_any_k (B b : Nat) (l : List UInt8) (w : World) (h : Lib.IsBuilderF 51 5 B b (Lib.byteCells l) w) (hBw : B ≤ w.heap.size) :
    Calls Tryd.prog 28 #[.pointer (some ⟨b, 0, none⟩)] w fun e w' => e = .returned (.string ⟨l.toArray⟩) ∧ (Lib.IsBuilderF 51 5 B b (Lib.byteCells l) w' ∧ Below B w w' ∧ Lib.OthersKept 5 (some b) w w') := Any.Builder_String_any_k Tryd.lays169 Tryd.Builder_Extra_169 B b l w h hBw
def Tryd.laysM171_ren : Go.Shelf.Ren := ⟨fun | 171 => 27 | 243 => 38 | 246 => 55 | 283 => 63 | 284 => 64 | 285 => 65 | 286 => 66 | 129 => 49 | 317 => 69 | 318 => 70 | 319 => 71 | 320 => 72 | 337 => 73 | 338 => 74 | n => n, fun | 3 => 3 | 9 => 9 | 2 => 2 | 4 => 4 | 171 => 89 | 0 => 0 | 53 => 76 | 37 => 49 | 5 => 5 | 173 => 91 | 212 => 98 | 51 => 74 | 20 => 20 | 213 => 99 | 46 => 61 | 232 => 100 | 233 => 101 | n => n, fun | 17 => 1 | 18 => 2 | 19 => 3 | n => n⟩
theorem Tryd.laysM171 : Go.Proofs.LaysM.n171 Tryd.prog Tryd.laysM171_ren := {
  mixed := by kernel_rfl
  f129 := Tryd.func49.trans (congrArg some (by kernel_rfl))
  f171 := Tryd.func27.trans (congrArg some (by kernel_rfl))
  f243 := Tryd.func38.trans (congrArg some (by kernel_rfl))
  f246 := Tryd.func55.trans (congrArg some (by kernel_rfl))
  f283 := Tryd.func63.trans (congrArg some (by kernel_rfl))
  f284 := Tryd.func64.trans (congrArg some (by kernel_rfl))
  f285 := Tryd.func65.trans (congrArg some (by kernel_rfl))
  f286 := Tryd.func66.trans (congrArg some (by kernel_rfl))
  f317 := Tryd.func69.trans (congrArg some (by kernel_rfl))
  f318 := Tryd.func70.trans (congrArg some (by kernel_rfl))
  f319 := Tryd.func71.trans (congrArg some (by kernel_rfl))
  f320 := Tryd.func72.trans (congrArg some (by kernel_rfl))
  f337 := Tryd.func73.trans (congrArg some (by kernel_rfl))
  f338 := Tryd.func74.trans (congrArg some (by kernel_rfl))
  t0 := Tryd.underlying0
  a0 := Tryd.isAgg0
  z0 := Tryd.sizeOf0
  v0 := Tryd.zeroValue0
  t2 := Tryd.underlying2
  a2 := Tryd.isAgg2
  z2 := Tryd.sizeOf2
  v2 := Tryd.zeroValue2
  t3 := Tryd.underlying3
  a3 := Tryd.isAgg3
  z3 := Tryd.sizeOf3
  v3 := Tryd.zeroValue3
  t4 := Tryd.underlying4
  a4 := Tryd.isAgg4
  z4 := Tryd.sizeOf4
  v4 := Tryd.zeroValue4
  t5 := Tryd.underlying5
  a5 := Tryd.isAgg5
  z5 := Tryd.sizeOf5
  v5 := Tryd.zeroValue5
  t9 := Tryd.underlying9
  a9 := Tryd.isAgg9
  z9 := Tryd.sizeOf9
  v9 := Tryd.zeroValue9
  t20 := Tryd.underlying20
  a20 := Tryd.isAgg20
  z20 := Tryd.sizeOf20
  v20 := Tryd.zeroValue20
  t37 := Tryd.underlying49
  a37 := Tryd.isAgg49
  z37 := Tryd.sizeOf49
  v37 := Tryd.zeroValue49
  t46 := Tryd.underlying61
  a46 := Tryd.isAgg61
  z46 := Tryd.sizeOf61
  v46 := Tryd.zeroValue61
  t51 := Tryd.underlying74
  a51 := Tryd.isAgg74
  z51 := Tryd.sizeOf74
  v51 := Tryd.zeroValue74
  t53 := Tryd.underlying76
  a53 := Tryd.isAgg76
  z53 := Tryd.sizeOf76
  v53 := Tryd.zeroValue76
  t171 := Tryd.underlying89
  a171 := Tryd.isAgg89
  z171 := Tryd.sizeOf89
  v171 := Tryd.zeroValue89
  t173 := Tryd.underlying91
  a173 := Tryd.isAgg91
  z173 := Tryd.sizeOf91
  v173 := Tryd.zeroValue91
  t212 := Tryd.underlying98
  a212 := Tryd.isAgg98
  z212 := Tryd.sizeOf98
  v212 := Tryd.zeroValue98
  t213 := Tryd.underlying99
  a213 := Tryd.isAgg99
  z213 := Tryd.sizeOf99
  t232 := Tryd.underlying100
  a232 := Tryd.isAgg100
  z232 := Tryd.sizeOf100
  v232 := Tryd.zeroValue100
  t233 := Tryd.underlying101
  a233 := Tryd.isAgg101
  z233 := Tryd.sizeOf101
  v233 := Tryd.zeroValue101
  g17 := by kernel_rfl
  g18 := by kernel_rfl
  g19 := by kernel_rfl
  i0 := by kernel_rfl
  i2 := by kernel_rfl
  i3 := by kernel_rfl
  i4 := by kernel_rfl
  i5 := by kernel_rfl
  i9 := by kernel_rfl
  i20 := by kernel_rfl
  i37 := by kernel_rfl
  i46 := by kernel_rfl
  i51 := by kernel_rfl
  i53 := by kernel_rfl
  i171 := by kernel_rfl
  i173 := by kernel_rfl
  i212 := by kernel_rfl
  i232 := by kernel_rfl
  i233 := by kernel_rfl
  m17 := by kernel_rfl
  m18 := by kernel_rfl
  m19 := by kernel_rfl }
open Go.RowKit Go.Sort Go.Lib in
theorem Tryd.strconv_Itoa (n : Int) (h0 : -9223372036854775808 ≤ n) (h1 : n ≤ 9223372036854775807) (w : World) (htab : Lib.TabIs Tryd.prog w "internal/strconv.uint64pow10" .u64 Lib.pow10Tab) :
    Calls Tryd.prog 27 #[.int .i64 n] w fun e w' => e = .returned (.string ⟨(Lib.itoa n).toArray⟩) ∧ ∃ k os, w' = grow (w.drewN k) os := Any.strconv_Itoa Tryd.laysM171 n h0 h1 w htab
end Go.Proofs
namespace Go.Proofs.YtfdnnfbbjiglcaaDoor.B
open Go Go.RowKit Go.Shelf
set_option maxRecDepth 1000000
set_option linter.unusedVariables false
def ren_bs : Ren := ⟨fun | 166 => 26 | 240 => 37 | 276 => 54 | n => n, fun | 0 => 0 | 3 => 3 | 4 => 4 | 9 => 9 | 20 => 20 | 37 => 49 | 70 => 48 | 72 => 51 | 75 => 53 | 164 => 80 | 5 => 5 | 80 => 57 | n => n, fun | n => n⟩
theorem lays_bs : Lays.n166 Tryd.prog ren_bs := {
  mixed := by kernel_rfl
  f166 := Tryd.func26.trans (congrArg some (by kernel_rfl))
  f240 := Tryd.func37.trans (congrArg some (by kernel_rfl))
  f276 := Tryd.func54.trans (congrArg some (by kernel_rfl))
  t0 := Tryd.underlying0
  a0 := Tryd.isAgg0
  z0 := Tryd.sizeOf0
  v0 := Tryd.zeroValue0
  t3 := Tryd.underlying3
  a3 := Tryd.isAgg3
  z3 := Tryd.sizeOf3
  v3 := Tryd.zeroValue3
  t4 := Tryd.underlying4
  a4 := Tryd.isAgg4
  z4 := Tryd.sizeOf4
  v4 := Tryd.zeroValue4
  t9 := Tryd.underlying9
  a9 := Tryd.isAgg9
  z9 := Tryd.sizeOf9
  v9 := Tryd.zeroValue9
  t20 := Tryd.underlying20
  a20 := Tryd.isAgg20
  z20 := Tryd.sizeOf20
  v20 := Tryd.zeroValue20
  t37 := Tryd.underlying49
  a37 := Tryd.isAgg49
  z37 := Tryd.sizeOf49
  v37 := Tryd.zeroValue49
  t70 := Tryd.underlying48
  a70 := Tryd.isAgg48
  z70 := Tryd.sizeOf48
  v70 := Tryd.zeroValue48
  t72 := Tryd.underlying51
  a72 := Tryd.isAgg51
  z72 := Tryd.sizeOf51
  v72 := Tryd.zeroValue51
  t75 := Tryd.underlying53
  a75 := Tryd.isAgg53
  z75 := Tryd.sizeOf53
  v75 := Tryd.zeroValue53
  t164 := Tryd.underlying80
  a164 := Tryd.isAgg80
  z164 := Tryd.sizeOf80
  v164 := Tryd.zeroValue80 }
theorem extra_bs : Builder.Extra Tryd.prog ren_bs := {
  sizeBuilder := by kernel_rfl
  liesBuilder := by kernel_rfl
  t5 := Tryd.underlying5
  a5 := Tryd.isAgg5
  z5 := Tryd.sizeOf5
  v5 := Tryd.zeroValue5
  infoByte := by kernel_rfl
  cellsByte := by kernel_rfl
  sizeByte := by kernel_rfl
  neB5 := by decide }
theorem writeString (B b : Nat) (bs : List Value) (s : ByteArray) (w : World) (h : Lib.IsBuilderF 51 5 B b bs w) (hlen : bs.length + s.size ≤ 140737488355328) (hBw : B ≤ w.heap.size) :
    Calls Tryd.prog 26 #[.pointer (some ⟨b, 0, none⟩), .string s] w fun e w' => e = .returned (.tuple #[.int .i64 s.size, .nilIface]) ∧ (Lib.BuilderAtF 51 5 B b (.pointer (some ⟨b, 0, none⟩)) (bs ++ Lib.strCells s) w' ∧ Below B w w' ∧ Lib.OthersKept 5 (some b) w w') :=
  Any.Builder_WriteString_k lays_bs extra_bs B b bs s w h hlen hBw
end Go.Proofs.YtfdnnfbbjiglcaaDoor.B
namespace Go.Proofs.YtfdnnfbbjiglcaaDoor.B
open Go Go.RowKit
set_option maxRecDepth 100000
noncomputable section
attribute [local irreducible] awp ctxK itersK iterK retQ retGQ
def inN (n : Int) : Bool := decide (-1000000000000000 ≤ n ∧ n ≤ 1000000000000000)
def plainB (s : ByteArray) : Bool := s.toList.all (fun b => decide (32 ≤ b.toNat ∧ b.toNat ≤ 126)) && decide (s.size ≤ 100)
def rightV (v : Val) : Bool :=
  if v.kind = 0 then decide (v.n = 0) && decide (v.s.size = 0)
  else if v.kind = 1 then decide (v.n = 0 ∨ v.n = 1) && decide (v.s.size = 0)
  else if v.kind = 2 then inN v.n && decide (v.s.size = 0)
  else if v.kind = 3 then decide (v.n = 0) && plainB v.s
  else false
def cmpI (a b : Int) : Int := if a < b then -1 else if a > b then 1 else 0
def cmpL : List UInt8 → List UInt8 → Int
  | [], [] => 0
  | [], _ :: _ => -1
  | _ :: _, [] => 1
  | a :: l, b :: r => if a = b then cmpL l r else cmpI a.toNat b.toNat
def cmpS (a b : ByteArray) : Int := cmpL a.toList b.toList
def ordV (a b : Val) : Int := if a.kind = b.kind then (if a.n = b.n then cmpS a.s b.s else cmpI a.n b.n) else cmpI a.kind b.kind
def ordR : List Val → List Val → Int
  | [], [] => 0
  | [], _ :: _ => -1
  | _ :: _, [] => 1
  | a :: l, b :: r => if ordV a b = 0 then ordR l r else ordV a b
theorem toList_size (s : ByteArray) : s.toList.length = s.size := by rw [ByteArray.toList_eq, Array.length_toList]; rfl
theorem bytes_ext {a b : ByteArray} (h : a.toList = b.toList) : a = b := by
  rw [ByteArray.toList_eq, ByteArray.toList_eq] at h
  cases a; cases b; simp at h; subst h; rfl
theorem cmpI_zero {a b : Int} : cmpI a b = 0 ↔ a = b := by
  unfold cmpI
  by_cases h1 : a < b
  · rw [if_pos h1]; omega
  · rw [if_neg h1]
    by_cases h2 : a > b
    · rw [if_pos h2]; omega
    · rw [if_neg h2]; omega
theorem cmpL_zero : ∀ {a b : List UInt8}, cmpL a b = 0 ↔ a = b
  | [], [] => by simp [cmpL]
  | [], _ :: _ => by simp [cmpL]
  | _ :: _, [] => by simp [cmpL]
  | a :: l, b :: r => by
    simp only [cmpL]
    split
    · rename_i h; subst h; rw [cmpL_zero]; simp
    · rename_i h
      rw [cmpI_zero]
      constructor
      · intro e; exact absurd (UInt8.toNat_inj.1 (Int.ofNat_inj.1 e)) h
      · intro e; simp at e; exact absurd e.1 h
theorem cmpS_zero {a b : ByteArray} : cmpS a b = 0 ↔ a = b := by
  unfold cmpS; rw [cmpL_zero]
  exact ⟨bytes_ext, fun h => by rw [h]⟩
theorem ordV_zero {a b : Val} : ordV a b = 0 ↔ a = b := by
  cases a; cases b
  unfold ordV
  simp only
  split
  · split
    · rename_i h1 h2; subst h1; subst h2; rw [cmpS_zero]; simp
    · rename_i h1 h2; rw [cmpI_zero]; simp [h2]
  · rename_i h1; rw [cmpI_zero]; simp [h1]
theorem ordR_zero : ∀ {a b : List Val}, ordR a b = 0 ↔ a = b
  | [], [] => by simp [ordR]
  | [], _ :: _ => by simp [ordR]
  | _ :: _, [] => by simp [ordR]
  | a :: l, b :: r => by
    simp only [ordR]
    split
    · rename_i h; rw [ordV_zero] at h; subst h; rw [ordR_zero]; simp
    · rename_i h
      constructor
      · intro e; exact absurd e h
      · intro e; simp at e; rw [e.1] at h; exact absurd (ordV_zero.2 rfl) h
end
end Go.Proofs.YtfdnnfbbjiglcaaDoor.B
namespace Go.Proofs.YtfdnnfbbjiglcaaDoor.B
open Go Go.RowKit
set_option linter.unusedVariables false
def dval (l : List UInt8) : Nat := l.foldl (fun a c => 10 * a + (c.toNat - 48)) 0
theorem dval_snoc (l : List UInt8) (c : UInt8) : dval (l ++ [c]) = 10 * dval l + (c.toNat - 48) := by unfold dval; rw [List.foldl_append]; rfl
theorem dig_toNat {u : Nat} (h : u < 10) : (UInt8.ofNat (48 + u)).toNat = 48 + u := by
  rw [UInt8.toNat_ofNat']; exact Nat.mod_eq_of_lt (by omega)
theorem dval_dec (u : Nat) : dval (Lib.decDigits u) = u ∧ ∀ c ∈ Lib.decDigits u, 48 ≤ c.toNat := by
  induction u using Nat.strongRecOn with
  | _ u ih =>
    by_cases h : u < 10
    · rw [Lib.decDigits, dif_pos h]
      refine ⟨?_, fun c hc => ?_⟩
      · unfold dval; simp only [List.foldl_cons, List.foldl_nil]; rw [dig_toNat h]; omega
      · rw [List.mem_singleton.1 hc, dig_toNat h]; omega
    · rw [Lib.decDigits, dif_neg h]
      obtain ⟨h1, h2⟩ := ih (u / 10) (by omega)
      refine ⟨?_, fun c hc => ?_⟩
      · rw [dval_snoc, h1, dig_toNat (by omega)]; omega
      · rcases List.mem_append.1 hc with hc | hc
        · exact h2 c hc
        · rw [List.mem_singleton.1 hc, dig_toNat (by omega)]; omega
theorem itoa_ne (n : Int) : ∀ c ∈ Lib.itoa n, c ≠ 32 := by
  have key : ∀ u, ∀ c ∈ Lib.decDigits u, c ≠ 32 := fun u c hc e => by
    have := (dval_dec u).2 c hc
    rw [e] at this; simp at this
  unfold Lib.itoa
  split
  · intro c hc
    rcases List.mem_cons.1 hc with rfl | hc
    · decide
    · exact key _ c hc
  · exact key _
theorem itoa_inj {n m : Int} (h : Lib.itoa n = Lib.itoa m) : n = m := by
  have k1 : ∀ u v, Lib.decDigits u = Lib.decDigits v → u = v := fun u v h => by rw [← (dval_dec u).1, ← (dval_dec v).1, h]
  have k2 : ∀ u, (45 : UInt8) ∉ Lib.decDigits u := fun u hm => by
    have := (dval_dec u).2 45 hm
    simp at this
  have k3 : ∀ u v, 45 :: Lib.decDigits u ≠ Lib.decDigits v := fun u v e => k2 v (by rw [← e]; exact List.mem_cons_self)
  unfold Lib.itoa at h
  split at h <;> split at h
  · have := k1 _ _ (List.cons.inj h).2; omega
  · exact (k3 _ _ h).elim
  · exact (k3 _ _ h.symm).elim
  · have := k1 _ _ h; omega
theorem split32 : ∀ {x x' y y' : List UInt8}, (∀ c ∈ x, c ≠ 32) → (∀ c ∈ x', c ≠ 32) → x ++ 32 :: y = x' ++ 32 :: y' → x = x' ∧ y = y'
  | [], [], y, y', _, _, h => ⟨rfl, (List.cons.inj h).2⟩
  | [], c :: x', y, y', _, h2, h => (h2 c List.mem_cons_self (List.cons.inj h).1.symm).elim
  | c :: x, [], y, y', h1, _, h => (h1 c List.mem_cons_self (List.cons.inj h).1).elim
  | c :: x, c' :: x', y, y', h1, h2, h => by
    obtain ⟨e1, e2⟩ := List.cons.inj h
    obtain ⟨r1, r2⟩ := split32 (fun d hd => h1 d (List.mem_cons_of_mem _ hd)) (fun d hd => h2 d (List.mem_cons_of_mem _ hd)) e2
    exact ⟨by rw [e1, r1], r2⟩
def valT (v : Val) : List UInt8 := Lib.itoa v.kind ++ 32 :: (Lib.itoa v.n ++ 32 :: (Lib.itoa (v.s.size : Int) ++ 32 :: v.s.data.toList))
def keyT : List Val → List UInt8
  | [] => []
  | v :: r => valT v ++ keyT r
theorem keyT_append : ∀ (a b : List Val), keyT (a ++ b) = keyT a ++ keyT b
  | [], _ => rfl
  | v :: a, b => by rw [List.cons_append, keyT, keyT, keyT_append a b, List.append_assoc]
theorem valT_inj {v v' : Val} {y y' : List UInt8} (h : valT v ++ y = valT v' ++ y') : v = v' ∧ y = y' := by
  unfold valT at h
  simp only [List.append_assoc, List.cons_append] at h
  obtain ⟨e1, h⟩ := split32 (itoa_ne _) (itoa_ne _) h
  obtain ⟨e2, h⟩ := split32 (itoa_ne _) (itoa_ne _) h
  obtain ⟨e3, h⟩ := split32 (itoa_ne _) (itoa_ne _) h
  have e1' := itoa_inj e1
  have e2' := itoa_inj e2
  have e3' := itoa_inj e3
  obtain ⟨e4, e5⟩ := List.append_inj h (by rw [Array.length_toList, Array.length_toList]; have : v.s.size = v'.s.size := by omega
                                           exact this)
  have e6 : v.s = v'.s := ByteArray.ext (Array.toList_inj.1 e4)
  exact ⟨by cases v; cases v'; simp_all, e5⟩
theorem keyT_inj : ∀ {a b : List Val}, keyT a = keyT b → a = b
  | [], [], _ => rfl
  | [], v :: b, h => by
    have : (keyT (v :: b)).length = 0 := by rw [← h]; rfl
    unfold keyT valT at this
    simp at this
  | v :: a, [], h => by
    have : (keyT (v :: a)).length = 0 := by rw [h]; rfl
    unfold keyT valT at this
    simp at this
  | v :: a, v' :: b, h => by
    obtain ⟨e1, e2⟩ := valT_inj (show valT v ++ keyT a = valT v' ++ keyT b from h)
    rw [e1, keyT_inj e2]
end Go.Proofs.YtfdnnfbbjiglcaaDoor.B
namespace Go.Proofs.YtfdnnfbbjiglcaaDoor.B
open Go Go.RowKit Go.Shelf
set_option maxRecDepth 1000000
set_option linter.unusedVariables false
noncomputable section
theorem isB_ext {T e : TypeId} {B b : Nat} {bs : List Value} {w w' : World} (h : Lib.IsBuilderF T e B b bs w) (hx : Ext w w') : Lib.IsBuilderF T e B b bs w' := by
  have key : ∀ p, Lib.BuilderAtF T e B b p bs w → Lib.BuilderAtF T e B b p bs w' := fun p ⟨h1, v, h2, h3, h4⟩ => by
    have hb : b < w.heap.size := (Array.getElem?_eq_some_iff.1 h2).1
    refine ⟨h1, v, by rw [hx.block hb]; exact h2, h3.kept (row := none) ⟨hx.os, hx.tape, hx.output, hx.size, fun k hk _ => hx.block hk⟩ ?_, h4⟩
    cases hv : v.ownBlock with
    | none => exact .inl rfl
    | some g => exact .inr (by simp)
  exact h.imp (key _) (key _)
theorem itoa_calls (n : Int) (h : -9223372036854775808 ≤ n ∧ n ≤ 9223372036854775807) (w : World) (hld : Laid w) :
    Calls Tryd.prog 27 #[.int .i64 n] w fun e w' => e = .returned (.string ⟨(Lib.itoa n).toArray⟩) ∧ Ext w w' := by
  refine (Tryd.strconv_Itoa n h.1 h.2 w hld).mono ?_
  rintro e w' ⟨rfl, k, os, rfl⟩
  exact ⟨rfl, Lib.below_grow _ _ (Nat.le_refl _) _ _⟩
theorem itoa_text (n : Int) (h : -9223372036854775808 ≤ n ∧ n ≤ 9223372036854775807) : ∃ t : ByteArray, t.data.toList = Lib.itoa n ∧ t.size ≤ 21 ∧ ∀ (w : World), Laid w → Calls Tryd.prog 27 #[.int .i64 n] w fun e w' => e = .returned (.string t) ∧ Ext w w' :=
  ⟨⟨(Lib.itoa n).toArray⟩, rfl, by have := Lib.itoa_length_le n h.1 h.2; exact this, itoa_calls n h⟩
theorem cat_text (a b : ByteArray) (h : a.size + b.size ≤ 1000000000000000) : ∃ t : ByteArray, t.data.toList = a.data.toList ++ b.data.toList ∧ t.size = a.size + b.size ∧ t = a ++ b ∧ ¬ (9223372036854775807 < a.size + b.size) :=
  ⟨a ++ b, by simp [ByteArray.data_append], by simp [ByteArray.size_append], rfl, by omega⟩
theorem kept4 {w wr W3 W4 : World} {o : Obj} {k n : Int} {s : ByteArray} {t e : TypeId} (hk : Lib.OthersKept e (some (w.heap.size + 1)) W3 W4) (hx : Ext (wr.alloc o).drew W3) (h0 : (wr.alloc o).heap[wr.heap.size]? = some (.cells #[.int .i64 k, .int .i64 n, .string s] t (0, 0))) (hs : w.heap.size + 1 < wr.heap.size) (ht : t ≠ e) :
    W4.cell? ⟨wr.heap.size, 0, none⟩ = some (.int .i64 k) ∧ W4.cell? ⟨wr.heap.size, 1, none⟩ = some (.int .i64 n) ∧ W4.cell? ⟨wr.heap.size, 2, none⟩ = some (.string s) := by
  have h1 : W3.heap[wr.heap.size]? = some (.cells #[.int .i64 k, .int .i64 n, .string s] t (0, 0)) := by
    rw [hx.block (show wr.heap.size < (wr.alloc o).drew.heap.size by simp)]; exact h0
  have h2 := hk _ _ h1 (by simp; omega) (fun c fz e2 => ht (by cases e2; rfl))
  refine ⟨?_, ?_, ?_⟩ <;> simp [World.cell?, h2]
theorem key_cells {W : World} {B : Nat} {u v : Value} {t : TypeId} (h : W.heap[B]? = some (.cells #[u, v] t (0, 0))) : W.cell? ⟨B, 0, none⟩ = some u ∧ W.cell? ⟨B, 1, none⟩ = some v ∧ W.frozen? ⟨B, 0, none⟩ = false ∧ W.frozen? ⟨B, 1, none⟩ = false := by
  refine ⟨?_, ?_, ?_, ?_⟩ <;> simp [World.cell?, World.frozen?, h]
theorem keyT_part {r : List Val} {i : Nat} {x : Val} (h : r[i]? = some x) : keyT (r.take (i + 1)) = keyT (r.take i) ++ valT x ∧ (keyT (r.take i)).length + (valT x).length ≤ (keyT r).length := by
  obtain ⟨hi, hx⟩ := List.getElem?_eq_some_iff.1 h
  have e1 : r.take (i + 1) = r.take i ++ [x] := by rw [List.take_add_one, h]; rfl
  have e2 : keyT (r.take (i + 1)) = keyT (r.take i) ++ valT x := by rw [e1, keyT_append]; simp [keyT]
  refine ⟨e2, ?_⟩
  have e3 : keyT r = keyT (r.take (i + 1)) ++ keyT (r.drop (i + 1)) := by rw [← keyT_append, List.take_append_drop]
  rw [e3, e2]
  simp only [List.length_append]
  omega
theorem strCells_byte (s : ByteArray) (l : List UInt8) (h : s.data.toList = l) : Lib.strCells s = Lib.byteCells l := by unfold Lib.strCells Lib.byteCells; rw [h]
structure RK (w : World) (r : List Val) (i : Nat) (wr : World) : Prop where
  ext : Ext w wr
  key : wr.heap[w.heap.size]? = some (.cells #[.int .i64 0, .string ⟨#[]⟩] 39 (0, 0))
  bld : Lib.IsBuilderF 51 5 w.heap.size (w.heap.size + 1) (Lib.byteCells (keyT (r.take i))) wr
set_option maxHeartbeats 8000000 in
theorem keyOf_walk (r : List Val) (a : Option Addr) (b off cap : Nat) (w : World) (hld : Laid w) (hlen : r.length ≤ 1000000000) (htx : (keyT r).length ≤ 1000000000000)
    (ha : r ≠ [] → a = some ⟨b, off, none⟩ ∧ r.length ≤ cap)
    (hcell : ∀ i x, r[i]? = some x → (w.cell? ⟨b, off + i * 3, none⟩ = some (.int .i64 x.kind) ∧ w.cell? ⟨b, off + i * 3 + 1, none⟩ = some (.int .i64 x.n) ∧ w.cell? ⟨b, off + i * 3 + 2, none⟩ = some (.string x.s)) ∧
      (-9223372036854775808 ≤ x.kind ∧ x.kind ≤ 9223372036854775807) ∧ (-9223372036854775808 ≤ x.n ∧ x.n ≤ 9223372036854775807) ∧ x.s.size ≤ maxLen) :
    Calls Tryd.prog 18 #[.slice a r.length cap] w fun e w' => e = .returned (.agg #[.int .i64 r.length, .string ⟨(keyT r).toArray⟩]) ∧ Ext w w' := by
  have mixed : Tryd.prog.follows .mixedOrders = true := by kernel_rfl
  go_enter Tryd.func18, Tryd.ntmps18
  go_wp2
  go_loopw [8] (fun s8 wr => ∃ (i : Nat), i ≤ r.length ∧ s8 = .int .i64 i ∧ RK w r i wr) (fun s8 _ => r.length - (intOf s8).toNat)
  case atStart =>
    have h1 : ∀ (h : Array Obj) (o : Obj), (h.push o)[h.size]? = some o := fun h o => by simp
    refine ⟨0, Nat.zero_le _, rfl, ⟨((Ext.refl w).alloc _).alloc _, ?_, .inl ⟨Nat.le_succ _, .slice none 0 0, ?_, World.ownsRowF_nil _ _ _ _, by simp [Value.ownBlock]⟩⟩⟩
    · rw [heap_alloc_old _ _ (by simp)]; exact h1 w.heap _
    · have h2 : (w.alloc (Obj.cells #[Value.int IntKind.i64 0, Value.string { data := #[] }] 39)).heap.size = w.heap.size + 1 := by simp
      rw [← h2]; exact h1 _ _
  case round =>
    obtain ⟨i, hi, rfl, hr⟩ := hrel
    by_cases hlt : i < r.length
    · obtain ⟨x, hx⟩ : ∃ x, r[i]? = some x := ⟨_, List.getElem?_eq_getElem hlt⟩
      obtain ⟨rfl, hcap⟩ := ha (fun e => by rw [e] at hlt; simp at hlt)
      obtain ⟨⟨c0, c1, c2⟩, b0, b1, b2⟩ := hcell i x hx
      have d0 := hr.ext.keeps c0
      have d1 := hr.ext.keeps c1
      have d2 := hr.ext.keeps c2
      have hsz1 : w.heap.size + 1 < wr.heap.size := by
        have : ∀ p, Lib.BuilderAtF 51 5 w.heap.size (w.heap.size + 1) p (Lib.byteCells (keyT (r.take i))) wr → w.heap.size + 1 < wr.heap.size := fun p ⟨_, v, h2, _⟩ => (Array.getElem?_eq_some_iff.1 h2).1
        exact hr.bld.elim (this _) (this _)
      obtain ⟨kt1, kt2⟩ := keyT_part hx
      have hvl : x.s.size ≤ (valT x).length := by
        unfold valT
        simp only [List.length_append, List.length_cons]
        have : x.s.data.toList.length = x.s.size := rfl
        omega
      have KT := Lib.hid kt1
      clear kt1
      have HR := Lib.hid hr
      clear hr c0 c1 c2
      have k0 : (i : Int) < (r.length : Int) := by omega
      go_wp2_with fail
      have E0 : Ext wr (wr.alloc (Obj.cells #[Value.int IntKind.i64 x.kind, Value.int IntKind.i64 x.n, Value.string x.s] 35)).drew := ((Ext.refl wr).alloc _).drew
      have q0 : (wr.alloc (Obj.cells #[Value.int IntKind.i64 x.kind, Value.int IntKind.i64 x.n, Value.string x.s] 35)).heap[wr.heap.size]? = some (Obj.cells #[Value.int IntKind.i64 x.kind, Value.int IntKind.i64 x.n, Value.string x.s] 35 (0, 0)) := by
        have h1 : ∀ (h : Array Obj) (o : Obj), (h.push o)[h.size]? = some o := fun h o => by simp
        exact h1 _ _
      have EH := Lib.hid E0
      have Q0 := Lib.hid q0
      have b3 : -9223372036854775808 ≤ ((x.s.size : Nat) : Int) ∧ ((x.s.size : Nat) : Int) ≤ 9223372036854775807 := by unfold maxLen at b2; omega
      clear E0 q0
      obtain ⟨t1, p1, l1, I1⟩ := itoa_text x.kind b0
      obtain ⟨t2, p2, l2, I2⟩ := itoa_text x.n b1
      obtain ⟨t3, p3, l3, I3⟩ := itoa_text x.s.size b3
      have hsl : x.s.size ≤ 1000000000000 := by omega
      obtain ⟨s1, u1, v1, z1, y1⟩ := cat_text t1 ⟨#[32]⟩ (by show t1.size + 1 ≤ _; omega)
      obtain ⟨s2, u2, v2, z2, y2⟩ := cat_text s1 t2 (by have : (⟨#[32]⟩ : ByteArray).size = 1 := rfl; omega)
      obtain ⟨s3, u3, v3, z3, y3⟩ := cat_text s2 ⟨#[32]⟩ (by have : (⟨#[32]⟩ : ByteArray).size = 1 := rfl; omega)
      obtain ⟨s4, u4, v4, z4, y4⟩ := cat_text s3 t3 (by have : (⟨#[32]⟩ : ByteArray).size = 1 := rfl; omega)
      obtain ⟨s5, u5, v5, z5, y5⟩ := cat_text s4 ⟨#[32]⟩ (by have : (⟨#[32]⟩ : ByteArray).size = 1 := rfl; omega)
      obtain ⟨s6, u6, v6, z6, y6⟩ := cat_text s5 x.s (by have : (⟨#[32]⟩ : ByteArray).size = 1 := rfl; omega)
      have y1' : ¬ (9223372036854775807 < t1.size + 1) := y1
      have y3' : ¬ (9223372036854775807 < s2.size + 1) := y3
      have y5' : ¬ (9223372036854775807 < s4.size + 1) := y5
      have hs6l : s6.data.toList = valT x := by
        rw [u6, u5, u4, u3, u2, u1, p1, p2, p3]; unfold valT; simp
      have hs6 : (keyT (r.take i)).length + s6.size ≤ 140737488355328 := by
        have : s6.size = (valT x).length := by rw [← hs6l]; rfl
        omega
      have S6 := Lib.hid hs6l
      clear hs6l
      have hs6' : (Lib.byteCells (keyT (r.take i))).length + s6.size ≤ 140737488355328 := by rw [Lib.byteCells_length]; exact hs6
      clear y1 y3 y5
      have Z := Lib.hid (And.intro u1 (And.intro u2 (And.intro u3 (And.intro u4 (And.intro u5 u6)))))
      have V := Lib.hid (And.intro v1 (And.intro v2 (And.intro v3 (And.intro v4 (And.intro v5 v6)))))
      have PP := Lib.hid (And.intro p1 (And.intro p2 p3))
      clear u1 u2 u3 u4 u5 u6 v1 v2 v3 v4 v5 v6 p1 p2 p3
      replace z1 := z1.symm
      replace z2 := z2.symm
      replace z3 := z3.symm
      replace z4 := z4.symm
      replace z5 := z5.symm
      replace z6 := z6.symm
      go_region_held3 (fun w' => w'.cell? ⟨wr.heap.size, 0, none⟩ = some (.int .i64 x.kind) ∧ w'.cell? ⟨wr.heap.size, 1, none⟩ = some (.int .i64 x.n) ∧ w'.cell? ⟨wr.heap.size, 2, none⟩ = some (.string x.s)) (first | go_keep | (refine ⟨hx1.keeps ?_, hx1.keeps ?_, hx1.keeps ?_⟩ <;> simp [*]; done) | (refine ⟨hx2.keeps ?_, hx2.keeps ?_, hx2.keeps ?_⟩ <;> simp [*]; done) | (refine ⟨hx3.keeps ?_, hx3.keeps ?_, hx3.keeps ?_⟩ <;> simp [*]; done) | (exact kept4 hk4 ((hx1.trans hx2).trans hx3) Q0.out hsz1 (by decide)))
        (first
          | (go_at_call_of 27 (Value.int IntKind.i64 x.kind); refine (I1 _ (hld.ext (HR.out.ext.trans EH.out))).mono ?_; rintro e W1 ⟨rfl, hx1⟩)
          | (go_at_call_of 27 (Value.int IntKind.i64 x.n); refine (I2 _ (hld.ext ((HR.out.ext.trans EH.out).trans hx1))).mono ?_; rintro e W2 ⟨rfl, hx2⟩)
          | (go_at_call_of 27 (Value.int IntKind.i64 x.s.size); refine (I3 _ (hld.ext (((HR.out.ext.trans EH.out).trans hx1).trans hx2))).mono ?_; rintro e W3 ⟨rfl, hx3⟩)
          | (go_at_call 26; refine (writeString w.heap.size (w.heap.size + 1) _ s6 _ (isB_ext HR.out.bld (((EH.out.trans hx1).trans hx2).trans hx3)) hs6' (((HR.out.ext.trans EH.out).trans hx1).trans (hx2.trans hx3)).size).mono ?_; rintro e W4 ⟨rfl, hb4, hx4, hk4⟩))
      go_wp2_with fail
      go_roundw
      case rel =>
        refine ⟨i + 1, by omega, by go_num, ?_⟩
        have x3 := (((HR.out.ext.trans EH.out).trans hx1).trans hx2).trans hx3
        have k3 : W3.heap[w.heap.size]? = some (.cells #[.int .i64 0, .string ⟨#[]⟩] 39 (0, 0)) := by
          rw [((((EH.out).trans hx1).trans hx2).trans hx3).block (by omega)]; exact HR.out.key
        exact ⟨Below.trans x3 hx4, hk4 _ _ k3 (by simp) (fun c fz e2 => by cases e2), .inr (by
          rw [KT.out, show Lib.byteCells (keyT (r.take i) ++ valT x) = Lib.byteCells (keyT (r.take i)) ++ Lib.byteCells (valT x) by simp [Lib.byteCells], ← strCells_byte s6 _ S6.out]; exact hb4)⟩
      case measure => simp [intOf]; omega
    · have hie : i = r.length := by omega
      subst hie
      have hb := hr.bld
      rw [List.take_length] at hb
      have hxs := hr.ext.size
      have HR := Lib.hid hr
      have HB := Lib.hid hb
      clear hr hb
      have cS := Tryd.Builder_String_any_k w.heap.size (w.heap.size + 1) (keyT r) _ HB.out hxs
      go_wp2_with (first
        | (go_at_call 28; refine cS.mono ?_; rintro e W5 ⟨rfl, hb5, hx5, hk5⟩; obtain ⟨g0, g1, f0, f1⟩ := key_cells (hk5 _ _ HR.out.key (by simp) (fun c fz e2 => by cases e2)); have X5 := Lib.hid (And.intro hx5 (hk5 _ _ HR.out.key (by simp) (fun c fz e2 => by cases e2))); clear hx5 hb5 hk5))
      refine bodyPost_ret (v := .agg #[.int .i64 r.length, .string ⟨(keyT r).toArray⟩]) (by unfold results; go_simp) rfl ?_
      exact ⟨rfl, ((Below.trans HR.out.ext X5.out.1).setCell (Nat.le_refl _) _).setCell (Nat.le_refl _) _⟩
end
end Go.Proofs.YtfdnnfbbjiglcaaDoor.B
namespace Go.Proofs.YtfdnnfbbjiglcaaDoor.B
open Go Go.RowKit Go.Shelf Go.Maps
set_option maxRecDepth 1000000
set_option linter.unusedVariables false
noncomputable section
theorem klaw : Keyed Tryd.prog 39 := Keyed.of_law (deep_law_laid (by kernel_rfl) (m := 3) (by omega) (of_decide_eq_true (by kernel_rfl)) (by kernel_rfl) (by kernel_rfl))
def klOf (r : List Val) : Lit := .string (keyBytes [.int .i64 r.length, .string (keyT r)])
def keyV (r : List Val) : Value := .agg #[.int .i64 r.length, .string ⟨(keyT r).toArray⟩]
theorem hkey (r : List Val) (hl : r.length ≤ 1000000000) (ht : (keyT r).length ≤ 1000000000000) : keyOf Tryd.prog 39 (keyV r) = some (klOf r) := by
  have hk : Tryd.prog.keyType 39 = true := by kernel_rfl
  have hs : Tryd.prog.types.size = (Tryd.prog.types.size - 1) + 1 := by kernel_rfl
  have hw : (Lit.int .i64 (r.length : Int)).wf = true := by
    exact WalkArith.wf_i64 (by omega)
  have hz : (⟨(keyT r).toArray⟩ : ByteArray).size ≤ maxLen := by show (keyT r).toArray.size ≤ maxLen; unfold maxLen; simp; omega
  have c1 : Tryd.prog.cellsOf 39 = 2 := by kernel_rfl
  have c2 : Tryd.prog.cellsOf 3 = 1 := by kernel_rfl
  have c3 : Tryd.prog.cellsOf 9 = 1 := by kernel_rfl
  unfold keyOf keyV klOf
  rw [Tryd.underlying39]
  simp only [hk, Value.formed, Tryd.underlying39, c1, Value.cells]
  have k1 : ∀ (d : Nat) (n : Int), (Lit.int .i64 n).wf = true → Tryd.prog.keyLits (d + 1) 3 [Value.int .i64 n] = some [.int .i64 n] := fun d n h => by
    unfold Program.keyLits; rw [Tryd.underlying3]; simp [h]
  have k2 : ∀ (d : Nat) (s : ByteArray), s.size ≤ maxLen → Tryd.prog.keyLits (d + 1) 9 [Value.string s] = some [.string s.data.toList] := fun d s h => by
    unfold Program.keyLits; rw [Tryd.underlying9]; simp [h]
  have e1 : ∀ d : Nat, Tryd.prog.keyLits (d + 2) 39 [Value.int IntKind.i64 (r.length : Int), Value.string ⟨(keyT r).toArray⟩] = some [.int .i64 r.length, .string (keyT r)] := fun d => by
    unfold Program.keyLits
    rw [Tryd.underlying39]
    simp [c1, c2, c3, k1 d _ hw, k2 d _ hz]
  have e2 : Tryd.prog.types.size + 1 = (Tryd.prog.types.size - 1) + 2 := by rw [hs]; omega
  rw [e2] 
  simp [e1]
theorem klOf_inj {a b : List Val} (ha : a.length ≤ 1000000000) (ha' : (keyT a).length ≤ 1000000000000) (hb : b.length ≤ 1000000000) (hb' : (keyT b).length ≤ 1000000000000) (h : klOf a = klOf b) : a = b := by
  have h1 := hkey a ha ha'
  have h2 := hkey b hb hb'
  rw [← h] at h2
  have h3 := klaw.inj h1 h2
  unfold keyV at h3
  simp only [Value.agg.injEq, Array.mk.injEq, List.cons.injEq, Value.string.injEq, ByteArray.mk.injEq] at h3
  exact keyT_inj (by simpa using h3.2.1)
theorem klOf_is {a : List Val} (ha : a.length ≤ 1000000000) (ha' : (keyT a).length ≤ 1000000000000) : WideAt.IsKeyLit (klOf a) := klaw.key (hkey a ha ha')
end
end Go.Proofs.YtfdnnfbbjiglcaaDoor.B
