/- New objects, objects that grow, objects that are written. -/
import Derived.Test.YtohpgnpjijpedaaBSim2
namespace Go.Proofs.Ytohpgnpjijpedaa.B
open Go Go.RowKit
variable {U : Uni} {P : Program} {E : Enc U} {fr : Fr} {w : World} {g : G} {s : S U} {a : Act}

/-- An object's place is taken by a new one. -/
theorem ob_set_le {g g' : G} {ob : List (Option (Ob U))} {w w' : World} {q : Nat} {o : Ob U} (hq : q < ob.length) (hver : ∀ o0, ob[q]? = some (some o0) → o0.ver < o.ver) (hst : Keeps g.St w g'.St w') (hlb : ∀ k, g.lb k → g'.lb k ∧ g'.β k = g.β k)
    (htk : ∀ k, k ≠ q → g'.tk k = g.tk k) : GLe g ob w g' (ob.set q (some o)) w' := by
  refine ⟨hst, hlb, fun k o' hk => ?_⟩
  by_cases e : k = q
  · subst e
    have := hver o' hk
    exact ⟨o, List.getElem?_set_self hq, by omega, fun e => by omega⟩
  · exact ⟨o', by rw [List.getElem?_set_ne (Ne.symm e)]; exact hk, Nat.le_refl _, fun _ => ⟨rfl, rfl, htk k e⟩⟩

theorem idx_lt {i j n z : Nat} (hi : i < n) (hj : j < z) : i * z + j < n * z := by
  have : (i + 1) * z ≤ n * z := Nat.mul_le_mul_right _ hi
  rw [Nat.add_mul] at this; omega

/-- A new object, in a block of its own. -/
theorem Sim.newObj (h : Sim P E fr g s a w) {q : Nat} {o : Ob U} (hq : q < s.ob.length) (hver : ∀ o0, s.ob[q]? = some (some o0) → o0.ver < o.ver) (t : TypeId) {arr : List Value} {cap f : Nat} (hfr : o.fr = some f) (hf : f ≤ o.xs.length) (hcap0 : o.xs.length ≤ cap ∧ o.xs.length ≤ 9223372036854775807)
    (harr : arr.length = cap * U.sz o.τ) (hrel : ∀ i (hi : i < o.xs.length) j d, (E.enc o.τ o.xs[i])[j]? = some d → ∃ u, arr[i * U.sz o.τ + j]? = some u ∧ VRel E g.St w u d) :
    ∃ g', Sim P E fr g' { s with ob := s.ob.set q (some o) } a (w.alloc (.cells arr.toArray t)) ∧
      CRel P E g' (s.ob.set q (some o)) (w.alloc (.cells arr.toArray t)) (.slice (some ⟨w.heap.size, 0, none⟩) o.xs.length cap) (.ob q o.ver) := by
  have hcap := hcap0.1
  have hext : Ext w (w.alloc (.cells arr.toArray t)) := (Ext.refl _).alloc _
  let g' : G := { g with ω := fun b i => if b = w.heap.size then (if i < f * U.sz o.τ then some .st else if i < arr.length then some (.obj q) else none) else g.ω b i, tk := fun k => if k = q then (some ⟨w.heap.size, 0, none⟩, cap) else g.tk k }
  have hω : ∀ b i, b < w.heap.size → g'.ω b i = g.ω b i := fun b i hb => by show (if b = w.heap.size then _ else _) = _; rw [if_neg (by omega)]
  have hωn : ∀ i, g'.ω w.heap.size i = if i < f * U.sz o.τ then some .st else if i < arr.length then some (.obj q) else none := fun i => by show (if w.heap.size = w.heap.size then _ else _) = _; rw [if_pos rfl]
  have hs := fun x => h.sameNew (.cells arr.toArray t) hω x
  have htq : g'.tk q = (some ⟨w.heap.size, 0, none⟩, cap) := by show (if q = q then _ else _) = _; rw [if_pos rfl]
  have htn : ∀ k, k ≠ q → g'.tk k = g.tk k := fun k e => by show (if k = q then _ else _) = _; rw [if_neg e]
  have hg : GLe g s.ob w g' (s.ob.set q (some o)) (w.alloc (.cells arr.toArray t)) := ob_set_le hq hver (hs .st).keeps (fun k hl => ⟨hl, rfl⟩) htn
  refine ⟨g', ?_, ⟨rfl, o, List.getElem?_set_self hq, Nat.le_refl _, fun _ => by rw [htq]⟩⟩
  refine { ext := h.ext.later hext, tms := h.tms.imp fun _ _ => AVRel.mono hg, bxs := fun k fz cells hk => ?_, lbs := h.lbs, obs := ?_, own := ?_, dfr := h.dfr, fix := h.fix, bas := h.bas }
  · obtain ⟨hl, hb⟩ := h.bxs k fz cells hk
    exact ⟨hl, hb.keep hl hg (hs _)⟩
  · intro k o' hk
    have hk' : (s.ob.set q (some o))[k]? = some (some o') := hk
    by_cases e : k = q
    · subst e
      rw [List.getElem?_set_self hq] at hk'
      simp at hk'; subst hk'
      refine ⟨⟨by rw [htq]; exact hcap0, fun f' hf' => by rw [hfr] at hf'; simp at hf'; omega⟩, fun _ => ⟨w.heap.size, 0, fun i j => arr.getD (i * U.sz o.τ + j) undef, by rw [htq], ⟨fun i j hi hj => ?_, fun i hi j d hd => ?_, fun hl x hx hx' => ?_⟩⟩⟩
      · have h1 : i * U.sz o.τ + j < cap * U.sz o.τ := idx_lt (Nat.lt_of_lt_of_le hi hcap) hj
        have hlt : i * U.sz o.τ + j < arr.length := by omega
        rw [Nat.zero_add]
        refine ⟨?_, ?_⟩
        · rw [List.getD_eq_getElem?_getD, List.getElem?_eq_getElem hlt]
          exact cell_new w arr t _ _ (List.getElem?_eq_getElem hlt)
        · unfold Mode
          rw [hfr]
          refine ⟨fun hif => ?_, fun hif => ⟨?_, by simp⟩⟩
          · show g'.ω _ _ = _
            rw [hωn, if_pos (idx_lt hif hj)]
          · have : f * U.sz o.τ ≤ i * U.sz o.τ := Nat.mul_le_mul_right _ hif
            rw [hωn, if_neg (by omega), if_pos hlt]
      · obtain ⟨u, hu, hr⟩ := hrel i hi j d hd
        rw [List.getD_eq_getElem?_getD, hu]
        exact hr.mono hg.st
      · rw [htq] at hx'
        have hx'' : x < cap * U.sz o.τ := hx'
        have hlt : x < arr.length := by omega
        have hx0 : o.xs.length * U.sz o.τ ≤ x := hx
        have : f * U.sz o.τ ≤ o.xs.length * U.sz o.τ := Nat.mul_le_mul_right _ hf
        rw [Nat.zero_add]
        exact ⟨by rw [hωn, if_neg (by omega), if_pos hlt], ⟨_, cell_new w arr t x _ (List.getElem?_eq_getElem hlt)⟩, by simp⟩
    · rw [List.getElem?_set_ne (Ne.symm e)] at hk'
      exact (h.obs k o' hk').keep hg.st (hs _) (htn k e)
  · intro b i x hx
    rcases Nat.lt_or_ge b w.heap.size with hb | hb
    · rw [hω b i hb] at hx
      exact ⟨Nat.lt_of_lt_of_le hb hext.le, (h.own b i x hx).2⟩
    · by_cases e : b = w.heap.size
      · exact ⟨by simp; omega, .inl (by have := h.ext.size; omega)⟩
      · have hx' : (if b = w.heap.size then (if i < f * U.sz o.τ then some Own.st else if i < arr.length then some (.obj q) else none) else g.ω b i) = some x := hx
        rw [if_neg e] at hx'
        have := (h.own b i x hx').1; omega

theorem spent_ver (o : Ob U) : o.ver ≤ o.spent.ver ∧ (o.ver = o.spent.ver → o.spent.xs.length = o.xs.length ∧ U.sz o.spent.τ = U.sz o.τ) := by
  unfold Ob.spent
  split
  · exact ⟨Nat.le_refl _, fun _ => ⟨rfl, rfl⟩⟩
  · refine ⟨Nat.le_succ _, fun e => ?_⟩
    have e' : o.ver = o.ver + 1 := e
    omega

/-- What is left of an object that has been appended to. -/
theorem spent_rel {k : Nat} {o : Ob U} (h : ObRel E g w k o) : ObRel E g w k o.spent := by
  unfold Ob.spent
  split
  · rename_i hf
    obtain ⟨⟨h1, _⟩, h2⟩ := h
    refine ⟨⟨h1, by rw [hf]; simp⟩, fun hc => ?_⟩
    obtain ⟨b, off, cv, e, hA⟩ := h2 hc
    exact ⟨b, off, cv, e, ⟨hA.cell, hA.rel, by simp⟩⟩
  · refine ⟨⟨⟨Nat.zero_le _, Nat.zero_le _⟩, by simp⟩, fun hc => ?_⟩
    obtain ⟨b, off, cv, e, hA⟩ := h.2 hc
    exact ⟨b, off, cv, e, ⟨fun i j hi => absurd hi (Nat.not_lt_zero _), fun i hi => absurd hi (Nat.not_lt_zero _), by simp⟩⟩

theorem Sim.spend (h : Sim P E fr g s a w) {k : Nat} {o : Ob U} (hk : s.ob[k]? = some (some o)) : Sim P E fr g { s with ob := s.ob.set k (some o.spent) } a w ∧ GLe g s.ob w g (s.ob.set k (some o.spent)) w := by
  have hklt : k < s.ob.length := (List.getElem?_eq_some_iff.1 hk).1
  have hg : GLe g s.ob w g (s.ob.set k (some o.spent)) w := by
    refine ⟨Keeps.refl _ _, fun _ hl => ⟨hl, rfl⟩, fun q o' hq => ?_⟩
    by_cases e : q = k
    · subst e
      rw [hk] at hq; simp at hq; subst hq
      exact ⟨_, List.getElem?_set_self hklt, (spent_ver o).1, fun e => ⟨((spent_ver o).2 e).1, ((spent_ver o).2 e).2, rfl⟩⟩
    · exact ⟨o', by rw [List.getElem?_set_ne (Ne.symm e)]; exact hq, Nat.le_refl _, fun _ => ⟨rfl, rfl, rfl⟩⟩
  refine ⟨{ ext := h.ext, tms := h.tms.imp fun _ _ => AVRel.mono hg, bxs := fun q fz cells hc => ?_, lbs := h.lbs, obs := fun q o' hq => ?_, own := h.own, dfr := h.dfr, fix := h.fix, bas := h.bas }, hg⟩
  · obtain ⟨hl, hb⟩ := h.bxs q fz cells hc
    exact ⟨hl, hb.keep hl hg (fun b i hx => ⟨hx, rfl, rfl⟩)⟩
  · have hq' : (s.ob.set k (some o.spent))[q]? = some (some o') := hq
    by_cases e : q = k
    · subst e
      rw [List.getElem?_set_self hklt] at hq'
      simp at hq'; subst hq'
      exact spent_rel (h.obs q o hk)
    · rw [List.getElem?_set_ne (Ne.symm e)] at hq'
      exact h.obs q o' hq'

theorem set_set_ne {α : Type} {l : List α} {i j : Nat} {x y : α} (h : i ≠ j) : (l.set i x).set j y = (l.set j y).set i x := List.set_comm _ _ h

open Classical in
/-- An object grows within its room. -/
theorem Sim.appIn (h : Sim P E fr g s a w) {k q : Nat} {o : Ob U} {ver : Nat} {ys : List (U.Den o.τ)} (hz : 0 < U.sz o.τ) (hk : s.ob[k]? = some (some o)) (hlive : o.live = true) (hq : q < s.ob.length) (hver : ∀ o0, s.ob[q]? = some (some o0) → o0.ver < ver)
    (hroom : o.xs.length + ys.length ≤ (g.tk k).2) (hmx : o.xs.length + ys.length ≤ 9223372036854775807) {us : List Value} (hus : us.length = ys.length * U.sz o.τ) {w' : World} (hst : us = [] ∧ w' = w ∨ ∃ b off, (g.tk k).1 = some ⟨b, off, none⟩ ∧ Stored w w' b (off + o.xs.length * U.sz o.τ) us)
    (hrel : ∀ i (hi : i < ys.length) j d, (E.enc o.τ ys[i])[j]? = some d → ∃ u, us[i * U.sz o.τ + j]? = some u ∧ VRel E g.St w u d) :
    ∃ g', Sim P E fr g' { s with ob := (s.ob.set k (some o.spent)).set q (some ⟨ver, o.τ, o.xs ++ ys, some o.frozen, true⟩) } a w' ∧
      CRel P E g' ((s.ob.set k (some o.spent)).set q (some ⟨ver, o.τ, o.xs ++ ys, some o.frozen, true⟩)) w' (.slice (g.tk k).1 (o.xs.length + ys.length) (g.tk k).2) (.ob q ver) := by
  have hoR := h.obs k o hk
  have hklt : k < s.ob.length := (List.getElem?_eq_some_iff.1 hk).1
  let g' : G := { g with ω := fun b i => if g.ω b i = some (.obj k) then some (.obj q) else g.ω b i, tk := fun k' => if k' = q then g.tk k else g.tk k' }
  have htq : g'.tk q = g.tk k := by show (if q = q then _ else _) = _; rw [if_pos rfl]
  have htn : ∀ k', k' ≠ q → g'.tk k' = g.tk k' := fun k' e => by show (if k' = q then _ else _) = _; rw [if_neg e]
  have hwk : ∀ b i, g.ω b i = some (.obj k) → g'.ω b i = some (.obj q) := fun b i e => by show (if _ then _ else _) = _; rw [if_pos e]
  have hwn : ∀ b i x, x ≠ .obj k → g.ω b i = some x → g'.ω b i = some x := fun b i x hne e => by show (if _ then _ else _) = _; rw [if_neg (by rw [e]; simpa using hne)]; exact e
  have hfroz : o.frozen ≤ o.xs.length := by
    unfold Ob.frozen; split
    · exact Nat.le_refl _
    · rename_i f hf; exact hoR.1.2 f hf
  -- the store
  have hw : (∀ x, x ≠ Own.obj k → Same g w g w' x) ∧ FExt fr w' ∧ w'.heap.size = w.heap.size ∧ (∀ p : Addr, w'.frozen? p = w.frozen? p) := by
    rcases hst with ⟨_, rfl⟩ | ⟨b, off, e, hst⟩
    · exact ⟨fun x _ b i hx => ⟨hx, rfl, rfl⟩, h.ext, rfl, fun _ => rfl⟩
    · have hy : ∀ (i : Nat), i < us.length → g.ω b (off + o.xs.length * U.sz o.τ + i) = some (.obj k) := fun i hi => by
        have h1 : (o.xs.length + ys.length) * U.sz o.τ ≤ (g.tk k).2 * U.sz o.τ := Nat.mul_le_mul_right _ hroom
        rw [Nat.add_mul] at h1
        obtain ⟨b', off', cv, e', hA⟩ := hoR.2 (by
          rcases Nat.eq_zero_or_pos (g.tk k).2 with h0 | h0
          · rw [h0] at h1; simp at h1; omega
          · exact h0)
        rw [e] at e'; simp at e'; obtain ⟨rfl, rfl⟩ := e'
        have := (hA.spare hlive (o.xs.length * U.sz o.τ + i) (by omega) (by omega)).1
        rw [Nat.add_assoc]; exact this
      exact ⟨fun x hne => same_stored hst hy hne, h.ext.stored hst (fun i hi => h.wr (hy i hi) (by simp)), hst.size, hst.frozen⟩
  obtain ⟨hsame, hext, hsize, hfrozen⟩ := hw
  have hs : ∀ x, x ≠ Own.obj k → Same g w g' w' x := fun x hne b i hx => ⟨hwn b i x hne hx, (hsame x hne b i hx).2⟩
  have hst' : Keeps g.St w g'.St w' := (hs .st (by simp)).keeps
  have hg1 : GLe g s.ob w g' ((s.ob.set k (some o.spent)).set q (some ⟨ver, o.τ, o.xs ++ ys, some o.frozen, true⟩)) w' := by
    refine ⟨hst', fun _ hl => ⟨hl, rfl⟩, fun k' o' hk' => ?_⟩
    by_cases e : k' = q
    · subst e
      have := hver o' hk'
      exact ⟨_, List.getElem?_set_self (by simpa using hq), by show _ ≤ ver; omega, fun e => by have e' : o'.ver = ver := e; omega⟩
    · rw [List.getElem?_set_ne (Ne.symm e)]
      by_cases e2 : k' = k
      · subst e2
        rw [hk] at hk'; simp at hk'; subst hk'
        exact ⟨_, List.getElem?_set_self hklt, (spent_ver o).1, fun e => ⟨((spent_ver o).2 e).1, ((spent_ver o).2 e).2, htn _ (by assumption)⟩⟩
      · rw [List.getElem?_set_ne (Ne.symm e2)]
        exact ⟨o', hk', Nat.le_refl _, fun _ => ⟨rfl, rfl, htn _ e⟩⟩
  refine ⟨g', ?_, ⟨rfl, _, List.getElem?_set_self (by simpa using hq), Nat.le_refl _, fun _ => by rw [htq]; simp⟩⟩
  refine { ext := hext, tms := h.tms.imp fun _ _ => AVRel.mono hg1, bxs := fun k' fz cells hc => ?_, lbs := h.lbs, obs := ?_, own := ?_, dfr := h.dfr, fix := h.fix, bas := h.bas }
  · obtain ⟨hl, hb⟩ := h.bxs k' fz cells hc
    exact ⟨hl, hb.keep hl hg1 (hs _ (by simp))⟩
  · intro k' o' hk'
    have hk2 : ((s.ob.set k (some o.spent)).set q (some ⟨ver, o.τ, o.xs ++ ys, some o.frozen, true⟩))[k']? = some (some o') := hk'
    by_cases e : k' = q
    · subst e
      rw [List.getElem?_set_self (by simpa using hq)] at hk2
      simp at hk2; subst hk2
      refine ⟨⟨by rw [htq]; simpa using ⟨hroom, hmx⟩, fun f hf => by simp at hf; subst hf; simp; omega⟩, fun hc => ?_⟩
      rw [htq] at hc ⊢
      obtain ⟨b, off, cv, e, hA⟩ := hoR.2 hc
      refine ⟨b, off, fun i j => if i < o.xs.length then cv i j else us.getD ((i - o.xs.length) * U.sz o.τ + j) undef, e, ⟨fun i j hi hj => ?_, fun i hi j d hd => ?_, fun hl x hx hx' => ?_⟩⟩
      · have hj' : j < U.sz o.τ := hj
        have hi' : i < o.xs.length + ys.length := by simpa using hi
        rcases Nat.lt_or_ge i o.xs.length with hlt | hge
        · obtain ⟨c1, c2⟩ := hA.cell i j hlt hj'
          simp only [if_pos hlt]
          unfold Mode at c2 ⊢
          have hcase : (g.St b (off + i * U.sz o.τ + j) ∧ i < o.frozen) ∨ (o.frozen ≤ i ∧ g.ω b (off + i * U.sz o.τ + j) = some (.obj k) ∧ w.frozen? ⟨b, off + i * U.sz o.τ + j, none⟩ = false) := by
            split at c2
            · rename_i hf
              have hz : o.frozen = o.xs.length := by unfold Ob.frozen; rw [hf]
              exact .inl ⟨c2, by rw [hz]; exact hlt⟩
            · rename_i f hf
              have hz : o.frozen = f := by unfold Ob.frozen; rw [hf]
              rw [hz]
              rcases Nat.lt_or_ge i f with h1 | h1
              · exact .inl ⟨c2.1 h1, h1⟩
              · exact .inr ⟨h1, c2.2 h1⟩
          rcases hcase with ⟨h1, h2⟩ | ⟨h1, h2, h3⟩
          · obtain ⟨k1, k2⟩ := hst' _ _ h1
            exact ⟨by rw [k2]; exact c1, fun _ => k1, fun hh => by have hh' : o.frozen ≤ i := hh; omega⟩
          · have hcell : w'.cell? ⟨b, off + i * U.sz o.τ + j, none⟩ = w.cell? ⟨b, off + i * U.sz o.τ + j, none⟩ := by
              rcases hst with ⟨_, rfl⟩ | ⟨b', off', e', hst⟩
              · rfl
              · rw [e] at e'; simp at e'; obtain ⟨rfl, rfl⟩ := e'
                exact hst.other _ (.inl (by have := idx_lt hlt hj'; show off + i * U.sz o.τ + j < _; omega))
            exact ⟨by rw [hcell]; exact c1, fun hh => by have hh' : i < o.frozen := hh; omega, fun _ => ⟨hwk _ _ h2, by rw [hfrozen]; exact h3⟩⟩
        · have hn : ¬ i < o.xs.length := by omega
          simp only [if_neg hn]
          have hidx : (i - o.xs.length) * U.sz o.τ + j < us.length := by rw [hus]; exact idx_lt (by omega) hj'
          have hsplit : i * U.sz o.τ = o.xs.length * U.sz o.τ + (i - o.xs.length) * U.sz o.τ := by rw [← Nat.add_mul]; congr 1; omega
          have hlt2 : i * U.sz o.τ + j < (g.tk k).2 * U.sz o.τ := idx_lt (by omega) hj'
          obtain ⟨d1, _, d3⟩ := hA.spare hlive (i * U.sz o.τ + j) (by omega) hlt2
          rw [← Nat.add_assoc] at d1 d3
          refine ⟨?_, ?_⟩
          · rcases hst with ⟨hnil, _⟩ | ⟨b', off', e', hst⟩
            · rw [hnil] at hidx; simp at hidx
            · rw [e] at e'; simp at e'; obtain ⟨rfl, rfl⟩ := e'
              have := hst.cell _ _ (List.getElem?_eq_getElem hidx)
              rw [List.getD_eq_getElem?_getD, List.getElem?_eq_getElem hidx]
              have e2 : off + o.xs.length * U.sz o.τ + ((i - o.xs.length) * U.sz o.τ + j) = off + i * U.sz o.τ + j := by omega
              rw [e2] at this; exact this
          · unfold Mode
            exact ⟨fun hh => by have hh' : i < o.frozen := hh; omega, fun _ => ⟨hwk _ _ d1, by rw [hfrozen]; exact d3⟩⟩
      · rcases Nat.lt_or_ge i o.xs.length with hlt | hge
        · have hd' : (E.enc o.τ o.xs[i])[j]? = some d := by
            have : (o.xs ++ ys)[i] = o.xs[i] := List.getElem_append_left hlt
            rw [← this]; exact hd
          simp only [if_pos hlt]
          exact (hA.rel i hlt j d hd').mono hst'
        · have hn : ¬ i < o.xs.length := by omega
          have hi2 : i - o.xs.length < ys.length := by have : i < (o.xs ++ ys).length := hi; simp at this; omega
          have hd' : (E.enc o.τ ys[i - o.xs.length])[j]? = some d := by
            have : (o.xs ++ ys)[i] = ys[i - o.xs.length] := List.getElem_append_right hge
            rw [← this]; exact hd
          obtain ⟨u, hu, hr⟩ := hrel _ hi2 j d hd'
          simp only [if_neg hn]
          rw [List.getD_eq_getElem?_getD, hu]
          exact hr.mono hst'
      · have hx0 : (o.xs ++ ys).length * U.sz o.τ ≤ x := hx
        rw [List.length_append, Nat.add_mul] at hx0
        obtain ⟨d1, ⟨v, d2⟩, d3⟩ := hA.spare hlive x (by omega) hx'
        refine ⟨hwk _ _ d1, ⟨v, ?_⟩, by rw [hfrozen]; exact d3⟩
        rcases hst with ⟨_, rfl⟩ | ⟨b', off', e', hst⟩
        · exact d2
        · rw [e] at e'; simp at e'; obtain ⟨rfl, rfl⟩ := e'
          rw [hst.other _ (.inr (.inl (by show off + o.xs.length * U.sz o.τ + us.length ≤ off + x; omega)))]; exact d2
    · rw [List.getElem?_set_ne (Ne.symm e)] at hk2
      by_cases e2 : k' = k
      · subst e2
        rw [List.getElem?_set_self hklt] at hk2
        simp at hk2; subst hk2
        obtain ⟨⟨i1, i2⟩, i3⟩ := spent_rel hoR
        refine ⟨⟨by rw [htn _ e]; exact i1, i2⟩, fun hc => ?_⟩
        rw [htn _ e] at hc ⊢
        obtain ⟨b, off, cv, e', hA⟩ := i3 hc
        refine ⟨b, off, cv, e', ⟨fun i j hi hj => ?_, fun i hi j d hd => (hA.rel i hi j d hd).mono hst', fun hl => ?_⟩⟩
        · obtain ⟨c1, c2⟩ := hA.cell i j hi hj
          unfold Mode at c2 ⊢
          have hsf : o.spent.fr = none := by unfold Ob.spent; split <;> first | rfl | assumption
          simp only [hsf] at c2 ⊢
          obtain ⟨k1, k2⟩ := hst' _ _ c2
          exact ⟨by rw [k2]; exact c1, k1⟩
        · have hsl : o.spent.live = false := by unfold Ob.spent; split <;> rfl
          rw [hsl] at hl; simp at hl
      · rw [List.getElem?_set_ne (Ne.symm e2)] at hk2
        exact (h.obs k' o' hk2).keep hst' (hs _ (by simpa using e2)) (htn _ e)
  · intro b i x hx
    rw [hsize]
    have hx' : (if g.ω b i = some (.obj k) then some (Own.obj q) else g.ω b i) = some x := hx
    split at hx'
    · rename_i hc
      exact ⟨(h.own b i _ hc).1, (h.wr hc (by simp)).elim .inl (fun hh => .inr (.inl hh))⟩
    · exact h.own b i x hx'

theorem splice_enc {α : Type} (l l' : List α) (off j : Nat) (d : α) (hl : off + l'.length ≤ l.length) (h : (l.take off ++ l' ++ l.drop (off + l'.length))[j]? = some d) :
    (off ≤ j ∧ j < off + l'.length ∧ l'[j - off]? = some d) ∨ ((j < off ∨ off + l'.length ≤ j) ∧ l[j]? = some d) := splice_get l l' off j d hl h

/-- A store into an object. -/
theorem Sim.storeObj (h : Sim P E fr g s a w) {k i off f b off0 : Nat} {o : Ob U} {y : U.Den o.τ} {us : List Value} {vs : List (V U)} {w' : World} (hk : s.ob[k]? = some (some o)) (hfr : o.fr = some f) (hfi : f ≤ i) (hi : i < o.xs.length) (htk : (g.tk k).1 = some ⟨b, off0, none⟩)
    (hst : Stored w w' b (off0 + i * U.sz o.τ + off) us) (hlen : off + vs.length ≤ U.sz o.τ) (hrel : All2 (VRel E g.St w) us vs) (hy : E.enc o.τ y = (E.enc o.τ o.xs[i]).take off ++ vs ++ (E.enc o.τ o.xs[i]).drop (off + vs.length)) :
    Sim P E fr g { s with ob := s.ob.set k (some { o with xs := o.xs.set i y }) } a w' := by
  have hklt : k < s.ob.length := (List.getElem?_eq_some_iff.1 hk).1
  have hoR := h.obs k o hk
  obtain ⟨b', off', cv, e', hA⟩ := hoR.2 (by have := hoR.1.1; omega)
  rw [htk] at e'; simp at e'; obtain ⟨rfl, rfl⟩ := e'
  have hul := hrel.length
  have hyω : ∀ (j : Nat), j < us.length → g.ω b (off0 + i * U.sz o.τ + off + j) = some (.obj k) := fun j hj => by
    have := (hA.cell i (off + j) hi (by omega)).2
    unfold Mode at this; rw [hfr] at this
    have := (this.2 hfi).1
    rw [← Nat.add_assoc] at this; exact this
  have hs : ∀ x, x ≠ Own.obj k → Same g w g w' x := fun x hne => same_stored hst hyω hne
  have hst' : Keeps g.St w g.St w' := (hs .st (by simp)).keeps
  have hg : GLe g s.ob w g (s.ob.set k (some { o with xs := o.xs.set i y })) w' := by
    refine ⟨hst', fun _ hl => ⟨hl, rfl⟩, fun q o' hq => ?_⟩
    by_cases e : q = k
    · subst e
      rw [hk] at hq; simp at hq; subst hq
      exact ⟨_, List.getElem?_set_self hklt, Nat.le_refl _, fun _ => ⟨by simp, rfl, rfl⟩⟩
    · exact ⟨o', by rw [List.getElem?_set_ne (Ne.symm e)]; exact hq, Nat.le_refl _, fun _ => ⟨rfl, rfl, rfl⟩⟩
  refine { ext := h.ext.stored hst (fun j hj => h.wr (hyω j hj) (by simp)), tms := h.tms.imp fun _ _ => AVRel.mono hg, bxs := fun q fz cells hc => ?_, lbs := h.lbs, obs := ?_, own := fun b o x hx => by rw [hst.size]; exact h.own b o x hx, dfr := h.dfr, fix := h.fix, bas := h.bas }
  · obtain ⟨hl, hb⟩ := h.bxs q fz cells hc
    exact ⟨hl, hb.keep hl hg (hs _ (by simp))⟩
  · intro q o' hq
    have hq' : (s.ob.set k (some { o with xs := o.xs.set i y }))[q]? = some (some o') := hq
    by_cases e : q = k
    · subst e
      rw [List.getElem?_set_self hklt] at hq'
      simp at hq'; subst hq'
      refine ⟨⟨by simpa using hoR.1.1, fun f' hf' => by simpa using hoR.1.2 f' hf'⟩, fun hc => ⟨b, off0, fun i' j => if i' = i ∧ off ≤ j ∧ j < off + us.length then us.getD (j - off) undef else cv i' j, htk, ⟨fun i' j hi' hj => ?_, fun i' hi' j d hd => ?_, fun hl x hx hx' => ?_⟩⟩⟩
      · have hi2 : i' < o.xs.length := by simpa using hi'
        have hj2 : j < U.sz o.τ := hj
        obtain ⟨c1, c2⟩ := hA.cell i' j hi2 hj2
        have hmode : Mode g w' q o.fr i' b (off0 + i' * U.sz o.τ + j) := by
          unfold Mode at c2 ⊢
          rw [hfr] at c2 ⊢
          exact ⟨c2.1, fun hh => ⟨(c2.2 hh).1, by rw [hst.frozen]; exact (c2.2 hh).2⟩⟩
        refine ⟨?_, hmode⟩
        by_cases hin : i' = i ∧ off ≤ j ∧ j < off + us.length
        · obtain ⟨rfl, h1, h2⟩ := hin
          rw [if_pos (show i' = i' ∧ off ≤ j ∧ j < off + us.length from ⟨rfl, h1, h2⟩)]
          have hlt : j - off < us.length := by omega
          have := hst.cell _ _ (List.getElem?_eq_getElem hlt)
          rw [List.getD_eq_getElem?_getD, List.getElem?_eq_getElem hlt]
          rw [show off0 + i' * U.sz o.τ + off + (j - off) = off0 + i' * U.sz o.τ + j from by omega] at this
          exact this
        · rw [if_neg hin]
          rw [hst.other _ ?_]
          · exact c1
          · show off0 + i' * U.sz o.τ + j < off0 + i * U.sz o.τ + off ∨ off0 + i * U.sz o.τ + off + us.length ≤ off0 + i' * U.sz o.τ + j ∨ b ≠ b
            rcases Nat.lt_trichotomy i' i with hlt | rfl | hgt
            · have h1 : (i' + 1) * U.sz o.τ ≤ i * U.sz o.τ := Nat.mul_le_mul_right _ hlt
              rw [Nat.add_mul] at h1
              exact .inl (by omega)
            · by_cases h1 : off ≤ j
              · by_cases h2 : j < off + us.length
                · exact (hin ⟨rfl, h1, h2⟩).elim
                · exact .inr (.inl (by omega))
              · exact .inl (by omega)
            · have h1 : (i + 1) * U.sz o.τ ≤ i' * U.sz o.τ := Nat.mul_le_mul_right _ hgt
              rw [Nat.add_mul] at h1
              exact .inr (.inl (by omega))
      · have hi2 : i' < o.xs.length := by simpa using hi'
        by_cases hii : i' = i
        · subst hii
          have hd' : (E.enc o.τ y)[j]? = some d := by
            have : (o.xs.set i' y)[i']'(by simpa using hi2) = y := List.getElem_set_self _
            rw [← this]; exact hd
          rw [hy] at hd'
          have hEl := E.len o.τ o.xs[i']
          rcases splice_get _ vs off j d (by omega) hd' with ⟨g1, g2, g3⟩ | ⟨g1, g2⟩
          · rw [if_pos ⟨rfl, g1, by omega⟩]
            obtain ⟨u, hu, hr⟩ := hrel.get _ g3
            rw [List.getD_eq_getElem?_getD, hu]
            exact hr.mono hst'
          · rw [if_neg (by rintro ⟨_, h1, h2⟩; omega)]
            exact (hA.rel i' hi2 j d g2).mono hst'
        · have hd' : (E.enc o.τ o.xs[i'])[j]? = some d := by
            have : (o.xs.set i y)[i']'(by simpa using hi2) = o.xs[i'] := List.getElem_set_ne (Ne.symm hii) _
            rw [← this]; exact hd
          rw [if_neg (by rintro ⟨h1, _⟩; exact hii h1)]
          exact (hA.rel i' hi2 j d hd').mono hst'
      · have hx0 : o.xs.length * U.sz o.τ ≤ x := by simpa using hx
        obtain ⟨d1, ⟨v, d2⟩, d3⟩ := hA.spare hl x hx0 hx'
        refine ⟨d1, ⟨v, ?_⟩, by rw [hst.frozen]; exact d3⟩
        rw [hst.other _ (.inr (.inl ?_))]
        · exact d2
        · show off0 + i * U.sz o.τ + off + us.length ≤ off0 + x
          have h1 : (i + 1) * U.sz o.τ ≤ o.xs.length * U.sz o.τ := Nat.mul_le_mul_right _ hi
          rw [Nat.add_mul] at h1
          omega
    · rw [List.getElem?_set_ne (Ne.symm e)] at hq'
      exact (h.obs q o' hq').keep hst' (hs _ (by simpa using e)) rfl
end Go.Proofs.Ytohpgnpjijpedaa.B
