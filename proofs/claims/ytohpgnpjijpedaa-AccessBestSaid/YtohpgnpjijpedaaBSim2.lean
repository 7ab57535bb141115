/- New boxes, stores into boxes, objects that stand still from now on. -/
import Derived.Test.YtohpgnpjijpedaaBTab
namespace Go.Proofs.Ytohpgnpjijpedaa.B
open Go Go.RowKit
variable {U : Uni} {P : Program} {E : Enc U} {fr : Fr} {w : World} {g : G} {s : S U} {a : Act}

theorem cell_new (w : World) (vs : List Value) (t : TypeId) (i : Nat) (v : Value) (h : vs[i]? = some v) : (w.alloc (.cells vs.toArray t)).cell? ⟨w.heap.size, i, none⟩ = some v := by
  simp [h]

/-- Below a new block all is as it was. -/
theorem Sim.sameNew (h : Sim P E fr g s a w) (O : Obj) {g' : G} (hω : ∀ b o, b < w.heap.size → g'.ω b o = g.ω b o) (x : Own) : Same g w g' (w.alloc O) x := by
  intro b o hx
  have hb := (h.own b o x hx).1
  have hext : Ext w (w.alloc O) := (Ext.refl _).alloc _
  exact ⟨by rw [hω b o hb]; exact hx, hext.cell (p := ⟨b, o, none⟩) hb, hext.frozen (p := ⟨b, o, none⟩) hb⟩

/-- A new box. -/
theorem Sim.newBox (h : Sim P E fr g s a w) {k : Nat} {vs : List Value} {cs : List (C U)} (t : TypeId) (hk : s.bx[k]? = some none) (hkb : s.base ≤ k) (hr : All2 (CRel P E g s.ob w) vs cs) :
    ∃ g', Sim P E fr g' { s with bx := s.bx.set k (some (false, cs)) } a (w.alloc (.cells vs.toArray t)) ∧ CRel P E g' s.ob (w.alloc (.cells vs.toArray t)) (.pointer (some ⟨w.heap.size, 0, none⟩)) (.bx k 0) := by
  have hext : Ext w (w.alloc (.cells vs.toArray t)) := (Ext.refl _).alloc _
  have hnl : ¬ g.lb k := fun hl => by obtain ⟨cells, hc⟩ := h.lbs _ hl; rw [hk] at hc; simp at hc
  let g' : G := { g with β := fun q => if q = k then w.heap.size else g.β q, lb := fun q => g.lb q ∨ q = k, ω := fun b o => if b = w.heap.size then (if o < vs.length then some (.box k) else none) else g.ω b o }
  have hω : ∀ b o, b < w.heap.size → g'.ω b o = g.ω b o := fun b o hb => by show (if b = w.heap.size then _ else _) = _; rw [if_neg (by omega)]
  have hs := fun x => h.sameNew (.cells vs.toArray t) hω x
  have hne : ∀ q, g.lb q → q ≠ k := fun q hl e => hnl (e ▸ hl)
  have hg : GLe g s.ob w g' s.ob (w.alloc (.cells vs.toArray t)) :=
    ⟨(hs .st).keeps, fun q hl => ⟨.inl hl, by show (if q = k then _ else _) = _; rw [if_neg (hne q hl)]⟩, fun q o hq => ⟨o, hq, Nat.le_refl _, fun _ => ⟨rfl, rfl, rfl⟩⟩⟩
  have hbk : g'.β k = w.heap.size := by show (if k = k then _ else _) = _; rw [if_pos rfl]
  have hklt : k < s.bx.length := (List.getElem?_eq_some_iff.1 hk).1
  refine ⟨g', ?_, ⟨.inr rfl, by rw [hbk]⟩⟩
  refine { ext := h.ext.later hext, tms := h.tms.imp fun _ _ => AVRel.mono hg, bxs := ?_, lbs := ?_, obs := fun q o hq => (h.obs q o hq).keep hg.st (hs _) rfl, own := ?_, dfr := h.dfr, fix := fun q hq hl => ?_, bas := h.bas }
  · intro q fz cells hc
    have hc' : (s.bx.set k (some (false, cs)))[q]? = some (some (fz, cells)) := hc
    by_cases e : q = k
    · subst e
      rw [List.getElem?_set_self hklt] at hc'
      simp at hc'; obtain ⟨rfl, rfl⟩ := hc'
      refine ⟨.inr rfl, vs, hr.imp fun _ _ => CRel.mono hg, fun i v hv => ?_⟩
      rw [hbk]
      refine ⟨cell_new w vs t i v hv, fun _ => ⟨by simp, ?_⟩, by simp⟩
      show (if w.heap.size = w.heap.size then _ else _) = _
      rw [if_pos rfl, if_pos (List.getElem?_eq_some_iff.1 hv).1]
    · rw [List.getElem?_set_ne (Ne.symm e)] at hc'
      obtain ⟨hl, hb⟩ := h.bxs q fz cells hc'
      exact ⟨.inl hl, hb.keep hl hg (hs _)⟩
  · intro q hl
    show ∃ c, (s.bx.set k (some (false, cs)))[q]? = some (some c)
    by_cases e : q = k
    · subst e; exact ⟨_, List.getElem?_set_self hklt⟩
    · rcases hl with hl | hl
      · obtain ⟨c, hc⟩ := h.lbs q hl
        exact ⟨c, by rw [List.getElem?_set_ne (Ne.symm e)]; exact hc⟩
      · exact (e hl).elim
  · intro b o x hx
    rcases Nat.lt_or_ge b w.heap.size with hb | hb
    · rw [hω b o hb] at hx
      exact ⟨Nat.lt_of_lt_of_le hb hext.le, (h.own b o x hx).2⟩
    · have hx' : (if b = w.heap.size then (if o < vs.length then some (Own.box k) else none) else g.ω b o) = some x := hx
      by_cases e : b = w.heap.size
      · exact ⟨by simp; omega, .inl (by have := h.ext.size; omega)⟩
      · rw [if_neg e] at hx'
        have := (h.own b o x hx').1; omega
  · have hne' : q ≠ k := by have := h.bas; omega
    show (if q = k then w.heap.size else g.β q) = fr.β q
    rw [if_neg hne']
    rcases hl with hl | hl
    · exact h.fix q hq hl
    · exact (hne' hl).elim

theorem All2.splice {α β : Type} {R : α → β → Prop} {l l' : List α} {r r' : List β} (h : All2 R l r) (h' : All2 R l' r') (off : Nat) :
    All2 R (l.take off ++ l' ++ l.drop (off + l'.length)) (r.take off ++ r' ++ r.drop (off + r'.length)) := by
  rw [h'.length]
  exact ((h.take off).append h').append (h.drop _)

theorem splice_get {α : Type} (l l' : List α) (off i : Nat) (v : α) (hl : off + l'.length ≤ l.length) (h : (l.take off ++ l' ++ l.drop (off + l'.length))[i]? = some v) :
    (off ≤ i ∧ i < off + l'.length ∧ l'[i - off]? = some v) ∨ ((i < off ∨ off + l'.length ≤ i) ∧ l[i]? = some v) := by
  have ht : (l.take off).length = off := by simp; omega
  rcases Nat.lt_or_ge i off with h1 | h1
  · right
    refine ⟨.inl h1, ?_⟩
    rw [List.append_assoc, List.getElem?_append_left (by omega), List.getElem?_take_of_lt h1] at h
    exact h
  · rcases Nat.lt_or_ge i (off + l'.length) with h2 | h2
    · left
      rw [List.append_assoc, List.getElem?_append_right (by omega), ht, List.getElem?_append_left (by omega)] at h
      exact ⟨h1, h2, h⟩
    · right
      refine ⟨.inr h2, ?_⟩
      rw [List.getElem?_append_right (by simp; omega), List.getElem?_drop] at h
      simp only [List.length_append, ht] at h
      rw [show off + l'.length + (i - (off + l'.length)) = i from by omega] at h
      exact h

/-- A store into cells of one owner leaves the others' as they were. -/
theorem same_stored {g : G} {w w' : World} {b off : Nat} {vs : List Value} (hst : Stored w w' b off vs) {y : Own} (hy : ∀ (i : Nat), i < vs.length → g.ω b (off + i) = some y) {x : Own} (hne : x ≠ y) : Same g w g w' x := by
  intro b' o hx
  refine ⟨hx, hst.other _ ?_, hst.frozen _⟩
  by_cases e : b' = b
  · subst e
    by_cases h1 : o < off
    · exact .inl h1
    · by_cases h2 : off + vs.length ≤ o
      · exact .inr (.inl h2)
      · have := hy (o - off) (by omega)
        rw [show off + (o - off) = o from by omega, hx] at this
        simp at this; exact (hne this).elim
  · exact .inr (.inr e)

/-- A store into a box. -/
theorem Sim.store (h : Sim P E fr g s a w) {k off : Nat} {cells cs : List (C U)} {vs : List Value} {w' : World} (hk : s.bx[k]? = some (some (false, cells))) (hlen : off + cs.length ≤ cells.length)
    (hr : All2 (CRel P E g s.ob w) vs cs) (hst : Stored w w' (g.β k) off vs) : Sim P E fr g { s with bx := s.bx.set k (some (false, cells.take off ++ cs ++ cells.drop (off + cs.length))) } a w' := by
  obtain ⟨hl, vs0, h1, h2⟩ := h.bxs k false cells hk
  have hvl := hr.length
  have hv0 := h1.length
  have hy : ∀ (i : Nat), i < vs.length → g.ω (g.β k) (off + i) = some (.box k) := fun i hi => by
    have hlt : off + i < vs0.length := by omega
    exact ((h2 _ _ (List.getElem?_eq_getElem hlt)).2.1 rfl).2
  have hs := fun x (hne : x ≠ Own.box k) => same_stored hst hy hne
  have hg : GLe g s.ob w g s.ob w' := { GLe.refl g s.ob w with st := (hs .st (by simp)).keeps }
  have hklt : k < s.bx.length := (List.getElem?_eq_some_iff.1 hk).1
  refine { ext := h.ext.stored hst (fun i hi => h.wr (hy i hi) (by simp)), tms := h.tms.imp fun _ _ => AVRel.mono hg, bxs := ?_, lbs := ?_, obs := fun q o hq => (h.obs q o hq).keep hg.st (hs _ (by simp)) rfl, own := fun b o x hx => by rw [hst.size]; exact h.own b o x hx, dfr := h.dfr, fix := h.fix, bas := h.bas }
  · intro q fz cells' hc
    have hc' : (s.bx.set k (some (false, cells.take off ++ cs ++ cells.drop (off + cs.length))))[q]? = some (some (fz, cells')) := hc
    by_cases e : q = k
    · subst e
      rw [List.getElem?_set_self hklt] at hc'
      simp at hc'; obtain ⟨rfl, rfl⟩ := hc'
      refine ⟨hl, vs0.take off ++ vs ++ vs0.drop (off + vs.length), ?_, fun i u hu => ?_⟩
      · have := (h1.splice hr off).imp fun _ _ => CRel.mono hg
        simpa [List.append_assoc] using this
      · have hlt : i < vs0.length := by
          have := (List.getElem?_eq_some_iff.1 hu).1
          simp only [List.length_append, List.length_take, List.length_drop] at this; omega
        obtain ⟨i1, i2, _⟩ := h2 i _ (List.getElem?_eq_getElem hlt)
        rcases splice_get vs0 vs off i u (by omega) hu with ⟨g1, g2, g3⟩ | ⟨g1, g2⟩
        · have := hst.cell (i - off) u g3
          rw [show off + (i - off) = i from by omega] at this
          exact ⟨this, fun _ => ⟨by rw [hst.frozen]; exact (i2 rfl).1, (i2 rfl).2⟩, by simp⟩
        · exact ⟨by rw [hst.other _ (by rcases g1 with g1 | g1; exact .inl g1; exact .inr (.inl g1))]; exact (h2 i u g2).1, fun _ => ⟨by rw [hst.frozen]; exact (i2 rfl).1, (i2 rfl).2⟩, by simp⟩
    · rw [List.getElem?_set_ne (Ne.symm e)] at hc'
      obtain ⟨hl', hb⟩ := h.bxs q fz cells' hc'
      exact ⟨hl', hb.keep hl' hg (hs _ (by simpa using e))⟩
  · intro q hl'
    obtain ⟨c, hc⟩ := h.lbs q hl'
    show ∃ c, (s.bx.set k _)[q]? = some (some c)
    by_cases e : q = k
    · subst e; exact ⟨_, List.getElem?_set_self hklt⟩
    · exact ⟨c, by rw [List.getElem?_set_ne (Ne.symm e)]; exact hc⟩

/-! ### objects that stand still from now on -/
open Classical in
theorem Sim.frz1 (h : Sim P E fr g s a w) {k : Nat} {o : Ob U} (hk : s.ob[k]? = some (some o)) :
    ∃ g', Sim P E fr g' { s with ob := s.ob.set k (some { o with fr := none }) } a w ∧ GLe g s.ob w g' (s.ob.set k (some { o with fr := none })) w := by
  let g' : G := { g with ω := fun b i => if g.ω b i = some (.obj k) ∧ ∃ off, (g.tk k).1 = some ⟨b, off, none⟩ ∧ off ≤ i ∧ i < off + o.xs.length * U.sz o.τ then some .st else g.ω b i }
  have hω : ∀ b i x, x ≠ .obj k → g.ω b i = some x → g'.ω b i = some x := fun b i x hne hx => by
    show (if _ then _ else _) = _
    rw [if_neg (by rintro ⟨h1, _⟩; rw [hx] at h1; simp at h1; exact hne h1)]; exact hx
  have hs : ∀ x, x ≠ .obj k → Same g w g' w x := fun x hne b i hx => ⟨hω b i x hne hx, rfl, rfl⟩
  have hklt : k < s.ob.length := (List.getElem?_eq_some_iff.1 hk).1
  have hg : GLe g s.ob w g' (s.ob.set k (some { o with fr := none })) w := by
    refine ⟨(hs .st (by simp)).keeps, fun q hl => ⟨hl, rfl⟩, fun q o' hq => ?_⟩
    by_cases e : q = k
    · subst e
      rw [hk] at hq; simp at hq; subst hq
      exact ⟨_, List.getElem?_set_self hklt, Nat.le_refl _, fun _ => ⟨rfl, rfl, rfl⟩⟩
    · exact ⟨o', by rw [List.getElem?_set_ne (Ne.symm e)]; exact hq, Nat.le_refl _, fun _ => ⟨rfl, rfl, rfl⟩⟩
  refine ⟨g', ?_, hg⟩
  refine { ext := h.ext, tms := h.tms.imp fun _ _ => AVRel.mono hg, bxs := fun q fz cells hc => ?_, lbs := h.lbs, obs := ?_, own := ?_, dfr := h.dfr, fix := h.fix, bas := h.bas }
  · obtain ⟨hl, hb⟩ := h.bxs q fz cells hc
    exact ⟨hl, hb.keep hl hg (hs _ (by simp))⟩
  · intro q o' hq
    have hq' : (s.ob.set k (some { o with fr := none }))[q]? = some (some o') := hq
    by_cases e : q = k
    · subst e
      rw [List.getElem?_set_self hklt] at hq'
      simp at hq'; subst hq'
      obtain ⟨⟨h1, _⟩, h2⟩ := h.obs q o hk
      refine ⟨⟨h1, by simp⟩, fun hc => ?_⟩
      obtain ⟨b, off, cv, e, hA⟩ := h2 hc
      refine ⟨b, off, cv, e, ⟨fun i j hi hj => ?_, fun i hi j d hd => (hA.rel i hi j d hd).mono hg.st, fun hl x hx hx' => ?_⟩⟩
      · obtain ⟨c1, c2⟩ := hA.cell i j hi hj
        refine ⟨c1, ?_⟩
        have hin : off + i * U.sz o.τ + j < off + o.xs.length * U.sz o.τ := by
          have : (i + 1) * U.sz o.τ ≤ o.xs.length * U.sz o.τ := Nat.mul_le_mul_right _ hi
          have hj' : j < U.sz o.τ := hj
          rw [Nat.add_mul] at this; omega
        have hst : g.ω b (off + i * U.sz o.τ + j) = some .st ∨ g.ω b (off + i * U.sz o.τ + j) = some (.obj q) := by
          unfold Mode at c2
          split at c2
          · exact .inl c2
          · rename_i f _
            rcases Nat.lt_or_ge i f with hlt | hge
            · exact .inl (c2.1 hlt)
            · exact .inr (c2.2 hge).1
        show g'.ω b _ = some .st
        rcases hst with hst | hst
        · exact hω _ _ _ (by simp) hst
        · show (if _ then _ else _) = _
          rw [if_pos ⟨hst, off, e, by omega, hin⟩]
      · obtain ⟨d1, d2, d3⟩ := hA.spare hl x hx hx'
        refine ⟨?_, d2, d3⟩
        show (if _ then _ else _) = _
        rw [if_neg ?_]
        · exact d1
        · rintro ⟨_, off', e', h1', h2'⟩
          rw [e] at e'; simp at e'; subst e'
          have : o.xs.length * U.sz o.τ ≤ x := hx
          omega
    · rw [List.getElem?_set_ne (Ne.symm e)] at hq'
      exact (h.obs q o' hq').keep hg.st (hs _ (by simpa using e)) rfl
  · intro b i x hx
    have hx' : (if g.ω b i = some (.obj k) ∧ ∃ off, (g.tk k).1 = some ⟨b, off, none⟩ ∧ off ≤ i ∧ i < off + o.xs.length * U.sz o.τ then some Own.st else g.ω b i) = some x := hx
    split at hx'
    · rename_i hc
      simp at hx'; subst hx'
      exact ⟨(h.own b i _ hc.1).1, (h.wr hc.1 (by simp)).elim .inl (fun hh => .inr (.inl hh))⟩
    · exact h.own b i x hx'

/-- The same objects, some of them frozen. -/
def FrzLe (ob ob' : List (Option (Ob U))) : Prop := ∀ k : Nat, (∀ o : Ob U, ob[k]? = some (some o) → ∃ o', ob'[k]? = some (some o') ∧ (o' = o ∨ o' = ({ o with fr := none } : Ob U))) ∧ ((∀ o : Ob U, ob[k]? ≠ some (some o)) → ob'[k]? = ob[k]?)
theorem FrzLe.refl (ob : List (Option (Ob U))) : FrzLe ob ob := fun _ => ⟨fun o h => ⟨o, h, .inl rfl⟩, fun _ => rfl⟩

theorem Sim.frzs {ob0 : List (Option (Ob U))} : ∀ (ks : List Nat) {g : G} {s : S U} {s0 : S U}, s0.ob = ob0 → Sim P E fr g s a w → FrzLe ob0 s.ob →
    ∃ g', Sim P E fr g' { s with ob := sets s.ob (s0.frz ks) } a w ∧ GLe g s.ob w g' (sets s.ob (s0.frz ks)) w ∧ FrzLe ob0 (sets s.ob (s0.frz ks)) ∧
      (∀ k, (k ∈ ks ∨ ∀ o, s.ob[k]? = some (some o) → o.fr = none) → ∀ o, (sets s.ob (s0.frz ks))[k]? = some (some o) → o.fr = none)
  | [], g, s, s0, _, h, hf => ⟨g, h, GLe.refl _ _ _, hf, fun k hk o ho => by
      rcases hk with hk | hk
      · simp at hk
      · exact hk o ho⟩
  | k :: ks, g, s, s0, h0, h, hf => by
    simp only [S.frz]
    cases hk : s0.ob[k]? with
    | none =>
      obtain ⟨g', h1, h2, h3, h4⟩ := Sim.frzs ks h0 h hf
      refine ⟨g', h1, h2, h3, fun q hq => h4 q ?_⟩
      rcases hq with hq | hq
      · rcases List.mem_cons.1 hq with rfl | hq
        · have := (hf q).2 (by rw [← h0, hk]; simp)
          exact .inr (fun o ho => by rw [this, ← h0, hk] at ho; simp at ho)
        · exact .inl hq
      · exact .inr hq
    | some x =>
      cases x with
      | none =>
        obtain ⟨g', h1, h2, h3, h4⟩ := Sim.frzs ks h0 h hf
        refine ⟨g', h1, h2, h3, fun q hq => h4 q ?_⟩
        rcases hq with hq | hq
        · rcases List.mem_cons.1 hq with rfl | hq
          · have := (hf q).2 (by rw [← h0, hk]; simp)
            exact .inr (fun o ho => by rw [this, ← h0, hk] at ho; simp at ho)
          · exact .inl hq
        · exact .inr hq
      | some o =>
        rw [h0] at hk
        obtain ⟨o', ho', hor⟩ := (hf k).1 o hk
        have he : ({ o with fr := none } : Ob U) = { o' with fr := none } := by rcases hor with rfl | rfl <;> rfl
        obtain ⟨g1, h1, hg1⟩ := h.frz1 ho'
        have hklt : k < s.ob.length := (List.getElem?_eq_some_iff.1 ho').1
        simp only [sets]
        rw [he]
        have hf1 : FrzLe ob0 (s.ob.set k (some { o' with fr := none })) := by
          intro q
          by_cases e : q = k
          · subst e
            refine ⟨fun o2 h2 => ?_, fun hn => (hn o hk).elim⟩
            rw [hk] at h2; simp at h2; subst h2
            exact ⟨_, List.getElem?_set_self hklt, .inr he.symm⟩
          · rw [List.getElem?_set_ne (Ne.symm e)]; exact hf q
        obtain ⟨g', i1, i2, i3, i4⟩ := Sim.frzs ks h0 h1 hf1
        refine ⟨g', i1, hg1.trans i2, i3, fun q hq => i4 q ?_⟩
        rcases hq with hq | hq
        · rcases List.mem_cons.1 hq with rfl | hq
          · right
            intro o2 h2
            have h2' : (s.ob.set q (some { o' with fr := none }))[q]? = some (some o2) := h2
            rw [List.getElem?_set_self hklt] at h2'
            simp at h2'; subst h2'; rfl
          · exact .inl hq
        · right
          intro o2 h2
          have h2' : (s.ob.set k (some { o' with fr := none }))[q]? = some (some o2) := h2
          by_cases e : q = k
          · subst e
            rw [List.getElem?_set_self hklt] at h2'
            simp at h2'; subst h2'; rfl
          · rw [List.getElem?_set_ne (Ne.symm e)] at h2'
            exact hq o2 h2'

/-- What is frozen is data. -/
theorem Sim.frozenV {s0 : S U} (h : Sim P E fr g s a w) (hf : FrzLe s0.ob s.ob) {v : Value} {c : C U} {d : V U} (hk : ∀ k ∈ c.obs, ∀ o, s.ob[k]? = some (some o) → o.fr = none) (hd : s0.toV c = some d) (hc : CRel P E g s.ob w v c) : VRel E g.St w v d := by
  cases c with
  | s x => simp [S.toV] at hd; subst hd; obtain ⟨rfl, h⟩ := hc; exact .s _ h
  | sl τ xs t => simp [S.toV] at hd; subst hd; exact hc.1
  | ob k ver =>
    simp only [S.toV] at hd
    split at hd
    · rename_i o ho
      simp at hd; subst hd
      obtain ⟨h1, h2⟩ := obAt_eq ho
      obtain ⟨o', h3, h4⟩ := (hf k).1 o h1
      obtain ⟨_, o2, h5, h6, h7⟩ := hc
      rw [h3] at h5; simp at h5; subst h5
      have hfr := hk k (by simp [C.obs]) o' h3
      have hrel := (h.obs k o' h3).data hfr
      have hver : ver = o'.ver := by rcases h4 with rfl | rfl <;> exact h2.symm
      rw [h7 hver]
      rcases h4 with rfl | rfl
      · exact hrel
      · exact hrel
    · simp at hd
  | _ => simp [S.toV] at hd

theorem Sim.frozenVs {s0 : S U} (h : Sim P E fr g s a w) (hf : FrzLe s0.ob s.ob) : ∀ {vs : List Value} {cs : List (C U)} {ds : List (V U)}, (∀ k ∈ Cs.obs cs, ∀ o, s.ob[k]? = some (some o) → o.fr = none) → s0.toVs cs = some ds → All2 (CRel P E g s.ob w) vs cs → All2 (VRel E g.St w) vs ds
  | [], [], ds, _, hd, _ => by simp [S.toVs] at hd; subst hd; trivial
  | v :: vs, c :: cs, ds, hk, hd, hr => by
    simp only [S.toVs] at hd
    split at hd
    · rename_i d r h1 h2
      simp at hd; subst hd
      exact ⟨h.frozenV hf (fun k hm => hk k (by simp [Cs.obs, hm])) h1 hr.1, h.frozenVs hf (fun k hm => hk k (by simp [Cs.obs, hm])) h2 hr.2⟩
    · simp at hd
end Go.Proofs.Ytohpgnpjijpedaa.B
