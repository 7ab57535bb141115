/- The state's relation, carried over each kind of effect. -/
import Derived.Test.YtaepcbdcjbfgjaaBRun
namespace Go.Proofs.Ytaepcbdcjbfgjaa.B
open Go Go.RowKit
variable {U : Uni} {P : Program} {E : Enc U} {fr : Fr} {w : World} {g : G} {s : S U} {a : Act}

theorem getD_of_get {l : Array Value} {t : Nat} {v : Value} (h : l.toList[t]? = some v) : l.getD t undef = v := by
  rw [Array.getElem?_toList] at h
  simp [Array.getD_eq_getD_getElem?, h]

theorem Sim.slot (h : Sim P E fr g s a w) {t : Nat} {x : AV U} (hx : s.tm[t]? = some x) : AVRel P E g s.ob w (a.tmps.getD t undef) x := by
  obtain ⟨v, hv, hr⟩ := All2.get t h.tms hx
  rw [getD_of_get hv]; exact hr

theorem toList_put (l : Array Value) (d : Nat) (v : Value) : (l.setIfInBounds d v).toList = l.toList.set d v := by simp

theorem Sim.put (h : Sim P E fr g s a w) {dst : Option Nat} {v : Value} {r : Res U} (hv : AVRel P E g s.ob w v r.v) (hb : r.bw = []) (ho : r.ow = []) : Sim P E fr g (s.upd dst r) (a.put dst v) w := by
  unfold S.upd
  rw [hb, ho]
  cases dst with
  | none => exact h
  | some d =>
    have ht : All2 (AVRel P E g s.ob w) (a.tmps.setIfInBounds d v).toList (s.tm.set d r.v) := by
      rw [toList_put]; exact All2.set d h.tms hv
    exact { h with tms := ht }

/-- The slot is filled last. -/
theorem Sim.put' {s' : S U} {dst : Option Nat} {v : Value} {r : Res U} (h : Sim P E fr g { s with bx := sets s.bx r.bw, ob := sets s.ob r.ow } a w) (hv : AVRel P E g (sets s.ob r.ow) w v r.v) : Sim P E fr g (s.upd dst r) (a.put dst v) w := by
  cases dst with
  | none => exact h
  | some d =>
    have ht : All2 (AVRel P E g (sets s.ob r.ow) w) (a.tmps.setIfInBounds d v).toList (s.tm.set d r.v) := by
      rw [toList_put]; exact All2.set d h.tms hv
    exact { h with tms := ht }

/-- The cells of an owner are as they were. -/
def Same (g : G) (w : World) (g' : G) (w' : World) (x : Own) : Prop :=
  ∀ b o, g.ω b o = some x → g'.ω b o = some x ∧ w'.cell? ⟨b, o, none⟩ = w.cell? ⟨b, o, none⟩ ∧ stuck w' ⟨b, o, none⟩ = stuck w ⟨b, o, none⟩

theorem Same.keeps {g g' : G} {w w' : World} (h : Same g w g' w' .st) : Keeps g.St w g'.St w' := fun b o hs => ⟨(h b o hs).1, (h b o hs).2.1⟩

theorem BoxRel.keep {g g' : G} {ob ob' : List (Option (Ob U))} {w w' : World} {k : Nat} {fz : Bool} {cells : List (C U)} (h : BoxRel P E g ob w k fz cells) (hl : g.lb k) (hg : GLe g ob w g' ob' w') (hs : Same g w g' w' (.box k)) :
    BoxRel P E g' ob' w' k fz cells := by
  obtain ⟨vs, h1, h2⟩ := h
  refine ⟨vs, h1.imp fun _ _ => CRel.mono hg, fun i v hv => ?_⟩
  obtain ⟨i1, i2, i3⟩ := h2 i v hv
  rw [(hg.lb k hl).2]
  cases fz with
  | false =>
    obtain ⟨j1, j2⟩ := i2 rfl
    obtain ⟨k1, k2, k3⟩ := hs _ _ j2
    exact ⟨by rw [k2]; exact i1, fun _ => ⟨by rw [k3]; exact j1, k1⟩, by simp⟩
  | true =>
    obtain ⟨k1, k2⟩ := hg.st _ _ (i3 rfl)
    exact ⟨by rw [k2]; exact i1, by simp, fun _ => k1⟩

theorem ObRel.keep {g g' : G} {w w' : World} {k : Nat} {o : Ob U} (h : ObRel E g w k o) (hk : Keeps g.St w g'.St w') (hs : Same g w g' w' (.obj k)) (ht : g'.tk k = g.tk k) : ObRel E g' w' k o := by
  obtain ⟨h1, h2⟩ := h
  refine ⟨by rw [ht]; exact h1, fun hc => ?_⟩
  rw [ht] at hc ⊢
  obtain ⟨b, off, cv, e, hA⟩ := h2 hc
  refine ⟨b, off, cv, e, ⟨fun i j hi hj => ?_, fun i hi j d hd => (hA.rel i hi j d hd).mono hk, fun hl x hx hx' => ?_⟩⟩
  · obtain ⟨c1, c2⟩ := hA.cell i j hi hj
    unfold Mode at c2 ⊢
    split at c2
    · obtain ⟨k1, k2⟩ := hk _ _ c2
      exact ⟨by rw [k2]; exact c1, k1⟩
    · rename_i f hf
      rcases Nat.lt_or_ge i f with hlt | hge
      · obtain ⟨k1, k2⟩ := hk _ _ (c2.1 hlt)
        exact ⟨by rw [k2]; exact c1, fun _ => k1, fun hh => by omega⟩
      · obtain ⟨d1, d2⟩ := c2.2 hge
        obtain ⟨k1, k2, k3⟩ := hs _ _ d1
        exact ⟨by rw [k2]; exact c1, fun hh => by omega, fun _ => ⟨k1, by rw [k3]; exact d2⟩⟩
  · obtain ⟨d1, ⟨v, d2⟩, d3⟩ := hA.spare hl x hx hx'
    obtain ⟨k1, k2, k3⟩ := hs _ _ d1
    exact ⟨k1, ⟨v, by rw [k2]; exact d2⟩, by rw [k3]; exact d3⟩

theorem FExt.later {w w' : World} (h : FExt fr w) (hb : Ext w w') : FExt fr w' :=
  ⟨hb.os.trans h.os, hb.tape.trans h.tape, hb.output.trans h.output, Nat.le_trans h.size hb.le,
   fun k hk ho => (hb.block (Nat.lt_of_lt_of_le hk h.size)).trans (h.block k hk ho),
   fun b o hk ho => (hb.cell (p := ⟨b, o, none⟩) (Nat.lt_of_lt_of_le hk h.size)).trans (h.cell b o hk ho),
   fun b o hk ho => (hb.stuck (p := ⟨b, o, none⟩) (Nat.lt_of_lt_of_le hk h.size)).trans (h.frozen b o hk ho)⟩

/-- A row of stores into cells that may be written. -/
theorem FExt.stored {w w' : World} {b off : Nat} {vs : List Value} (h : FExt fr w) (hst : Stored w w' b off vs) (ho : ∀ (i : Nat), i < vs.length → fr.w0.heap.size ≤ b ∨ fr.own b (off + i)) : FExt fr w' := by
  refine ⟨hst.os.trans h.os, hst.tape.trans h.tape, hst.output.trans h.output, by rw [hst.size]; exact h.size, fun k hk hn => ?_, fun b' o hk hn => ?_, fun b' o hk hn => (hst.frozen _).trans (h.frozen b' o hk hn)⟩
  · by_cases e : k = b
    · subst e
      cases vs with
      | nil =>
        have := hst.same rfl
        rw [this]; exact h.block k hk hn
      | cons v vs =>
        rcases ho 0 (by simp) with h1 | h1
        · omega
        · exact (hn _ h1).elim
    · exact (hst.block k e).trans (h.block k hk hn)
  · refine Eq.trans ?_ (h.cell b' o hk hn)
    refine hst.other _ ?_
    by_cases e : b' = b
    · subst e
      by_cases h1 : o < off
      · exact .inl h1
      · by_cases h2 : off + vs.length ≤ o
        · exact .inr (.inl h2)
        · rcases ho (o - off) (by omega) with h3 | h3
          · omega
          · rw [show off + (o - off) = o from by omega] at h3; exact (hn h3).elim
    · exact .inr (.inr e)

/-- Nothing that is known has turned. -/
theorem Sim.later (h : Sim P E fr g s a w) {w' : World} (hb : Ext w w') : Sim P E fr g s a w' := by
  have hs : ∀ x, Same g w g w' x := fun x b o hx => ⟨hx, hb.cell (h.own b o x hx).1, hb.stuck (p := ⟨b, o, none⟩) (h.own b o x hx).1⟩
  have hg : GLe g s.ob w g s.ob w' := { GLe.refl g s.ob w with st := (hs .st).keeps }
  refine { ext := h.ext.later hb, tms := h.tms.imp fun _ _ => AVRel.mono hg, bxs := fun k fz cells hk => ?_, lbs := h.lbs, obs := fun k o hk => (h.obs k o hk).keep hg.st (hs _) rfl, own := fun b o x hx => ⟨Nat.lt_of_lt_of_le (h.own b o x hx).1 hb.le, (h.own b o x hx).2⟩, dfr := h.dfr, fix := h.fix, bas := h.bas }
  obtain ⟨hl, hbx⟩ := h.bxs k fz cells hk
  exact ⟨hl, hbx.keep hl hg (hs _)⟩

theorem vrel_c {St : Nat → Nat → Prop} {ob : List (Option (Ob U))} (hs : St = g.St) {v : Value} {d : V U} (h : VRel E St w v d) : CRel P E g ob w v (C.ofV d) := by
  subst hs
  cases h with
  | s x h => exact ⟨rfl, h⟩
  | nil τ aa cap => exact ⟨.nil τ aa cap, by simp⟩
  | dat τ xs b o cap cv hcap h1 h2 => exact ⟨.dat τ xs b o cap cv hcap h1 h2, by simp⟩

theorem get_map_range {α : Type} {f : Nat → α} {n j : Nat} {v : α} (h : ((List.range n).map f)[j]? = some v) : j < n ∧ f j = v := by
  rw [List.getElem?_map] at h
  rcases Nat.lt_or_ge j n with hj | hj
  · rw [List.getElem?_range hj] at h; simp at h; exact ⟨hj, h⟩
  · rw [List.getElem?_eq_none (by simpa using hj)] at h; simp at h

theorem obAt_eq {k v : Nat} {o : Ob U} (h : s.obAt k v = some o) : s.ob[k]? = some (some o) ∧ o.ver = v := by
  unfold S.obAt at h
  split at h
  · rename_i o' ho
    split at h
    · rename_i hb; simp at h; subst h; exact ⟨ho, Nat.eq_of_beq_eq_true hb⟩
    · simp at h
  · simp at h

/-- A slice that is an object: where it lies. -/
theorem Sim.obval (h : Sim P E fr g s a w) {k v : Nat} {o : Ob U} {x : Value} (ho : s.obAt k v = some o) (hx : CRel P E g s.ob w x (.ob k v)) : x = .slice (g.tk k).1 o.xs.length (g.tk k).2 ∧ ObRel E g w k o := by
  obtain ⟨h1, h2⟩ := obAt_eq ho
  obtain ⟨_, o', h3, h4, h5⟩ := hx
  rw [h1] at h3; simp at h3; subst h3
  exact ⟨h5 h2.symm, h.obs k o h1⟩

/-- What is read of a cell that is a slice. -/
theorem Sim.len (h : Sim P E fr g s a w) {c : C U} {τ : U.Ty} {xs : List (U.Den τ)} {x : Value} (hl : s.lst c = some ⟨τ, xs⟩) (hx : CRel P E g s.ob w x c) : ∃ p cap, x = .slice p xs.length cap ∧ xs.length ≤ cap ∧ xs.length ≤ 9223372036854775807 := by
  cases c with
  | sl τ' xs' f =>
    simp [S.lst] at hl; obtain ⟨rfl, hl⟩ := hl; simp at hl; subst hl
    rcases hx.1.inv with ⟨rfl, p, cap, rfl⟩ | ⟨b, o, cap, cv, rfl, hcap, _⟩
    · exact ⟨p, cap, rfl, by simp⟩
    · exact ⟨_, cap, rfl, hcap⟩
  | ob k v =>
    simp only [S.lst] at hl
    split at hl
    · rename_i o ho
      simp at hl; obtain ⟨rfl, hl⟩ := hl; simp at hl; subst hl
      obtain ⟨h1, h2⟩ := h.obval ho hx
      exact ⟨_, _, h1, h2.1.1⟩
    · simp at hl
  | _ => simp [S.lst] at hl

/-- A slice's cells, in a row: what they hold, whoever's they are. -/
def RowAt (E : Enc U) (St : Nat → Nat → Prop) (w : World) (τ : U.Ty) (xs : List (U.Den τ)) (p : Option Addr) (vs : List Value) : Prop :=
  vs.length = xs.length * U.sz τ ∧ (xs ≠ [] → ∃ b o, p = some ⟨b, o, none⟩ ∧ ∀ (q : Nat) v, vs[q]? = some v → w.cell? ⟨b, o + q, none⟩ = some v) ∧
  ∀ i (hi : i < xs.length) j d, (E.enc τ xs[i])[j]? = some d → ∃ u, vs[i * U.sz τ + j]? = some u ∧ VRel E St w u d

theorem row_of {St : Nat → Nat → Prop} {τ : U.Ty} {xs : List (U.Den τ)} {b o : Nat} {cv : Nat → Nat → Value} (hz : 0 < U.sz τ)
    (g1 : ∀ i j, i < xs.length → j < U.sz τ → w.cell? ⟨b, o + i * U.sz τ + j, none⟩ = some (cv i j))
    (g2 : ∀ i (hi : i < xs.length) j d, (E.enc τ xs[i])[j]? = some d → VRel E St w (cv i j) d) : ∃ vs, RowAt E St w τ xs (some ⟨b, o, none⟩) vs := by
  refine ⟨(List.range (xs.length * U.sz τ)).map (fun q => cv (q / U.sz τ) (q % U.sz τ)), by simp, fun _ => ⟨b, o, rfl, fun q v hq => ?_⟩, fun i hi j d hd => ?_⟩
  · obtain ⟨hlt, rfl⟩ := get_map_range hq
    have h1 : q / U.sz τ < xs.length := (Nat.div_lt_iff_lt_mul hz).2 hlt
    have h2 := g1 (q / U.sz τ) (q % U.sz τ) h1 (Nat.mod_lt _ hz)
    have h3 : q / U.sz τ * U.sz τ + q % U.sz τ = q := by rw [Nat.mul_comm]; exact Nat.div_add_mod q _
    rw [Nat.add_assoc, h3] at h2
    exact h2
  · have hj : j < U.sz τ := by
      rw [← E.len τ xs[i]]
      exact (List.getElem?_eq_some_iff.1 hd).1
    have hlt : i * U.sz τ + j < xs.length * U.sz τ := by
      have : (i + 1) * U.sz τ ≤ xs.length * U.sz τ := Nat.mul_le_mul_right _ hi
      rw [Nat.add_mul] at this; omega
    refine ⟨cv i j, ?_, g2 i hi j d hd⟩
    rw [List.getElem?_map, List.getElem?_range hlt]
    simp only [Option.map_some]
    rw [show (i * U.sz τ + j) / U.sz τ = i from by rw [Nat.mul_comm, Nat.mul_add_div hz, Nat.div_eq_of_lt hj, Nat.add_zero], show (i * U.sz τ + j) % U.sz τ = j from by rw [Nat.mul_comm, Nat.mul_add_mod, Nat.mod_eq_of_lt hj]]

theorem row_nil {St : Nat → Nat → Prop} {τ : U.Ty} (p : Option Addr) : RowAt E St w τ [] p [] := ⟨by simp, by simp, fun i hi => by simp at hi⟩

theorem Sim.row (h : Sim P E fr g s a w) {c : C U} {τ : U.Ty} {xs : List (U.Den τ)} {p : Option Addr} {n cap : Nat} (hz : 0 < U.sz τ) (hl : s.lst c = some ⟨τ, xs⟩) (hx : CRel P E g s.ob w (.slice p n cap) c) :
    n = xs.length ∧ n ≤ cap ∧ ∃ vs, RowAt E g.St w τ xs p vs := by
  obtain ⟨p', cap', e, hcap⟩ := h.len hl hx
  simp at e; obtain ⟨rfl, rfl, rfl⟩ := e
  refine ⟨rfl, hcap.1, ?_⟩
  cases c with
  | sl τ' xs' f =>
    simp [S.lst] at hl; obtain ⟨rfl, hl⟩ := hl; simp at hl; subst hl
    rcases hx.1.inv with ⟨rfl, _⟩ | ⟨b, o, cap', cv, hv, hcap', g1, g2⟩
    · exact ⟨[], row_nil p⟩
    · simp at hv; obtain ⟨rfl, _⟩ := hv
      exact row_of hz (fun i j hi hj => (g1 i j hi hj).2) g2
  | ob k v =>
    simp only [S.lst] at hl
    split at hl
    · rename_i o ho
      simp at hl; obtain ⟨rfl, hl⟩ := hl; simp at hl; subst hl
      obtain ⟨h1, h2⟩ := h.obval ho hx
      simp at h1; obtain ⟨rfl, h1⟩ := h1
      by_cases h0 : o.xs = []
      · rw [h0]; exact ⟨[], row_nil _⟩
      · have hpos : 0 < (g.tk k).2 := by have := List.length_pos_iff.2 h0; have := h2.1.1; omega
        obtain ⟨b, off, cv, e, hA⟩ := h2.2 hpos
        rw [e]
        exact row_of hz (fun i j hi hj => (hA.cell i j hi hj).1) hA.rel
    · simp at hl
  | _ => simp [S.lst] at hl

/-- An object all of which stands still is data. -/
theorem ObRel.data {k : Nat} {o : Ob U} (h : ObRel E g w k o) (hf : o.fr = none) : VRel E g.St w (.slice (g.tk k).1 o.xs.length (g.tk k).2) (.dat o.τ o.xs) := by
  by_cases h0 : o.xs.length = 0
  · have : o.xs = [] := List.eq_nil_of_length_eq_zero h0
    rw [this]; exact .nil _ _ _
  · obtain ⟨b, off, cv, e, hA⟩ := h.2 (by have := h.1.1; omega)
    rw [e]
    refine .dat o.τ o.xs b off _ cv h.1.1 (fun i j hi hj => ?_) hA.rel
    obtain ⟨c1, c2⟩ := hA.cell i j hi hj
    unfold Mode at c2
    rw [hf] at c2
    exact ⟨c2, c1⟩
end Go.Proofs.Ytaepcbdcjbfgjaa.B
