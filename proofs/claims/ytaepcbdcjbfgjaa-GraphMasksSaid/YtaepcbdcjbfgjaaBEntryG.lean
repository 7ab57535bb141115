/- Contracts of functions that get boxes and objects. -/
import Derived.Test.YtaepcbdcjbfgjaaBEntry
namespace Go.Proofs.Ytaepcbdcjbfgjaa.B
open Go Go.RowKit
variable {U : Uni} {P : Program} {M : Mc U}

theorem entryG_sim {E : Enc U} {n x : Nat} {w : World} {g : G} {vs : List Value} {args : List (A U)} {bs : List (Bool × List (C U))} {os : List (Ob U)} (hp : Part P E g w bs os) (hvs : All2 (ARel P E g (os.map some) w) vs args) :
    Sim P E ⟨w, g.mine, g.St, bs.length, g.β⟩ g (entryG n x args bs os) { tmps := vs.toArray ++ Array.replicate (n - vs.toArray.size) undef, defers := [] } w := by
  generalize hm : 4 * (bs.length + n) + x - os.length = m
  have hg : GLe g (os.map some) w g (os.map some ++ List.replicate m none) w := by
    refine ⟨Keeps.refl _ _, fun _ hl => ⟨hl, rfl⟩, fun k o hk => ⟨o, ?_, Nat.le_refl _, fun _ => ⟨rfl, rfl, rfl⟩⟩⟩
    rw [List.getElem?_append_left (List.getElem?_eq_some_iff.1 hk).1]; exact hk
  have hlen := hvs.length
  refine { ext := ⟨rfl, rfl, rfl, Nat.le_refl _, fun _ _ _ => rfl, fun _ _ _ _ => rfl, fun _ _ _ _ => rfl⟩, tms := ?_, bxs := ?_, lbs := ?_, obs := ?_, own := ?_, dfr := rfl, fix := fun _ _ _ => rfl, bas := Nat.le_refl _ }
  · show All2 _ (vs.toArray ++ Array.replicate (n - vs.toArray.size) undef).toList (args.map AV.one ++ List.replicate (n - args.length) (.one .top))
    have e : (vs.toArray ++ Array.replicate (n - vs.toArray.size) undef).toList = vs ++ List.replicate (n - vs.length) undef := by simp
    rw [e, hlen]
    refine All2.append (All2.map_right AV.one (fun _ _ hh => ?_) hvs) ?_
    · show ARel P E g (os.map some ++ List.replicate (4 * (bs.length + n) + x - os.length) none) w _ _
      rw [hm]; exact ARel.mono hg hh
    · generalize n - args.length = q
      induction q with
      | zero => trivial
      | succ q ih => exact ⟨trivial, ih⟩
  · intro k fz cells hk
    have hk' : (bs.map some ++ List.replicate n (none : Option (Bool × List (C U))))[k]? = some (some (fz, cells)) := hk
    rcases Nat.lt_or_ge k bs.length with hlt | hge
    · rw [List.getElem?_append_left (by simpa using hlt), List.getElem?_map, List.getElem?_eq_getElem hlt] at hk'
      simp at hk'
      obtain ⟨hl, hb⟩ := hp.bxs k fz cells (by rw [List.getElem?_eq_getElem hlt, hk'])
      refine ⟨hl, ?_⟩
      show BoxRel P E g (os.map some ++ List.replicate (4 * (bs.length + n) + x - os.length) none) w k fz cells
      rw [hm]
      exact hb.keep hl hg (fun b i hx => ⟨hx, rfl, rfl⟩)
    · rw [List.getElem?_append_right (by simpa using hge), List.getElem?_replicate] at hk'
      split at hk' <;> simp at hk'
  · intro k hl
    have hlt := hp.lbs k hl
    refine ⟨bs[k], ?_⟩
    show (bs.map some ++ List.replicate n (none : Option (Bool × List (C U))))[k]? = _
    rw [List.getElem?_append_left (by simpa using hlt), List.getElem?_map, List.getElem?_eq_getElem hlt]; rfl
  · intro k o hk
    have hk' : (os.map some ++ List.replicate (4 * (bs.length + n) + x - os.length) (none : Option (Ob U)))[k]? = some (some o) := hk
    rcases Nat.lt_or_ge k os.length with hlt | hge
    · rw [List.getElem?_append_left (by simpa using hlt), List.getElem?_map, List.getElem?_eq_getElem hlt] at hk'
      simp at hk'
      exact (hp.obs k o (by rw [List.getElem?_eq_getElem hlt, hk'])).1
    · rw [List.getElem?_append_right (by simpa using hge), List.getElem?_replicate] at hk'
      split at hk' <;> simp at hk'
  · intro b o y hy
    refine ⟨hp.own b o y hy, ?_⟩
    cases y with
    | st => exact .inr (.inr ⟨rfl, hy⟩)
    | box k => exact .inr (.inl ⟨_, by simp, hy⟩)
    | obj k => exact .inr (.inl ⟨_, by simp, hy⟩)

theorem unC_rel {R : Value → A U → Prop} {R' : Value → C U → Prop} (hR : ∀ v x, R v (.c x) → R' v x) : ∀ {us : List Value} {l : List (A U)} {cs : List (C U)}, unC l = some cs → All2 R us l → All2 R' us cs
  | [], [], cs, h, _ => by simp [unC] at h; subst h; trivial
  | u :: us, x :: l, cs, h, hh => by
    cases x with
    | c c =>
      simp only [unC] at h
      split at h
      · rename_i r hr; simp at h; subst h; exact ⟨hR _ _ hh.1, unC_rel hR hr hh.2⟩
      · simp at h
    | _ => simp [unC] at h

theorem split_rel {R : Value → A U → Prop} {R' : Value → C U → Prop} (hR : ∀ v x, R v (.c x) → R' v x) {vs : List Value} : ∀ {bs : List (Bool × List (C U))} {vss : List (List Value)} {rs : List (A U)} {bs' : List (Bool × List (C U))} {rs' : List (A U)},
    splitB bs rs = some (bs', rs') → vss.length = bs.length → (∀ (i : Nat) us b, vss[i]? = some us → bs[i]? = some b → us.length = b.2.length) → All2 R (vss.flatten ++ vs) rs →
    All2 R vs rs' ∧ bs'.length = bs.length ∧ ∀ (i : Nat) b', bs'[i]? = some b' → ∃ b us, bs[i]? = some b ∧ vss[i]? = some us ∧ b'.1 = b.1 ∧ All2 R' us b'.2
  | [], vss, rs, bs', rs', h, hl, _, hh => by
    simp [splitB] at h; obtain ⟨rfl, rfl⟩ := h
    have : vss = [] := List.eq_nil_of_length_eq_zero (by simpa using hl)
    subst this
    exact ⟨by simpa using hh, rfl, fun i b' hb => by simp at hb⟩
  | b :: bs, [], rs, bs', rs', h, hl, _, hh => by simp at hl
  | b :: bs, us :: vss, rs, bs', rs', h, hl, hlen, hh => by
    simp only [splitB] at h
    split at h
    · rename_i cs bs2 r h1 h2
      simp at h; obtain ⟨rfl, rfl⟩ := h
      have hul : us.length = b.2.length := hlen 0 us b rfl rfl
      have ht := All2.take b.2.length hh
      have hd := All2.drop b.2.length hh
      rw [← hul] at ht hd
      simp only [List.flatten_cons, List.append_assoc, List.take_left, List.drop_left] at ht hd
      rw [hul] at ht hd
      obtain ⟨i1, i2, i3⟩ := split_rel hR h2 (by simpa using hl) (fun i u c hu hc => hlen (i + 1) u c (by simpa using hu) (by simpa using hc)) hd
      refine ⟨i1, by simp [i2], fun i b' hb => ?_⟩
      cases i with
      | zero => simp at hb; subst hb; exact ⟨b, us, rfl, rfl, rfl, unC_rel hR h1 ht⟩
      | succ i =>
        obtain ⟨c, u, j1, j2, j3⟩ := i3 i b' (by simpa using hb)
        exact ⟨c, u, by simpa using j1, by simpa using j2, j3⟩
    · simp at h

theorem boxes_vals {E : Enc U} {fr : Fr} {g : G} {s : S U} {a : Act} {w : World} (h : Sim P E fr g s a w) : ∀ {ks : List Nat} {bs : List (Bool × List (C U))}, s.boxesAt ks = some bs → ∃ vss : List (List Value), vss.length = bs.length ∧
    (∀ {vs : List Value} {al : List (A U)}, All2 (ARel P E g s.ob w) vs al → All2 (ARel P E g s.ob w) (vss.flatten ++ vs) (boxAs bs ++ al)) ∧
    ∀ (i k : Nat) us b, ks[i]? = some k → vss[i]? = some us → bs[i]? = some b → us.length = b.2.length ∧ ∀ (j : Nat) v, us[j]? = some v → w.cell? ⟨g.β k, j, none⟩ = some v ∧ (b.1 = false → stuck w ⟨g.β k, j, none⟩ = false)
  | [], bs, hb => by
    simp [S.boxesAt] at hb; subst hb
    exact ⟨[], rfl, fun hh => hh, fun i k us b hk => by simp at hk⟩
  | k :: ks, bs, hb => by
    simp only [S.boxesAt] at hb
    split at hb
    · rename_i b0 r h1 h2
      simp at hb; subst hb
      obtain ⟨vss, i1, i2, i3⟩ := boxes_vals h h2
      obtain ⟨_, us, hus, hcell⟩ := h.bxs k b0.1 b0.2 h1
      refine ⟨us :: vss, by simp [i1], fun {vs al} hh => ?_, fun i q u b hq hu hb => ?_⟩
      · simp only [List.flatten_cons, boxAs, List.append_assoc]
        exact All2.append (All2.map_right A.c (fun _ _ hx => hx) hus) (i2 hh)
      · cases i with
        | zero =>
          simp at hq hu hb; subst hq hu hb
          exact ⟨hus.length, fun j v hv => ⟨(hcell j v hv).1, fun hf => ((hcell j v hv).2.1 hf).1⟩⟩
        | succ i => exact i3 i q u b (by simpa using hq) (by simpa using hu) (by simpa using hb)
    · simp at hb

/-- Arguments, boxes and objects within their bounds. -/
def CWf (E : Enc U) : C U → Prop
  | .s x => oneC x = true
  | .sl τ xs _ => VWf E (.dat τ xs)
  | .el τ xs i _ => VWf E (.dat τ xs) ∧ i < xs.length
  | _ => True
def AWf (E : Enc U) : A U → Prop
  | .c x => CWf E x
  | .agg cs => ∀ c ∈ cs, CWf E c
  | .top => True
theorem CRel.wf {E : Enc U} {g : G} {ob : List (Option (Ob U))} {w : World} {v : Value} {c : C U} (h : CRel P E g ob w v c) : CWf E c := by
  cases c with
  | s x => exact h.2
  | sl τ xs f => exact h.1.wf
  | el τ xs i off => obtain ⟨h1, b, o, cap, _, h2⟩ := h; exact ⟨h2.wf, h1⟩
  | _ => trivial
theorem ARel.wf {E : Enc U} {g : G} {ob : List (Option (Ob U))} {w : World} {v : Value} {a : A U} (h : ARel P E g ob w v a) : AWf E a := by
  cases a with
  | c x => exact CRel.wf h
  | agg cs => obtain ⟨arr, _, h2⟩ := h; exact fun c hc => (h2.mem c hc).elim fun _ hh => hh.wf
  | top => trivial
theorem BoxRel.wf {E : Enc U} {g : G} {ob : List (Option (Ob U))} {w : World} {k : Nat} {fz : Bool} {cells : List (C U)} (h : BoxRel P E g ob w k fz cells) : ∀ c ∈ cells, CWf E c := by
  obtain ⟨vs, h1, _⟩ := h
  exact fun c hc => (h1.mem c hc).elim fun _ hh => hh.wf
theorem ObRel.wf {E : Enc U} {g : G} {w : World} {k : Nat} {o : Ob U} (h : ObRel E g w k o) : VWf E (.dat o.τ o.xs) := by
  refine .dat _ _ h.1.1.2 fun i hi j d hd => ?_
  obtain ⟨b, off, cv, _, hA⟩ := h.2 (by have := h.1.1.1; omega)
  exact (hA.rel i hi j d hd).wf

/-- A CONTRACT of a function that gets boxes and objects. -/
theorem contract_ofG (hT : TabOK P M) (hF : FnsOK P M) (hm : P.follows .mixedOrders = true) {f : FuncId} {fn : Func} {body : Code} (hf : P.funcs[f]? = some fn) (hb : fn.body = some body) (N : Nat → NS) (x : Nat) (fm : List Kind) {args rs : List (A U)} {bs bs' : List (Bool × List (C U))} {os os' : List (Ob U)}
    (h0 : (∀ a ∈ args, AWf M.E a) → (∀ b ∈ bs, ∀ c ∈ b.2, CWf M.E c) → (∀ o ∈ os, VWf M.E (.dat o.τ o.xs) ∧ o.frozen ≤ o.xs.length) → awp M N body (entryG fn.ntmps x args bs os) (retGQ M bs.length fn.results.toList fm fun r b o => r = rs ∧ b = bs' ∧ o = os')) : GContract P M.E f args bs os rs bs' os' := by
  intro w g0 vs0 hp0 hvs0
  have hs0 := entryG_sim (n := fn.ntmps) (x := x) hp0 hvs0
  have h := h0 (fun a ha => (hvs0.mem a ha).elim fun _ hh => hh.wf)
    (fun b hb => by obtain ⟨i, hi⟩ := List.getElem?_of_mem hb; exact (hp0.bxs i b.1 b.2 hi).2.wf)
    (fun o ho => by
      obtain ⟨i, hi⟩ := List.getElem?_of_mem ho
      have hr := (hp0.obs i o hi).1
      refine ⟨hr.wf, ?_⟩
      unfold Ob.frozen; split
      · exact Nat.le_refl _
      · rename_i f hf; exact hr.1.2 f hf)
  refine calls_of_wp hf hb ?_
  refine awp_sound hT hF hm N body (Q := retGQ M bs.length fn.results.toList fm fun r b o => r = rs ∧ b = bs' ∧ o = os') ?_ hs0 h
  have fin : ∀ s g a w', retGK M bs.length fn.results.toList fm (fun r b o => r = rs ∧ b = bs' ∧ o = os') s → Sim P M.E ⟨w, g0.mine, g0.St, bs.length, g0.β⟩ g s a w' → a.defers = [] ∧ ∃ v, (results fn a.tmps).run P w' = .ok v w' ∧ ∃ v', Ending.returned v = .returned v' ∧ RetG P M.E g0 w w' v' rs bs' os' := by
    intro s g a w' hq hs'
    unfold retGK at hq
    split at hq
    · rename_i al bsS hal hbsS
      split at hq
      · rename_i rsA osA hout
        split at hq
        · rename_i bsR rsR hsplit
          obtain ⟨rfl, rfl, rfl⟩ := hq
          obtain ⟨v, hv, hvr⟩ := results_sound hT hs' hal
          refine ⟨hs'.dfr, v, hv, v, rfl, ?_⟩
          obtain ⟨vs, hall, hback⟩ := ret_all hvr
          obtain ⟨vss, hvl, happ, hcells⟩ := boxes_vals hs' hbsS
          obtain ⟨hbl, hbat⟩ := boxesAt_spec hbsS
          obtain ⟨hlr, gr, c1, c2, c3, c4, c5, c6, c7, c8⟩ := out_core hs' bs.length (happ hall) hout
          have hlenS : bsS.length = bs.length := by rw [hbl]; simp
          have hrange : ∀ i, i < bs.length → (List.range bs.length)[i]? = some i := fun i hi => by simp [hi]
          obtain ⟨d1, d2, d3⟩ := split_rel (R' := CRel P M.E gr (osA.map some) w') (fun _ _ hx => hx) hsplit hvl (fun i us b hu hb => by
            have hi : i < bs.length := by rw [← hlenS]; exact (List.getElem?_eq_some_iff.1 hb).1
            exact (hcells i i us b (hrange i hi) hu hb).1) c7
          refine ⟨gr, (by rw [d2, hlenS]; exact hs'.ext), ⟨fun k fz cells hk => ?_, fun k hk => ?_, c8, fun b o y hy => (c4 b o y hy).1⟩, fun k hk => ?_, fun b o y hb hy => ?_, hback ?_ d1⟩
          · have hkl : k < bs.length := by rw [← hlenS, ← d2]; exact (List.getElem?_eq_some_iff.1 hk).1
            obtain ⟨b, us, e1, e2, e3, e4⟩ := d3 k (fz, cells) hk
            obtain ⟨bx, f1, f2⟩ := hbat k k (hrange k hkl)
            rw [e1] at f2; simp at f2; subst f2
            obtain ⟨hul, hcell⟩ := hcells k k us b (hrange k hkl) e2 e1
            have hgl := (hs'.bxs k b.1 b.2 f1).1
            dsimp only at e3
            subst e3
            refine ⟨(c1 k).2 ⟨hkl, hgl⟩, us, e4, fun i u hu => ?_⟩
            have hi : i < b.2.length := by rw [← hul]; exact (List.getElem?_eq_some_iff.1 hu).1
            obtain ⟨q1, q2⟩ := c5 k b.1 b.2 i hkl f1 hi
            rw [c2 k hgl]
            exact ⟨(hcell i u hu).1, fun hf => ⟨(hcell i u hu).2 hf, q1 hf⟩, q2⟩
          · rw [d2, hlenS]; exact ((c1 k).1 hk).1
          · have hkl := hp0.lbs k hk
            obtain ⟨bx, f1, _⟩ := hbat k k (hrange k hkl)
            have hgl := (hs'.bxs k bx.1 bx.2 f1).1
            rw [c2 k hgl]; exact hs'.fix k hkl hgl
          · rcases (c4 b o y hy).2 with hh | hh | hh
            · have : w.heap.size ≤ b := hh
              omega
            · exact .inl hh
            · exact .inr hh
          · have hll : (vss.flatten ++ vs).length = rsA.length := c7.length
            have := hall.length
            have := d1.length
            omega
        · exact hq.elim
      · exact hq.elim
    · exact hq.elim
  intro e s g a w' hq hs'
  cases e with
  | normal => exact fin s g a w' hq hs'
  | ret => exact fin s g a w' hq hs'
  | _ => exact hq.elim
end Go.Proofs.Ytaepcbdcjbfgjaa.B
