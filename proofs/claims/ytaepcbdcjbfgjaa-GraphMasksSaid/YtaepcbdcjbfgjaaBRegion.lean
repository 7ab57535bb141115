/- Regions: those whose order is fixed, and those whose order is drawn. -/
import Derived.Test.YtaepcbdcjbfgjaaBView
import Derived.Orders
namespace Go.Proofs.Ytaepcbdcjbfgjaa.B
open Go Go.RowKit
variable {U : Uni} {P : Program} {M : Mc U} {fr : Fr} {w : World} {g : G} {s : S U} {a : Act} {o : Oper}

theorem wanted_sound {E : Enc U} (h : Sim P E fr g s a w) {ops : Array Oper} {b : Bool} (hw : wantK ops.toList s o = some b) : Region.wanted o (yielded ops a.tmps) = b := by
  unfold wantK at hw
  unfold Region.wanted
  split at hw
  · rename_i hg; rw [hg]; simpa using hw
  · rename_i j want hg
    rw [hg]
    dsimp only
    cases hd : (ops.toList[j]?).bind (·.dst) with
    | none => rw [hd] at hw; simp at hw
    | some d =>
      simp only [hd] at hw
      have hd' : (ops[j]?).bind (·.dst) = some d := by rw [Array.getElem?_toList] at hd; exact hd
      split at hw
      · rename_i x hx
        obtain ⟨v, hv, hr⟩ := All2.get d h.tms hx
        rw [Array.getElem?_toList] at hv
        have hvx : v = .bool x := hr.1
        subst hvx
        simp [yielded, hd', hv]
        simpa using hw
      · rename_i hx
        obtain ⟨v, hv, hr⟩ := All2.get d h.tms hx
        rw [Array.getElem?_toList] at hv
        have hvx : v = undef := hr
        subst hvx
        simp [yielded, hd', hv, undef]
        simpa using hw
      · simp at hw

/-- One operation, as a step of the state, with what it looked at and turned. -/
def Step (M : Mc U) (ops : List Oper) (o : Oper) (f : Fp) (s s' : S U) : Prop :=
  (∃ r, wantK ops s o = some true ∧ eff M s o = some r ∧ (∀ p ∈ r.ob, p) ∧ s' = s.upd o.dst r ∧ f = s.fp M ops o r) ∨ (wantK ops s o = some false ∧ s' = s.upd o.dst undefR ∧ f = S.fp0 ops o)

def Run (M : Mc U) (ops : List Oper) : List (Oper × Fp) → S U → S U → Prop
  | [], s, s' => s = s'
  | (o, f) :: rest, s, s' => ∃ s1, Step M ops o f s s1 ∧ Run M ops rest s1 s'

theorem obs_iff {ps : List Prop} {K : Prop} : obs ps K ↔ (∀ p ∈ ps, p) ∧ K := by
  induction ps with
  | nil => simp [obs]
  | cons p ps ih => simp only [obs, ih, List.mem_cons, forall_eq_or_imp]; exact ⟨fun ⟨h1, h2, h3⟩ => ⟨⟨h1, h2⟩, h3⟩, fun ⟨⟨h1, h2⟩, h3⟩ => ⟨h1, h2, h3⟩⟩

theorem run_of_awp {ops : List Oper} {K : S U → List Fp → Prop} : ∀ (l : List Oper) (i : Nat) (s : S U) (fs : List Fp), awpOps M ops l i s fs K → ∃ l' s', l'.map (·.1) = l ∧ Run M ops l' s s' ∧ K s' ((l'.map (·.2)).reverse ++ fs)
  | [], _, s, fs, h => ⟨[], s, rfl, rfl, h⟩
  | o :: rest, i, s, fs, h => by
    simp only [awpOps] at h
    split at h
    · rename_i hw
      split at h
      · rename_i r hr
        unfold execK at h
        rw [obs_iff] at h
        obtain ⟨hob, h⟩ := h
        have go : ∀ v, v = r.v → awpOps M ops rest (i + 1) (s.upd o.dst { r with v := v }) (s.fp M ops o r :: fs) K → ∃ l' s', l'.map (·.1) = o :: rest ∧ Run M ops l' s s' ∧ K s' ((l'.map (·.2)).reverse ++ fs) := by
          intro v hv hh
          subst hv
          obtain ⟨l', s', h1, h2, h3⟩ := run_of_awp rest (i + 1) _ _ hh
          refine ⟨(o, s.fp M ops o r) :: l', s', by simp [h1], ⟨_, .inl ⟨r, hw, hr, hob, rfl, rfl⟩, h2⟩, ?_⟩
          simpa using h3
        split at h
        · rename_i x _ hv
          cases x with
          | true => exact go _ hv.symm h
          | false => exact go _ hv.symm h
        · exact go _ rfl h
      · exact h.elim
    · rename_i hw
      obtain ⟨l', s', h1, h2, h3⟩ := run_of_awp rest (i + 1) _ _ h
      refine ⟨(o, S.fp0 ops o) :: l', s', by simp [h1], ⟨_, .inr ⟨hw, rfl, rfl⟩, h2⟩, ?_⟩
      simpa using h3
    · exact h.elim

theorem Sim.undef (h : Sim P M.E fr g s a w) (dst : Option Nat) : Sim P M.E fr g (s.upd dst undefR) (a.put dst Go.undef) w := h.put rfl rfl rfl

/-- One operation of a region, in the model. -/
theorem step_sound (hT : TabOK P M) (hF : FnsOK P M) {ops : Array Oper} {Q : Exit → Act → World → Prop} {i : Nat} (ho : ops[i]? = some o) {f : Fp} {s' : S U} (h : Sim P M.E fr g s a w) (hs : Step M ops.toList o f s s') {K : Act → World → Prop}
    (hK : ∀ g' a' w', Sim P M.E fr g' s' a' w' → K a' w') : wpOp P ops Q i K a w := by
  unfold wpOp
  rw [ho]
  dsimp only
  rcases hs with ⟨r, hw, hr, hob, rfl, _⟩ | ⟨hw, rfl, _⟩
  · rw [wanted_sound h hw, if_pos rfl]
    refine .inl ?_
    have hd := eff_sound hT hF h hr hob Q
    exact Oper.wp_mono (fun a' w' ⟨g', hs'⟩ => hK g' a' w' hs') hd
  · rw [wanted_sound h hw]
    simp only [Bool.false_eq_true, if_false]
    exact hK g _ _ (h.undef _)

theorem run_sound (hT : TabOK P M) (hF : FnsOK P M) {ops : Array Oper} {Q : Exit → Act → World → Prop} {s' : S U} (hK : ∀ g' a' w', Sim P M.E fr g' s' a' w' → Q .normal a' w') :
    ∀ (l : List (Oper × Fp)) (k : Nat) {g : G} {s : S U} {a : Act} {w : World}, (∀ (j : Nat), (l.map (·.1))[j]? = ops[k + j]?) → Sim P M.E fr g s a w → Run M ops.toList l s s' → wpOps P ops Q (List.range' k l.length) a w
  | [], k, g, s, a, w, _, h, hr => by
    have : s = s' := hr
    subst this
    exact hK g a w h
  | (o, f) :: l, k, g, s, a, w, hl, h, hr => by
    obtain ⟨s1, h1, h2⟩ := hr
    rw [List.length_cons, List.range'_succ, wpOps_cons]
    refine step_sound hT hF (by have := hl 0; simpa using this.symm) h h1 fun g' a' w' h' => ?_
    exact run_sound hT hF hK l (k + 1) (fun j => by have := hl (j + 1); simpa [Nat.add_assoc, Nat.add_comm 1 j] using this) h' h2

/-! ### steps that do not clash -/
theorem sets_ne {α : Type} {q : Nat} : ∀ {x : List (Nat × α)} {l : List α}, q ∉ x.map (·.1) → (sets l x)[q]? = l[q]?
  | [], _, _ => rfl
  | (k, y) :: x, l, h => by
    simp only [List.map_cons, List.mem_cons, not_or] at h
    simp only [sets]
    rw [sets_ne h.2, List.getElem?_set_ne (Ne.symm h.1)]
theorem sets_set {α : Type} {q : Nat} {z : α} : ∀ {x : List (Nat × α)} {l : List α}, q ∉ x.map (·.1) → sets (l.set q z) x = (sets l x).set q z
  | [], _, _ => rfl
  | (k, y) :: x, l, h => by
    simp only [List.map_cons, List.mem_cons, not_or] at h
    simp only [sets]
    rw [List.set_comm _ _ h.1, sets_set h.2]
theorem sets_comm {α : Type} : ∀ {y x : List (Nat × α)} {l : List α}, (∀ k ∈ x.map (·.1), k ∉ y.map (·.1)) → sets (sets l x) y = sets (sets l y) x
  | [], _, _, _ => rfl
  | (k, z) :: y, x, l, h => by
    simp only [sets]
    have hk : k ∉ x.map (·.1) := fun hk => h k hk (by simp)
    rw [← sets_set hk, sets_comm (fun q hq hq' => h q hq (by simp [hq']))]

structure Frame' (f : Fp) (s s1 : S U) : Prop where
  base : s1.base = s.base
  tm : ∀ t, t ∉ f.ws → s1.tm[t]? = s.tm[t]?
  bx : ∀ k, k ∉ f.wb → s1.bx[k]? = s.bx[k]?
  ob : ∀ k, k ∉ f.wo → s1.ob[k]? = s.ob[k]?
theorem upd_frame {r : Res U} {dst : Option Nat} {f : Fp} (h1 : f.ws = dst.toList) (h2 : f.wb = r.bw.map (·.1)) (h3 : f.wo = r.ow.map (·.1)) : Frame' f s (s.upd dst r) := by
  refine ⟨rfl, fun t ht => ?_, fun k hk => ?_, fun k hk => ?_⟩
  · rw [h1] at ht
    cases dst with
    | none => rfl
    | some d =>
      have : t ≠ d := by simpa using ht
      exact List.getElem?_set_ne (Ne.symm this)
  · rw [h2] at hk; exact sets_ne hk
  · rw [h3] at hk; exact sets_ne hk
theorem upd_comm {r r' : Res U} {d d' : Option Nat} (h1 : ∀ x ∈ d.toList, x ∉ d'.toList) (h2 : ∀ k ∈ r.bw.map (·.1), k ∉ r'.bw.map (·.1)) (h3 : ∀ k ∈ r.ow.map (·.1), k ∉ r'.ow.map (·.1)) : (s.upd d r).upd d' r' = (s.upd d' r').upd d r := by
  unfold S.upd
  congr 1
  · cases d with
    | none => rfl
    | some x =>
      cases d' with
      | none => rfl
      | some y =>
        have : x ≠ y := by simpa using h1 x (by simp)
        exact List.set_comm _ _ this
  · exact sets_comm h2
  · exact sets_comm h3

theorem want_view {ops : List Oper} {s s' : S U} (h : ∀ t ∈ guardSlot ops o, s'.tm[t]? = s.tm[t]?) : wantK ops s' o = wantK ops s o := by
  unfold wantK
  unfold guardSlot at h
  cases hg : o.guard with
  | none => rfl
  | some x =>
    obtain ⟨j, want⟩ := x
    rw [hg] at h
    dsimp only at h ⊢
    cases hd : (ops[j]?).bind (·.dst) with
    | none => rfl
    | some d =>
      rw [hd] at h
      dsimp only
      rw [h d (by simp)]
theorem obsX_view {s s' : S U} {x : Operand} (h : ∀ t, x = .tmp t → s'.tm[t]? = s.tm[t]?) : s'.obsX x = s.obsX x := by
  cases x with
  | tmp t => simp only [S.obsX, h t rfl]
  | _ => rfl
theorem obsXs_view {s s' : S U} : ∀ {xs : List Operand}, (∀ x ∈ xs, ∀ t, x = .tmp t → s'.tm[t]? = s.tm[t]?) → s'.obsXs xs = s.obsXs xs
  | [], _ => rfl
  | x :: xs, h => by simp only [S.obsXs, obsX_view (h x (by simp)), obsXs_view (xs := xs) (fun y hy => h y (by simp [hy]))]
theorem bxX_view {s s' : S U} {x : Operand} (h : ∀ t, x = .tmp t → s'.tm[t]? = s.tm[t]?) : s'.bxX x = s.bxX x := by
  cases x with
  | tmp t => simp only [S.bxX, h t rfl]
  | _ => rfl
theorem bxXs_view {s s' : S U} : ∀ {xs : List Operand}, (∀ x ∈ xs, ∀ t, x = .tmp t → s'.tm[t]? = s.tm[t]?) → s'.bxXs xs = s.bxXs xs
  | [], _ => rfl
  | x :: xs, h => by simp only [S.bxXs, bxX_view (h x (by simp)), bxXs_view (xs := xs) (fun y hy => h y (by simp [hy]))]
theorem boxObs_view {s s' : S U} : ∀ {ks : List Nat}, (∀ k ∈ ks, s'.bx[k]? = s.bx[k]?) → s'.boxObs ks = s.boxObs ks
  | [], _ => rfl
  | k :: ks, h => by simp only [S.boxObs, h k (by simp), boxObs_view (ks := ks) (fun y hy => h y (by simp [hy]))]

theorem Agree.read {s s' : S U} (h : Agree M s s' o) : s'.readB o = s.readB o ∧ s'.readO M o = s.readO M o := by
  have hx : ∀ x ∈ o.op.operands.toList, ∀ t, x = .tmp t → s'.tm[t]? = s.tm[t]? := fun x hx t e => by subst e; exact h.tm t (List.mem_filterMap.2 ⟨_, hx, rfl⟩)
  have hb : s'.readB o = s.readB o := by
    unfold S.readB
    cases hop : o.op with
    | alloc t => simp only [h.key]
    | box t x => simp only [h.key]
    | load t x => rw [hop] at hx; exact bxX_view (hx x (by simp [Op.operands]))
    | store t x y => rw [hop] at hx; exact bxX_view (hx x (by simp [Op.operands]))
    | makeFunc fn first captured => rw [hop] at hx; exact bxXs_view (fun x hm => hx x (by simp [Op.operands] at hm ⊢; exact .inr hm))
    | call c =>
      rw [hop] at hx
      have h1 : s'.bxXs c.args.toList = s.bxXs c.args.toList := bxXs_view (fun x hm => hx x (by simp [Op.operands, Call.operands] at hm ⊢; exact .inr hm))
      have h2 : s'.capX c = s.capX c := by
        unfold S.capX
        split
        · rename_i t hc; rw [hx (.tmp t) (by simp [Op.operands, Call.operands, hc]) t rfl]
        · rfl
      dsimp only
      rw [h1, h2]
    | _ => rfl
  refine ⟨hb, ?_⟩
  unfold S.readO
  cases hop : o.op with
  | load t x => rw [hop] at hx; exact obsX_view (hx x (by simp [Op.operands]))
  | store t x y =>
    have hbx := boxObs_view (s := s) (s' := s') (ks := s.bxX x) (fun k hk => h.bx k (by unfold S.readB; simp only [hop]; exact hk))
    rw [hop] at hx; simp only [obsX_view (hx x (by simp [Op.operands])), obsX_view (hx y (by simp [Op.operands])), bxX_view (hx x (by simp [Op.operands])), hbx]
  | buildSlice t n ps =>
    rw [hop] at hx
    have : s'.obsXs (ps.toList.map (·.2)) = s.obsXs (ps.toList.map (·.2)) := obsXs_view (fun x hm => hx x (by simpa [Op.operands] using hm))
    simp only [this, h.okey]
  | makeSlice t x y => simp only [h.okey]
  | slice t x lo hi mx => rw [hop] at hx; exact obsX_view (hx x (by simp [Op.operands]))
  | indexAddr t x y => rw [hop] at hx; exact obsX_view (hx x (by simp [Op.operands]))
  | nilCheck x => rw [hop] at hx; exact obsX_view (hx x (by simp [Op.operands]))
  | fieldAddr t x f => rw [hop] at hx; exact obsX_view (hx x (by simp [Op.operands]))
  | makeFunc fn first captured =>
    have h1 : s'.bxXs captured.toList = s.bxXs captured.toList := by unfold S.readB at hb; simpa [hop] using hb
    dsimp only
    rw [h1]
    exact boxObs_view (fun k hk => h.bx k (by unfold S.readB; simp only [hop]; exact hk))
  | call c =>
    rw [hop] at hx
    have : s'.obsXs c.args.toList = s.obsXs c.args.toList := obsXs_view (fun x hm => hx x (by simp [Op.operands, Call.operands] at hm ⊢; exact .inr hm))
    have h1 : s'.bxXs c.args.toList ++ s'.capX c = s.bxXs c.args.toList ++ s.capX c := by unfold S.readB at hb; simpa only [hop] using hb
    have h2 := boxObs_view (s := s) (s' := s') (ks := s.bxXs c.args.toList ++ s.capX c) (fun k hk => h.bx k (by unfold S.readB; simp only [hop]; exact hk))
    simp only [this, h.okey, h1, h2]
  | _ => rfl

/-- A step from another state in which all that it looks at is alike. -/
theorem Step.move {ops : List Oper} {f : Fp} {s s1 : S U} (h : Step M ops o f s s1) :
    ∃ r, f.ws = o.dst.toList ∧ f.wb = r.bw.map (·.1) ∧ f.wo = r.ow.map (·.1) ∧ s1 = s.upd o.dst r ∧
      ∀ s' : S U, s'.base = s.base → (∀ t ∈ f.rs, s'.tm[t]? = s.tm[t]?) → (∀ k ∈ f.rb, s'.bx[k]? = s.bx[k]?) → (∀ k ∈ f.ro, s'.ob[k]? = s.ob[k]?) → Step M ops o f s' (s'.upd o.dst r) := by
  rcases h with ⟨r, hw, hr, hobl, rfl, rfl⟩ | ⟨hw, rfl, rfl⟩
  · refine ⟨r, rfl, rfl, rfl, rfl, fun s' hb htm hbx hob => ?_⟩
    have hA : Agree M s s' o := ⟨hb, fun t ht => htm t (by simp [S.fp, ht]), fun k hk => hbx k hk, fun k hk => hob k hk⟩
    refine .inl ⟨r, ?_, ?_, hobl, rfl, ?_⟩
    · rw [want_view (fun t ht => htm t (by simp [S.fp, ht]))]; exact hw
    · rw [eff_view hA]; exact hr
    · simp only [S.fp, hA.read.1, hA.read.2]
  · refine ⟨undefR, rfl, rfl, rfl, rfl, fun s' hb htm hbx hob => .inr ⟨?_, rfl, rfl⟩⟩
    rw [want_view (fun t ht => htm t ht)]; exact hw

theorem swap {ops : List Oper} {p : Oper} {f h : Fp} {s s1 s2 : S U} (hc : f.clash h = false) (h1 : Step M ops o f s s1) (h2 : Step M ops p h s1 s2) : ∃ s1', Step M ops p h s s1' ∧ Step M ops o f s1' s2 := by
  simp only [Fp.clash, Bool.or_eq_false_iff] at hc
  obtain ⟨⟨⟨⟨⟨⟨⟨⟨c1, c2⟩, c3⟩, c4⟩, c5⟩, c6⟩, c7⟩, c8⟩, c9⟩ := hc
  obtain ⟨r, e1, e2, e3, rfl, ho⟩ := h1.move
  have fr1 : Frame' f s (s.upd o.dst r) := upd_frame e1 e2 e3
  obtain ⟨r', i1, i2, i3, rfl, hp⟩ := h2.move
  have hp' := hp s fr1.base.symm (fun t ht => (fr1.tm t (fun hh => meets_false c1 t hh ht)).symm) (fun k hk => (fr1.bx k (fun hh => meets_false c3 k hh hk)).symm) (fun k hk => (fr1.ob k (fun hh => meets_false c5 k hh hk)).symm)
  refine ⟨_, hp', ?_⟩
  have fr2 : Frame' h s (s.upd p.dst r') := upd_frame i1 i2 i3
  have ho' := ho (s.upd p.dst r') fr2.base (fun t ht => fr2.tm t (fun hh => meets_false c7 t ht hh)) (fun k hk => fr2.bx k (fun hh => meets_false c8 k hk hh)) (fun k hk => fr2.ob k (fun hh => meets_false c9 k hk hh))
  rw [upd_comm (s := s) (r := r) (r' := r') (d := o.dst) (d' := p.dst) (fun x hx => by have := meets_false c2 x (by rw [e1]; exact hx); rw [i1] at this; exact this)
    (fun x hx => by have := meets_false c4 x (by rw [e2]; exact hx); rw [i2] at this; exact this) (fun x hx => by have := meets_false c6 x (by rw [e3]; exact hx); rw [i3] at this; exact this)]
  exact ho'

theorem front {ops : List Oper} {f : Fp} : ∀ {pre post : List (Oper × Fp)} {s s' : S U}, (∀ x ∈ pre, x.2.clash f = false) → Run M ops (pre ++ (o, f) :: post) s s' → Run M ops ((o, f) :: (pre ++ post)) s s'
  | [], _, _, _, _, h => h
  | (p, h) :: pre, post, s, s', hc, hr => by
    obtain ⟨s1, h1, h2⟩ := hr
    obtain ⟨s2, h3, h4⟩ := front (fun x hx => hc x (by simp [hx])) h2
    obtain ⟨s1', h5, h6⟩ := swap (hc (p, h) (by simp)) h1 h3
    exact ⟨s1', h5, s2, h6, h4⟩

/-! ### the drawn order -/
theorem testBit_bits {done : List Nat} {j : Nat} : ∀ {es : List Edge}, (bitsOf done es).testBit j = true → ∃ e ∈ es, Region.binds .any e = true ∧ (j = e.on ∨ (done.getD e.on 0).testBit j = true)
  | [], h => by simp [bitsOf] at h
  | e :: es, h => by
    simp only [bitsOf] at h
    split at h
    · rename_i hb
      rw [Nat.testBit_or, Nat.testBit_or, Nat.testBit_two_pow] at h
      simp only [Bool.or_eq_true, decide_eq_true_eq] at h
      rcases h with (h | h) | h
      · obtain ⟨e', he, h2, h3⟩ := testBit_bits h
        exact ⟨e', by simp [he], h2, h3⟩
      · exact ⟨e, by simp, hb, .inl h.symm⟩
      · exact ⟨e, by simp, hb, .inr h⟩
    · obtain ⟨e', he, h2, h3⟩ := testBit_bits h
      exact ⟨e', by simp [he], h2, h3⟩

/-- The bits of the operations from the length of 'done' on. -/
theorem befores_spec : ∀ (ops : List Oper) (done : List Nat), (befores ops done).length = done.length + ops.length ∧ (∀ i, i < done.length → (befores ops done).getD i 0 = done.getD i 0) ∧
    ∀ (i j : Nat), i < ops.length → ((befores ops done).getD (done.length + i) 0).testBit j = true → ∃ o, ops[i]? = some o ∧ ∃ e ∈ o.after.toList, Region.binds .any e = true ∧ (j = e.on ∨ (e.on < done.length + i ∧ ((befores ops done).getD e.on 0).testBit j = true))
  | [], done => ⟨by simp [befores], fun i _ => rfl, fun i j hi => by simp at hi⟩
  | o :: r, done => by
    obtain ⟨h1, h2, h3⟩ := befores_spec r (done ++ [bitsOf done o.after.toList])
    simp only [befores]
    refine ⟨by rw [h1]; simp; omega, fun i hi => ?_, fun i j hi hb => ?_⟩
    · rw [h2 i (by simp; omega), List.getD_eq_getElem?_getD, List.getD_eq_getElem?_getD, List.getElem?_append_left hi]
    · cases i with
      | zero =>
        rw [Nat.add_zero, h2 done.length (by simp), List.getD_eq_getElem?_getD, List.getElem?_append_right (Nat.le_refl _)] at hb
        simp only [Nat.sub_self, List.getElem?_cons_zero, Option.getD_some] at hb
        obtain ⟨e, he, hbd, hor⟩ := testBit_bits hb
        refine ⟨o, rfl, e, he, hbd, ?_⟩
        rcases hor with hor | hor
        · exact .inl hor
        · right
          have hlt : e.on < done.length := by
            rcases Nat.lt_or_ge e.on done.length with h | h
            · exact h
            · rw [List.getD_eq_getElem?_getD, List.getElem?_eq_none h] at hor; simp at hor
          refine ⟨by omega, ?_⟩
          rw [h2 e.on (by simp; omega), List.getD_eq_getElem?_getD, List.getElem?_append_left hlt, ← List.getD_eq_getElem?_getD]
          exact hor
      | succ i =>
        have hl : (done ++ [bitsOf done o.after.toList]).length + i = done.length + (i + 1) := by simp; omega
        rw [← hl] at hb
        obtain ⟨o', ho', e, he, hbd, hor⟩ := h3 i j (by simpa using hi) hb
        refine ⟨o', by simpa using ho', e, he, hbd, ?_⟩
        rcases hor with hor | ⟨hor1, hor2⟩
        · exact .inl hor
        · exact .inr ⟨by rw [← hl]; exact hor1, hor2⟩

theorem apartFrom_spec {bs : List Nat} {j : Nat} {fj : Fp} : ∀ (fs : List Fp) (k : Nat), apartFrom bs j fj k fs = true → ∀ (i : Nat) fi, fs[i]? = some fi → fi.clash fj = true → (bs.getD j 0).testBit (k + i) = true
  | [], _, _, i, fi, h, _ => by simp at h
  | f :: fs, k, h, i, fi, hi, hc => by
    simp only [apartFrom, Bool.and_eq_true, Bool.or_eq_true, Bool.not_eq_true'] at h
    cases i with
    | zero =>
      simp at hi; subst hi
      rcases h.1 with h1 | h1
      · rw [hc] at h1; simp at h1
      · rw [Nat.add_zero]; exact h1
    | succ i =>
      have := apartFrom_spec fs (k + 1) h.2 i fi (by simpa using hi) hc
      rw [show k + (i + 1) = k + 1 + i from by omega]; exact this
theorem apartAll_spec {bs : List Nat} : ∀ (fs done : List Fp) (k : Nat), k = done.length → apartAll bs k done fs = true → ∀ (i j : Nat) fi fj, i < j → done.length ≤ j → (done ++ fs)[i]? = some fi → (done ++ fs)[j]? = some fj → fi.clash fj = true → (bs.getD j 0).testBit i = true
  | [], done, k, _, _, i, j, fi, fj, _, hj, _, h2, _ => by
    rw [List.append_nil, List.getElem?_eq_none hj] at h2; simp at h2
  | f :: fs, done, k, hk, h, i, j, fi, fj, hij, hj, h1, h2, hc => by
    simp only [apartAll, Bool.and_eq_true] at h
    rcases Nat.eq_or_lt_of_le hj with rfl | hlt
    · rw [List.getElem?_append_right (Nat.le_refl _)] at h2
      simp at h2; subst h2
      rw [List.getElem?_append_left hij] at h1
      have := apartFrom_spec done 0 h.1 i fi h1 hc
      rw [Nat.zero_add, hk] at this
      exact this
    · have := apartAll_spec fs (done ++ [f]) (k + 1) (by simp [hk]) h.2 i j fi fj hij (by simp; omega) (by simpa using h1) (by simpa using h2) hc
      exact this
theorem edges_spec : ∀ (ops : List Oper) (k : Nat), edgesOK k ops = true → ∀ (i : Nat) o, ops[i]? = some o → ∀ e ∈ o.after.toList, Region.binds .any e = true → e.on < k + i
  | [], _, _, i, o, h => by simp at h
  | o :: r, k, h, i, o', hi => by
    simp only [edgesOK, Bool.and_eq_true, List.all_eq_true] at h
    cases i with
    | zero =>
      simp at hi; subst hi
      intro e he hb
      have := h.1 e he
      rw [hb] at this
      simp [Nat.blt] at this
      omega
    | succ i =>
      intro e he hb
      have := edges_spec r (k + 1) h.2 i o' (by simpa using hi) e he hb
      omega

/-- What is left, with its numbers. -/
structure Left (ops : Array Oper) (fs : List Fp) (listed : Array Bool) (L : List (Nat × Oper × Fp)) : Prop where
  size : listed.size = ops.size
  sorted : L.Pairwise (fun x y => x.1 < y.1)
  what : ∀ x ∈ L, ops[x.1]? = some x.2.1 ∧ fs[x.1]? = some x.2.2
  all : ∀ i, i < ops.size → (listed.getD i true = false ↔ ∃ x ∈ L, x.1 = i)
  down : ∀ k, listed.getD k false = true → ∀ j, ((befores ops.toList []).getD k 0).testBit j = true → listed.getD j false = true

theorem split_mem {α : Type} {x : α} {l : List α} (h : x ∈ l) : ∃ a b, l = a ++ x :: b := List.append_of_mem h

theorem getD_set (l : Array Bool) (i j : Nat) (d : Bool) : (l.setIfInBounds i true).getD j d = if i = j ∧ i < l.size then true else l.getD j d := by
  simp only [Array.getD_eq_getD_getElem?, Array.getElem?_setIfInBounds]
  split
  · rename_i e; subst e
    split
    · rename_i h; simp [h]
    · rename_i h; simp [h, Array.getElem?_eq_none (Nat.le_of_not_lt h)]
  · rename_i e; simp [e]

theorem any_sound (hT : TabOK P M) (hF : FnsOK P M) {ops : Array Oper} {Q : Exit → Act → World → Prop} {s' : S U} {fs : List Fp} (hK : ∀ g' a' w', Sim P M.E fr g' s' a' w' → Q .normal a' w')
    (hedge : edgesOK 0 ops.toList = true) (hap : ∀ (i j : Nat) fi fj, i < j → fs[i]? = some fi → fs[j]? = some fj → fi.clash fj = true → ((befores ops.toList []).getD j 0).testBit i = true) :
    ∀ (fuel : Nat) (listed : Array Bool) (L : List (Nat × Oper × Fp)) {g : G} {s : S U} {a : Act} {w : World}, L.length = fuel → Left ops fs listed L → Sim P M.E fr g s a w → Run M ops.toList (L.map (·.2)) s s' → wpAny P .any ops Q fuel listed a w
  | 0, listed, L, g, s, a, w, hl, hL, h, hr => by
    have : L = [] := List.eq_nil_of_length_eq_zero hl
    subst this
    have e : s = s' := hr
    subst e
    refine ⟨?_, hK g a w h⟩
    unfold Region.ready
    rw [List.filter_eq_nil_iff]
    intro i hi
    have hlt : i < ops.size := by simpa using hi
    have : listed.getD i true = true := by
      cases hg : listed.getD i true with
      | true => rfl
      | false => obtain ⟨x, hx, _⟩ := (hL.all i hlt).1 hg; simp at hx
    simp [this]
  | fuel + 1, listed, L, g, s, a, w, hl, hL, h, hr => by
    have hnotempty : Region.ready .any ops listed ≠ [] := by
      cases L with
      | nil => simp at hl
      | cons x L =>
        obtain ⟨i, o, f⟩ := x
        have hx := hL.what (i, o, f) (by simp)
        have hlt : i < ops.size := (Array.getElem?_eq_some_iff.1 hx.1).1
        have hun := (hL.all i hlt).2 ⟨(i, o, f), by simp, rfl⟩
        have hmem : i ∈ Region.ready .any ops listed := by
          unfold Region.ready
          refine List.mem_filter.2 ⟨by simpa using hlt, ?_⟩
          rw [hun, hx.1]
          simp only [Bool.not_false, Bool.true_and, Option.map_some, Option.getD_some, Array.all_eq_true']
          intro e he
          simp only [Bool.or_eq_true, Bool.not_eq_true']
          cases hb : Region.binds .any e with
          | false => exact .inl rfl
          | true =>
            right
            have hlt2 := edges_spec ops.toList 0 hedge i o (by rw [Array.getElem?_toList]; exact hx.1) e (by simpa using he) hb
            have hlt3 : e.on < ops.size := by omega
            cases hg : listed.getD e.on true with
            | true =>
              have hsz : e.on < listed.size := by rw [hL.size]; exact hlt3
              simp only [Array.getD_eq_getD_getElem?, Array.getElem?_eq_getElem hsz, Option.getD_some] at hg ⊢
              exact hg
            | false =>
              obtain ⟨y, hy, hyi⟩ := (hL.all e.on hlt3).1 hg
              have hs := List.pairwise_cons.1 hL.sorted
              rcases List.mem_cons.1 hy with rfl | hy
              · have : i = e.on := hyi; omega
              · have : i < y.1 := hs.1 y hy; omega
        intro hnil; rw [hnil] at hmem; simp at hmem
    refine ⟨fun hn => (hnotempty hn).elim, fun i hi => ?_⟩
    unfold Region.ready at hi
    obtain ⟨hi1, hi2⟩ := List.mem_filter.1 hi
    have hlt : i < ops.size := by simpa using hi1
    simp only [Bool.and_eq_true, Bool.not_eq_true'] at hi2
    obtain ⟨⟨i', o, f⟩, hx, hii⟩ := (hL.all i hlt).1 hi2.1
    have hii' : i' = i := hii
    subst hii'
    have hw := hL.what _ hx
    have hready : ∀ e ∈ o.after.toList, Region.binds .any e = true → listed.getD e.on false = true := by
      have := hi2.2
      rw [hw.1] at this
      simp only [Option.map_some, Option.getD_some, Array.all_eq_true'] at this
      intro e he hb
      have := this e (by simpa using he)
      rw [hb] at this
      simpa using this
    have hbefore : ∀ j, ((befores ops.toList []).getD i' 0).testBit j = true → listed.getD j false = true := by
      intro j hj
      have hspec := (befores_spec ops.toList []).2.2 i' j (by simpa using hlt) (by simpa using hj)
      obtain ⟨o', ho', e, he, hb, hor⟩ := hspec
      rw [Array.getElem?_toList, hw.1] at ho'
      simp at ho'; subst ho'
      have hle := hready e he hb
      rcases hor with rfl | ⟨_, hor⟩
      · exact hle
      · exact hL.down e.on hle j hor
    obtain ⟨pre, post, rfl⟩ := split_mem hx
    have hpw := List.pairwise_append.1 hL.sorted
    have hlisted : ∀ x ∈ pre ++ post, listed.getD x.1 true = false := by
      intro x hxm
      have hm : x ∈ pre ++ (i', o, f) :: post := by
        rcases List.mem_append.1 hxm with hh | hh
        · exact List.mem_append_left _ hh
        · exact List.mem_append_right _ (List.mem_cons_of_mem _ hh)
      exact (hL.all x.1 (Array.getElem?_eq_some_iff.1 (hL.what x hm).1).1).2 ⟨x, hm, rfl⟩
    have hne : ∀ x ∈ pre ++ post, x.1 ≠ i' := by
      intro x hxm
      rcases List.mem_append.1 hxm with hh | hh
      · have := hpw.2.2 x hh (i', o, f) (by simp); exact Nat.ne_of_lt this
      · have := (List.pairwise_cons.1 hpw.2.1).1 x hh; exact (Nat.ne_of_lt this).symm
    have hrun : Run M ops.toList ((o, f) :: ((pre ++ post).map (·.2))) s s' := by
      have hr' : Run M ops.toList (pre.map (·.2) ++ (o, f) :: post.map (·.2)) s s' := by simpa using hr
      have := front (fun x hxm => by
        obtain ⟨y, hy, rfl⟩ := List.mem_map.1 hxm
        cases hcl : y.2.2.clash f with
        | false => rfl
        | true =>
          have hyl := hpw.2.2 y hy (i', o, f) (by simp)
          have hyw := hL.what y (by simp [hy])
          have hbit := hap y.1 i' y.2.2 f hyl hyw.2 hw.2 hcl
          have h1 := hbefore y.1 hbit
          have h2 := hlisted y (by simp [hy])
          simp only [Array.getD_eq_getD_getElem?] at h1 h2
          cases hq : listed[y.1]? with
          | none => rw [hq] at h1; simp at h1
          | some b => rw [hq] at h1 h2; simp at h1 h2; rw [h1] at h2; simp at h2) hr'
      simpa using this
    obtain ⟨s1, hs1, hs2⟩ := hrun
    refine step_sound hT hF hw.1 h hs1 fun g' a' w' h' => ?_
    refine any_sound hT hF hK hedge hap fuel (listed.setIfInBounds i' true) (pre ++ post) (by simp at hl ⊢; omega) ?_ h' hs2
    have hil : i' < listed.size := by rw [hL.size]; exact hlt
    refine ⟨by simp [hL.size], ?_, fun x hxm => hL.what x (by
      rcases List.mem_append.1 hxm with hh | hh
      · exact List.mem_append_left _ hh
      · exact List.mem_append_right _ (List.mem_cons_of_mem _ hh)), fun j hj => ?_, fun k hk j hj => ?_⟩
    · rw [List.pairwise_append]
      refine ⟨hpw.1, (List.pairwise_cons.1 hpw.2.1).2, fun x hxm y hym => hpw.2.2 x hxm y (by simp [hym])⟩
    · rw [getD_set]
      by_cases e : i' = j
      · subst e
        rw [if_pos ⟨rfl, hil⟩]
        simp only [Bool.true_eq_false, false_iff]
        rintro ⟨x, hxm, hxe⟩
        exact hne x hxm hxe
      · rw [if_neg (by rintro ⟨h1, _⟩; exact e h1), hL.all j hj]
        constructor
        · rintro ⟨x, hxm, hxe⟩
          refine ⟨x, ?_, hxe⟩
          rcases List.mem_append.1 hxm with hh | hh
          · exact List.mem_append_left _ hh
          · rcases List.mem_cons.1 hh with rfl | hh
            · exact (e hxe).elim
            · exact List.mem_append_right _ hh
        · rintro ⟨x, hxm, hxe⟩
          refine ⟨x, ?_, hxe⟩
          rcases List.mem_append.1 hxm with hh | hh
          · exact List.mem_append_left _ hh
          · exact List.mem_append_right _ (List.mem_cons_of_mem _ hh)
    · rw [getD_set] at hk ⊢
      by_cases e : i' = j
      · rw [if_pos ⟨e, hil⟩]
      · rw [if_neg (by rintro ⟨h1, _⟩; exact e h1)]
        by_cases e2 : i' = k
        · subst e2; exact hbefore j hj
        · rw [if_neg (by rintro ⟨h1, _⟩; exact e2 h1)] at hk
          exact hL.down k hk j hj
end Go.Proofs.Ytaepcbdcjbfgjaa.B
