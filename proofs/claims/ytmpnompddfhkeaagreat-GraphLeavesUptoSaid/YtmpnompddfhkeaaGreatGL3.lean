/- Part 3 of the proof: BRegion BNorm BSound BFn BEntry BData BTabs BEntryG BLib LawBase BLaw0. -/
import Derived.Orders
import Derived.LoopN
import Derived.Test.YtmpnompddfhkeaaGreatProg
import Derived.KernelRfl
import Derived.JoinedCond
import Derived.OpenShut
import Derived.ChangeArms
import Derived.ChangeShapes
import Derived.Test.YtmpnompddfhkeaaGreatRows
import Derived.Test.YtmpnompddfhkeaaGreatGL2
namespace Go.Proofs.YtmpnompddfhkeaaGreat.B
open Go Go.RowKit
variable {U : Uni} {P : Program} {M : Mc U} {fr : Fr} {w : World} {g : G} {s : S U} {a : Act} {o : Oper}
theorem wanted_sound {E : Enc U} (h : Sim P E fr g s a w) {ops : Array Oper} {b : Bool} (hw : wantK ops.toList s o = some b) : Region.wanted o (yielded ops a.tmps) = b := by
  unfold wantK at hw
  unfold Region.wanted
  split at hw
  · rename_i hg; rw [hg]; simpa using hw
  · rename_i j want hg
    rw [hg]
    dsimp only
    cases hd : (ops.toList[j]?).bind (·.dst) with
    | none => rw [hd] at hw; simp at hw
    | some d =>
      simp only [hd] at hw
      have hd' : (ops[j]?).bind (·.dst) = some d := by rw [Array.getElem?_toList] at hd; exact hd
      split at hw
      · rename_i x hx
        obtain ⟨v, hv, hr⟩ := All2.get d h.tms hx
        rw [Array.getElem?_toList] at hv
        have hvx : v = .bool x := hr.1
        subst hvx
        simp [yielded, hd', hv]
        simpa using hw
      · rename_i hx
        obtain ⟨v, hv, hr⟩ := All2.get d h.tms hx
        rw [Array.getElem?_toList] at hv
        have hvx : v = undef := hr
        subst hvx
        simp [yielded, hd', hv, undef]
        simpa using hw
      · simp at hw
def Step (M : Mc U) (ops : List Oper) (o : Oper) (f : Fp) (s s' : S U) : Prop :=
  (∃ r, wantK ops s o = some true ∧ eff M s o = some r ∧ (∀ p ∈ r.ob, p) ∧ s' = s.upd o.dst r ∧ f = s.fp M ops o r) ∨ (wantK ops s o = some false ∧ s' = s.upd o.dst undefR ∧ f = S.fp0 ops o)
def Run (M : Mc U) (ops : List Oper) : List (Oper × Fp) → S U → S U → Prop
  | [], s, s' => s = s'
  | (o, f) :: rest, s, s' => ∃ s1, Step M ops o f s s1 ∧ Run M ops rest s1 s'
theorem obs_iff {ps : List Prop} {K : Prop} : obs ps K ↔ (∀ p ∈ ps, p) ∧ K := by
  induction ps with
  | nil => simp [obs]
  | cons p ps ih => simp only [obs, ih, List.mem_cons, forall_eq_or_imp]; exact ⟨fun ⟨h1, h2, h3⟩ => ⟨⟨h1, h2⟩, h3⟩, fun ⟨⟨h1, h2⟩, h3⟩ => ⟨h1, h2, h3⟩⟩
theorem run_of_awp {ops : List Oper} {K : S U → List Fp → Prop} : ∀ (l : List Oper) (i : Nat) (s : S U) (fs : List Fp), awpOps M ops l i s fs K → ∃ l' s', l'.map (·.1) = l ∧ Run M ops l' s s' ∧ K s' ((l'.map (·.2)).reverse ++ fs)
  | [], _, s, fs, h => ⟨[], s, rfl, rfl, h⟩
  | o :: rest, i, s, fs, h => by
    simp only [awpOps] at h
    split at h
    · rename_i hw
      split at h
      · rename_i r hr
        unfold execK at h
        rw [obs_iff] at h
        obtain ⟨hob, h⟩ := h
        have go : ∀ v, v = r.v → awpOps M ops rest (i + 1) (s.upd o.dst { r with v := v }) (s.fp M ops o r :: fs) K → ∃ l' s', l'.map (·.1) = o :: rest ∧ Run M ops l' s s' ∧ K s' ((l'.map (·.2)).reverse ++ fs) := by
          intro v hv hh
          subst hv
          obtain ⟨l', s', h1, h2, h3⟩ := run_of_awp rest (i + 1) _ _ hh
          refine ⟨(o, s.fp M ops o r) :: l', s', by simp [h1], ⟨_, .inl ⟨r, hw, hr, hob, rfl, rfl⟩, h2⟩, ?_⟩
          simpa using h3
        split at h
        · rename_i x _ hv
          cases x with
          | true => exact go _ hv.symm h
          | false => exact go _ hv.symm h
        · exact go _ rfl h
      · exact h.elim
    · rename_i hw
      obtain ⟨l', s', h1, h2, h3⟩ := run_of_awp rest (i + 1) _ _ h
      refine ⟨(o, S.fp0 ops o) :: l', s', by simp [h1], ⟨_, .inr ⟨hw, rfl, rfl⟩, h2⟩, ?_⟩
      simpa using h3
    · exact h.elim
theorem Sim.undef (h : Sim P M.E fr g s a w) (dst : Option Nat) : Sim P M.E fr g (s.upd dst undefR) (a.put dst Go.undef) w := h.put rfl rfl rfl
theorem step_sound (hT : TabOK P M) (hF : FnsOK P M) {ops : Array Oper} {Q : Exit → Act → World → Prop} {i : Nat} (ho : ops[i]? = some o) {f : Fp} {s' : S U} (h : Sim P M.E fr g s a w) (hs : Step M ops.toList o f s s') {K : Act → World → Prop}
    (hK : ∀ g' a' w', Sim P M.E fr g' s' a' w' → K a' w') : wpOp P ops Q i K a w := by
  unfold wpOp
  rw [ho]
  dsimp only
  rcases hs with ⟨r, hw, hr, hob, rfl, _⟩ | ⟨hw, rfl, _⟩
  · rw [wanted_sound h hw, if_pos rfl]
    refine .inl ?_
    have hd := eff_sound hT hF h hr hob Q
    exact Oper.wp_mono (fun a' w' ⟨g', hs'⟩ => hK g' a' w' hs') hd
  · rw [wanted_sound h hw]
    simp only [Bool.false_eq_true, if_false]
    exact hK g _ _ (h.undef _)
theorem run_sound (hT : TabOK P M) (hF : FnsOK P M) {ops : Array Oper} {Q : Exit → Act → World → Prop} {s' : S U} (hK : ∀ g' a' w', Sim P M.E fr g' s' a' w' → Q .normal a' w') :
    ∀ (l : List (Oper × Fp)) (k : Nat) {g : G} {s : S U} {a : Act} {w : World}, (∀ (j : Nat), (l.map (·.1))[j]? = ops[k + j]?) → Sim P M.E fr g s a w → Run M ops.toList l s s' → wpOps P ops Q (List.range' k l.length) a w
  | [], k, g, s, a, w, _, h, hr => by
    have : s = s' := hr
    subst this
    exact hK g a w h
  | (o, f) :: l, k, g, s, a, w, hl, h, hr => by
    obtain ⟨s1, h1, h2⟩ := hr
    rw [List.length_cons, List.range'_succ, wpOps_cons]
    refine step_sound hT hF (by have := hl 0; simpa using this.symm) h h1 fun g' a' w' h' => ?_
    exact run_sound hT hF hK l (k + 1) (fun j => by have := hl (j + 1); simpa [Nat.add_assoc, Nat.add_comm 1 j] using this) h' h2
theorem sets_ne {α : Type} {q : Nat} : ∀ {x : List (Nat × α)} {l : List α}, q ∉ x.map (·.1) → (sets l x)[q]? = l[q]?
  | [], _, _ => rfl
  | (k, y) :: x, l, h => by
    simp only [List.map_cons, List.mem_cons, not_or] at h
    simp only [sets]
    rw [sets_ne h.2, List.getElem?_set_ne (Ne.symm h.1)]
theorem sets_set {α : Type} {q : Nat} {z : α} : ∀ {x : List (Nat × α)} {l : List α}, q ∉ x.map (·.1) → sets (l.set q z) x = (sets l x).set q z
  | [], _, _ => rfl
  | (k, y) :: x, l, h => by
    simp only [List.map_cons, List.mem_cons, not_or] at h
    simp only [sets]
    rw [List.set_comm _ _ h.1, sets_set h.2]
theorem sets_comm {α : Type} : ∀ {y x : List (Nat × α)} {l : List α}, (∀ k ∈ x.map (·.1), k ∉ y.map (·.1)) → sets (sets l x) y = sets (sets l y) x
  | [], _, _, _ => rfl
  | (k, z) :: y, x, l, h => by
    simp only [sets]
    have hk : k ∉ x.map (·.1) := fun hk => h k hk (by simp)
    rw [← sets_set hk, sets_comm (fun q hq hq' => h q hq (by simp [hq']))]
structure Frame' (f : Fp) (s s1 : S U) : Prop where
  base : s1.base = s.base
  tm : ∀ t, t ∉ f.ws → s1.tm[t]? = s.tm[t]?
  bx : ∀ k, k ∉ f.wb → s1.bx[k]? = s.bx[k]?
  ob : ∀ k, k ∉ f.wo → s1.ob[k]? = s.ob[k]?
theorem upd_frame {r : Res U} {dst : Option Nat} {f : Fp} (h1 : f.ws = dst.toList) (h2 : f.wb = r.bw.map (·.1)) (h3 : f.wo = r.ow.map (·.1)) : Frame' f s (s.upd dst r) := by
  refine ⟨rfl, fun t ht => ?_, fun k hk => ?_, fun k hk => ?_⟩
  · rw [h1] at ht
    cases dst with
    | none => rfl
    | some d =>
      have : t ≠ d := by simpa using ht
      exact List.getElem?_set_ne (Ne.symm this)
  · rw [h2] at hk; exact sets_ne hk
  · rw [h3] at hk; exact sets_ne hk
theorem upd_comm {r r' : Res U} {d d' : Option Nat} (h1 : ∀ x ∈ d.toList, x ∉ d'.toList) (h2 : ∀ k ∈ r.bw.map (·.1), k ∉ r'.bw.map (·.1)) (h3 : ∀ k ∈ r.ow.map (·.1), k ∉ r'.ow.map (·.1)) : (s.upd d r).upd d' r' = (s.upd d' r').upd d r := by
  unfold S.upd
  congr 1
  · cases d with
    | none => rfl
    | some x =>
      cases d' with
      | none => rfl
      | some y =>
        have : x ≠ y := by simpa using h1 x (by simp)
        exact List.set_comm _ _ this
  · exact sets_comm h2
  · exact sets_comm h3
theorem want_view {ops : List Oper} {s s' : S U} (h : ∀ t ∈ guardSlot ops o, s'.tm[t]? = s.tm[t]?) : wantK ops s' o = wantK ops s o := by
  unfold wantK
  unfold guardSlot at h
  cases hg : o.guard with
  | none => rfl
  | some x =>
    obtain ⟨j, want⟩ := x
    rw [hg] at h
    dsimp only at h ⊢
    cases hd : (ops[j]?).bind (·.dst) with
    | none => rfl
    | some d =>
      rw [hd] at h
      dsimp only
      rw [h d (by simp)]
theorem obsX_view {s s' : S U} {x : Operand} (h : ∀ t, x = .tmp t → s'.tm[t]? = s.tm[t]?) : s'.obsX x = s.obsX x := by
  cases x with
  | tmp t => simp only [S.obsX, h t rfl]
  | _ => rfl
theorem obsXs_view {s s' : S U} : ∀ {xs : List Operand}, (∀ x ∈ xs, ∀ t, x = .tmp t → s'.tm[t]? = s.tm[t]?) → s'.obsXs xs = s.obsXs xs
  | [], _ => rfl
  | x :: xs, h => by simp only [S.obsXs, obsX_view (h x (by simp)), obsXs_view (xs := xs) (fun y hy => h y (by simp [hy]))]
theorem bxX_view {s s' : S U} {x : Operand} (h : ∀ t, x = .tmp t → s'.tm[t]? = s.tm[t]?) : s'.bxX x = s.bxX x := by
  cases x with
  | tmp t => simp only [S.bxX, h t rfl]
  | _ => rfl
theorem bxXs_view {s s' : S U} : ∀ {xs : List Operand}, (∀ x ∈ xs, ∀ t, x = .tmp t → s'.tm[t]? = s.tm[t]?) → s'.bxXs xs = s.bxXs xs
  | [], _ => rfl
  | x :: xs, h => by simp only [S.bxXs, bxX_view (h x (by simp)), bxXs_view (xs := xs) (fun y hy => h y (by simp [hy]))]
theorem boxObs_view {s s' : S U} : ∀ {ks : List Nat}, (∀ k ∈ ks, s'.bx[k]? = s.bx[k]?) → s'.boxObs ks = s.boxObs ks
  | [], _ => rfl
  | k :: ks, h => by simp only [S.boxObs, h k (by simp), boxObs_view (ks := ks) (fun y hy => h y (by simp [hy]))]
theorem Agree.read {s s' : S U} (h : Agree M s s' o) : s'.readB o = s.readB o ∧ s'.readO M o = s.readO M o := by
  have hx : ∀ x ∈ o.op.operands.toList, ∀ t, x = .tmp t → s'.tm[t]? = s.tm[t]? := fun x hx t e => by subst e; exact h.tm t (List.mem_filterMap.2 ⟨_, hx, rfl⟩)
  have hb : s'.readB o = s.readB o := by
    unfold S.readB
    cases hop : o.op with
    | alloc t => simp only [h.key]
    | box t x => simp only [h.key]
    | load t x => rw [hop] at hx; exact bxX_view (hx x (by simp [Op.operands]))
    | store t x y => rw [hop] at hx; exact bxX_view (hx x (by simp [Op.operands]))
    | makeFunc fn first captured => rw [hop] at hx; exact bxXs_view (fun x hm => hx x (by simp [Op.operands] at hm ⊢; exact .inr hm))
    | call c =>
      rw [hop] at hx
      have h1 : s'.bxXs c.args.toList = s.bxXs c.args.toList := bxXs_view (fun x hm => hx x (by simp [Op.operands, Call.operands] at hm ⊢; exact .inr hm))
      have h2 : s'.capX c = s.capX c := by
        unfold S.capX
        split
        · rename_i t hc; rw [hx (.tmp t) (by simp [Op.operands, Call.operands, hc]) t rfl]
        · rfl
      dsimp only
      rw [h1, h2]
    | _ => rfl
  refine ⟨hb, ?_⟩
  unfold S.readO
  cases hop : o.op with
  | load t x => rw [hop] at hx; exact obsX_view (hx x (by simp [Op.operands]))
  | store t x y =>
    have hbx := boxObs_view (s := s) (s' := s') (ks := s.bxX x) (fun k hk => h.bx k (by unfold S.readB; simp only [hop]; exact hk))
    rw [hop] at hx; simp only [obsX_view (hx x (by simp [Op.operands])), obsX_view (hx y (by simp [Op.operands])), bxX_view (hx x (by simp [Op.operands])), hbx]
  | buildSlice t n ps =>
    rw [hop] at hx
    have : s'.obsXs (ps.toList.map (·.2)) = s.obsXs (ps.toList.map (·.2)) := obsXs_view (fun x hm => hx x (by simpa [Op.operands] using hm))
    simp only [this, h.okey]
  | makeSlice t x y => simp only [h.okey]
  | slice t x lo hi mx => rw [hop] at hx; exact obsX_view (hx x (by simp [Op.operands]))
  | indexAddr t x y => rw [hop] at hx; exact obsX_view (hx x (by simp [Op.operands]))
  | nilCheck x => rw [hop] at hx; exact obsX_view (hx x (by simp [Op.operands]))
  | fieldAddr t x f => rw [hop] at hx; exact obsX_view (hx x (by simp [Op.operands]))
  | makeFunc fn first captured =>
    have h1 : s'.bxXs captured.toList = s.bxXs captured.toList := by unfold S.readB at hb; simpa [hop] using hb
    dsimp only
    rw [h1]
    exact boxObs_view (fun k hk => h.bx k (by unfold S.readB; simp only [hop]; exact hk))
  | call c =>
    rw [hop] at hx
    have : s'.obsXs c.args.toList = s.obsXs c.args.toList := obsXs_view (fun x hm => hx x (by simp [Op.operands, Call.operands] at hm ⊢; exact .inr hm))
    have h1 : s'.bxXs c.args.toList ++ s'.capX c = s.bxXs c.args.toList ++ s.capX c := by unfold S.readB at hb; simpa only [hop] using hb
    have h2 := boxObs_view (s := s) (s' := s') (ks := s.bxXs c.args.toList ++ s.capX c) (fun k hk => h.bx k (by unfold S.readB; simp only [hop]; exact hk))
    simp only [this, h.okey, h1, h2]
  | _ => rfl
theorem Step.move {ops : List Oper} {f : Fp} {s s1 : S U} (h : Step M ops o f s s1) :
    ∃ r, f.ws = o.dst.toList ∧ f.wb = r.bw.map (·.1) ∧ f.wo = r.ow.map (·.1) ∧ s1 = s.upd o.dst r ∧
      ∀ s' : S U, s'.base = s.base → (∀ t ∈ f.rs, s'.tm[t]? = s.tm[t]?) → (∀ k ∈ f.rb, s'.bx[k]? = s.bx[k]?) → (∀ k ∈ f.ro, s'.ob[k]? = s.ob[k]?) → Step M ops o f s' (s'.upd o.dst r) := by
  rcases h with ⟨r, hw, hr, hobl, rfl, rfl⟩ | ⟨hw, rfl, rfl⟩
  · refine ⟨r, rfl, rfl, rfl, rfl, fun s' hb htm hbx hob => ?_⟩
    have hA : Agree M s s' o := ⟨hb, fun t ht => htm t (by simp [S.fp, ht]), fun k hk => hbx k hk, fun k hk => hob k hk⟩
    refine .inl ⟨r, ?_, ?_, hobl, rfl, ?_⟩
    · rw [want_view (fun t ht => htm t (by simp [S.fp, ht]))]; exact hw
    · rw [eff_view hA]; exact hr
    · simp only [S.fp, hA.read.1, hA.read.2]
  · refine ⟨undefR, rfl, rfl, rfl, rfl, fun s' hb htm hbx hob => .inr ⟨?_, rfl, rfl⟩⟩
    rw [want_view (fun t ht => htm t ht)]; exact hw
theorem swap {ops : List Oper} {p : Oper} {f h : Fp} {s s1 s2 : S U} (hc : f.clash h = false) (h1 : Step M ops o f s s1) (h2 : Step M ops p h s1 s2) : ∃ s1', Step M ops p h s s1' ∧ Step M ops o f s1' s2 := by
  simp only [Fp.clash, Bool.or_eq_false_iff] at hc
  obtain ⟨⟨⟨⟨⟨⟨⟨⟨c1, c2⟩, c3⟩, c4⟩, c5⟩, c6⟩, c7⟩, c8⟩, c9⟩ := hc
  obtain ⟨r, e1, e2, e3, rfl, ho⟩ := h1.move
  have fr1 : Frame' f s (s.upd o.dst r) := upd_frame e1 e2 e3
  obtain ⟨r', i1, i2, i3, rfl, hp⟩ := h2.move
  have hp' := hp s fr1.base.symm (fun t ht => (fr1.tm t (fun hh => meets_false c1 t hh ht)).symm) (fun k hk => (fr1.bx k (fun hh => meets_false c3 k hh hk)).symm) (fun k hk => (fr1.ob k (fun hh => meets_false c5 k hh hk)).symm)
  refine ⟨_, hp', ?_⟩
  have fr2 : Frame' h s (s.upd p.dst r') := upd_frame i1 i2 i3
  have ho' := ho (s.upd p.dst r') fr2.base (fun t ht => fr2.tm t (fun hh => meets_false c7 t ht hh)) (fun k hk => fr2.bx k (fun hh => meets_false c8 k hk hh)) (fun k hk => fr2.ob k (fun hh => meets_false c9 k hk hh))
  rw [upd_comm (s := s) (r := r) (r' := r') (d := o.dst) (d' := p.dst) (fun x hx => by have := meets_false c2 x (by rw [e1]; exact hx); rw [i1] at this; exact this)
    (fun x hx => by have := meets_false c4 x (by rw [e2]; exact hx); rw [i2] at this; exact this) (fun x hx => by have := meets_false c6 x (by rw [e3]; exact hx); rw [i3] at this; exact this)]
  exact ho'
theorem front {ops : List Oper} {f : Fp} : ∀ {pre post : List (Oper × Fp)} {s s' : S U}, (∀ x ∈ pre, x.2.clash f = false) → Run M ops (pre ++ (o, f) :: post) s s' → Run M ops ((o, f) :: (pre ++ post)) s s'
  | [], _, _, _, _, h => h
  | (p, h) :: pre, post, s, s', hc, hr => by
    obtain ⟨s1, h1, h2⟩ := hr
    obtain ⟨s2, h3, h4⟩ := front (fun x hx => hc x (by simp [hx])) h2
    obtain ⟨s1', h5, h6⟩ := swap (hc (p, h) (by simp)) h1 h3
    exact ⟨s1', h5, s2, h6, h4⟩
theorem testBit_bits {done : List Nat} {j : Nat} : ∀ {es : List Edge}, (bitsOf done es).testBit j = true → ∃ e ∈ es, Region.binds .any e = true ∧ (j = e.on ∨ (done.getD e.on 0).testBit j = true)
  | [], h => by simp [bitsOf] at h
  | e :: es, h => by
    simp only [bitsOf] at h
    split at h
    · rename_i hb
      rw [Nat.testBit_or, Nat.testBit_or, Nat.testBit_two_pow] at h
      simp only [Bool.or_eq_true, decide_eq_true_eq] at h
      rcases h with (h | h) | h
      · obtain ⟨e', he, h2, h3⟩ := testBit_bits h
        exact ⟨e', by simp [he], h2, h3⟩
      · exact ⟨e, by simp, hb, .inl h.symm⟩
      · exact ⟨e, by simp, hb, .inr h⟩
    · obtain ⟨e', he, h2, h3⟩ := testBit_bits h
      exact ⟨e', by simp [he], h2, h3⟩
theorem befores_spec : ∀ (ops : List Oper) (done : List Nat), (befores ops done).length = done.length + ops.length ∧ (∀ i, i < done.length → (befores ops done).getD i 0 = done.getD i 0) ∧
    ∀ (i j : Nat), i < ops.length → ((befores ops done).getD (done.length + i) 0).testBit j = true → ∃ o, ops[i]? = some o ∧ ∃ e ∈ o.after.toList, Region.binds .any e = true ∧ (j = e.on ∨ (e.on < done.length + i ∧ ((befores ops done).getD e.on 0).testBit j = true))
  | [], done => ⟨by simp [befores], fun i _ => rfl, fun i j hi => by simp at hi⟩
  | o :: r, done => by
    obtain ⟨h1, h2, h3⟩ := befores_spec r (done ++ [bitsOf done o.after.toList])
    simp only [befores]
    refine ⟨by rw [h1]; simp; omega, fun i hi => ?_, fun i j hi hb => ?_⟩
    · rw [h2 i (by simp; omega), List.getD_eq_getElem?_getD, List.getD_eq_getElem?_getD, List.getElem?_append_left hi]
    · cases i with
      | zero =>
        rw [Nat.add_zero, h2 done.length (by simp), List.getD_eq_getElem?_getD, List.getElem?_append_right (Nat.le_refl _)] at hb
        simp only [Nat.sub_self, List.getElem?_cons_zero, Option.getD_some] at hb
        obtain ⟨e, he, hbd, hor⟩ := testBit_bits hb
        refine ⟨o, rfl, e, he, hbd, ?_⟩
        rcases hor with hor | hor
        · exact .inl hor
        · right
          have hlt : e.on < done.length := by
            rcases Nat.lt_or_ge e.on done.length with h | h
            · exact h
            · rw [List.getD_eq_getElem?_getD, List.getElem?_eq_none h] at hor; simp at hor
          refine ⟨by omega, ?_⟩
          rw [h2 e.on (by simp; omega), List.getD_eq_getElem?_getD, List.getElem?_append_left hlt, ← List.getD_eq_getElem?_getD]
          exact hor
      | succ i =>
        have hl : (done ++ [bitsOf done o.after.toList]).length + i = done.length + (i + 1) := by simp; omega
        rw [← hl] at hb
        obtain ⟨o', ho', e, he, hbd, hor⟩ := h3 i j (by simpa using hi) hb
        refine ⟨o', by simpa using ho', e, he, hbd, ?_⟩
        rcases hor with hor | ⟨hor1, hor2⟩
        · exact .inl hor
        · exact .inr ⟨by rw [← hl]; exact hor1, hor2⟩
theorem apartFrom_spec {bs : List Nat} {j : Nat} {fj : Fp} : ∀ (fs : List Fp) (k : Nat), apartFrom bs j fj k fs = true → ∀ (i : Nat) fi, fs[i]? = some fi → fi.clash fj = true → (bs.getD j 0).testBit (k + i) = true
  | [], _, _, i, fi, h, _ => by simp at h
  | f :: fs, k, h, i, fi, hi, hc => by
    simp only [apartFrom, Bool.and_eq_true, Bool.or_eq_true, Bool.not_eq_true'] at h
    cases i with
    | zero =>
      simp at hi; subst hi
      rcases h.1 with h1 | h1
      · rw [hc] at h1; simp at h1
      · rw [Nat.add_zero]; exact h1
    | succ i =>
      have := apartFrom_spec fs (k + 1) h.2 i fi (by simpa using hi) hc
      rw [show k + (i + 1) = k + 1 + i from by omega]; exact this
theorem apartAll_spec {bs : List Nat} : ∀ (fs done : List Fp) (k : Nat), k = done.length → apartAll bs k done fs = true → ∀ (i j : Nat) fi fj, i < j → done.length ≤ j → (done ++ fs)[i]? = some fi → (done ++ fs)[j]? = some fj → fi.clash fj = true → (bs.getD j 0).testBit i = true
  | [], done, k, _, _, i, j, fi, fj, _, hj, _, h2, _ => by
    rw [List.append_nil, List.getElem?_eq_none hj] at h2; simp at h2
  | f :: fs, done, k, hk, h, i, j, fi, fj, hij, hj, h1, h2, hc => by
    simp only [apartAll, Bool.and_eq_true] at h
    rcases Nat.eq_or_lt_of_le hj with rfl | hlt
    · rw [List.getElem?_append_right (Nat.le_refl _)] at h2
      simp at h2; subst h2
      rw [List.getElem?_append_left hij] at h1
      have := apartFrom_spec done 0 h.1 i fi h1 hc
      rw [Nat.zero_add, hk] at this
      exact this
    · have := apartAll_spec fs (done ++ [f]) (k + 1) (by simp [hk]) h.2 i j fi fj hij (by simp; omega) (by simpa using h1) (by simpa using h2) hc
      exact this
theorem edges_spec : ∀ (ops : List Oper) (k : Nat), edgesOK k ops = true → ∀ (i : Nat) o, ops[i]? = some o → ∀ e ∈ o.after.toList, Region.binds .any e = true → e.on < k + i
  | [], _, _, i, o, h => by simp at h
  | o :: r, k, h, i, o', hi => by
    simp only [edgesOK, Bool.and_eq_true, List.all_eq_true] at h
    cases i with
    | zero =>
      simp at hi; subst hi
      intro e he hb
      have := h.1 e he
      rw [hb] at this
      simp [Nat.blt] at this
      omega
    | succ i =>
      intro e he hb
      have := edges_spec r (k + 1) h.2 i o' (by simpa using hi) e he hb
      omega
structure Left (ops : Array Oper) (fs : List Fp) (listed : Array Bool) (L : List (Nat × Oper × Fp)) : Prop where
  size : listed.size = ops.size
  sorted : L.Pairwise (fun x y => x.1 < y.1)
  what : ∀ x ∈ L, ops[x.1]? = some x.2.1 ∧ fs[x.1]? = some x.2.2
  all : ∀ i, i < ops.size → (listed.getD i true = false ↔ ∃ x ∈ L, x.1 = i)
  down : ∀ k, listed.getD k false = true → ∀ j, ((befores ops.toList []).getD k 0).testBit j = true → listed.getD j false = true
theorem split_mem {α : Type} {x : α} {l : List α} (h : x ∈ l) : ∃ a b, l = a ++ x :: b := List.append_of_mem h
theorem getD_set (l : Array Bool) (i j : Nat) (d : Bool) : (l.setIfInBounds i true).getD j d = if i = j ∧ i < l.size then true else l.getD j d := by
  simp only [Array.getD_eq_getD_getElem?, Array.getElem?_setIfInBounds]
  split
  · rename_i e; subst e
    split
    · rename_i h; simp [h]
    · rename_i h; simp [h, Array.getElem?_eq_none (Nat.le_of_not_lt h)]
  · rename_i e; simp [e]
theorem any_sound (hT : TabOK P M) (hF : FnsOK P M) {ops : Array Oper} {Q : Exit → Act → World → Prop} {s' : S U} {fs : List Fp} (hK : ∀ g' a' w', Sim P M.E fr g' s' a' w' → Q .normal a' w')
    (hedge : edgesOK 0 ops.toList = true) (hap : ∀ (i j : Nat) fi fj, i < j → fs[i]? = some fi → fs[j]? = some fj → fi.clash fj = true → ((befores ops.toList []).getD j 0).testBit i = true) :
    ∀ (fuel : Nat) (listed : Array Bool) (L : List (Nat × Oper × Fp)) {g : G} {s : S U} {a : Act} {w : World}, L.length = fuel → Left ops fs listed L → Sim P M.E fr g s a w → Run M ops.toList (L.map (·.2)) s s' → wpAny P .any ops Q fuel listed a w
  | 0, listed, L, g, s, a, w, hl, hL, h, hr => by
    have : L = [] := List.eq_nil_of_length_eq_zero hl
    subst this
    have e : s = s' := hr
    subst e
    refine ⟨?_, hK g a w h⟩
    unfold Region.ready
    rw [List.filter_eq_nil_iff]
    intro i hi
    have hlt : i < ops.size := by simpa using hi
    have : listed.getD i true = true := by
      cases hg : listed.getD i true with
      | true => rfl
      | false => obtain ⟨x, hx, _⟩ := (hL.all i hlt).1 hg; simp at hx
    simp [this]
  | fuel + 1, listed, L, g, s, a, w, hl, hL, h, hr => by
    have hnotempty : Region.ready .any ops listed ≠ [] := by
      cases L with
      | nil => simp at hl
      | cons x L =>
        obtain ⟨i, o, f⟩ := x
        have hx := hL.what (i, o, f) (by simp)
        have hlt : i < ops.size := (Array.getElem?_eq_some_iff.1 hx.1).1
        have hun := (hL.all i hlt).2 ⟨(i, o, f), by simp, rfl⟩
        have hmem : i ∈ Region.ready .any ops listed := by
          unfold Region.ready
          refine List.mem_filter.2 ⟨by simpa using hlt, ?_⟩
          rw [hun, hx.1]
          simp only [Bool.not_false, Bool.true_and, Option.map_some, Option.getD_some, Array.all_eq_true']
          intro e he
          simp only [Bool.or_eq_true, Bool.not_eq_true']
          cases hb : Region.binds .any e with
          | false => exact .inl rfl
          | true =>
            right
            have hlt2 := edges_spec ops.toList 0 hedge i o (by rw [Array.getElem?_toList]; exact hx.1) e (by simpa using he) hb
            have hlt3 : e.on < ops.size := by omega
            cases hg : listed.getD e.on true with
            | true =>
              have hsz : e.on < listed.size := by rw [hL.size]; exact hlt3
              simp only [Array.getD_eq_getD_getElem?, Array.getElem?_eq_getElem hsz, Option.getD_some] at hg ⊢
              exact hg
            | false =>
              obtain ⟨y, hy, hyi⟩ := (hL.all e.on hlt3).1 hg
              have hs := List.pairwise_cons.1 hL.sorted
              rcases List.mem_cons.1 hy with rfl | hy
              · have : i = e.on := hyi; omega
              · have : i < y.1 := hs.1 y hy; omega
        intro hnil; rw [hnil] at hmem; simp at hmem
    refine ⟨fun hn => (hnotempty hn).elim, fun i hi => ?_⟩
    unfold Region.ready at hi
    obtain ⟨hi1, hi2⟩ := List.mem_filter.1 hi
    have hlt : i < ops.size := by simpa using hi1
    simp only [Bool.and_eq_true, Bool.not_eq_true'] at hi2
    obtain ⟨⟨i', o, f⟩, hx, hii⟩ := (hL.all i hlt).1 hi2.1
    have hii' : i' = i := hii
    subst hii'
    have hw := hL.what _ hx
    have hready : ∀ e ∈ o.after.toList, Region.binds .any e = true → listed.getD e.on false = true := by
      have := hi2.2
      rw [hw.1] at this
      simp only [Option.map_some, Option.getD_some, Array.all_eq_true'] at this
      intro e he hb
      have := this e (by simpa using he)
      rw [hb] at this
      simpa using this
    have hbefore : ∀ j, ((befores ops.toList []).getD i' 0).testBit j = true → listed.getD j false = true := by
      intro j hj
      have hspec := (befores_spec ops.toList []).2.2 i' j (by simpa using hlt) (by simpa using hj)
      obtain ⟨o', ho', e, he, hb, hor⟩ := hspec
      rw [Array.getElem?_toList, hw.1] at ho'
      simp at ho'; subst ho'
      have hle := hready e he hb
      rcases hor with rfl | ⟨_, hor⟩
      · exact hle
      · exact hL.down e.on hle j hor
    obtain ⟨pre, post, rfl⟩ := split_mem hx
    have hpw := List.pairwise_append.1 hL.sorted
    have hlisted : ∀ x ∈ pre ++ post, listed.getD x.1 true = false := by
      intro x hxm
      have hm : x ∈ pre ++ (i', o, f) :: post := by
        rcases List.mem_append.1 hxm with hh | hh
        · exact List.mem_append_left _ hh
        · exact List.mem_append_right _ (List.mem_cons_of_mem _ hh)
      exact (hL.all x.1 (Array.getElem?_eq_some_iff.1 (hL.what x hm).1).1).2 ⟨x, hm, rfl⟩
    have hne : ∀ x ∈ pre ++ post, x.1 ≠ i' := by
      intro x hxm
      rcases List.mem_append.1 hxm with hh | hh
      · have := hpw.2.2 x hh (i', o, f) (by simp); exact Nat.ne_of_lt this
      · have := (List.pairwise_cons.1 hpw.2.1).1 x hh; exact (Nat.ne_of_lt this).symm
    have hrun : Run M ops.toList ((o, f) :: ((pre ++ post).map (·.2))) s s' := by
      have hr' : Run M ops.toList (pre.map (·.2) ++ (o, f) :: post.map (·.2)) s s' := by simpa using hr
      have := front (fun x hxm => by
        obtain ⟨y, hy, rfl⟩ := List.mem_map.1 hxm
        cases hcl : y.2.2.clash f with
        | false => rfl
        | true =>
          have hyl := hpw.2.2 y hy (i', o, f) (by simp)
          have hyw := hL.what y (by simp [hy])
          have hbit := hap y.1 i' y.2.2 f hyl hyw.2 hw.2 hcl
          have h1 := hbefore y.1 hbit
          have h2 := hlisted y (by simp [hy])
          simp only [Array.getD_eq_getD_getElem?] at h1 h2
          cases hq : listed[y.1]? with
          | none => rw [hq] at h1; simp at h1
          | some b => rw [hq] at h1 h2; simp at h1 h2; rw [h1] at h2; simp at h2) hr'
      simpa using this
    obtain ⟨s1, hs1, hs2⟩ := hrun
    refine step_sound hT hF hw.1 h hs1 fun g' a' w' h' => ?_
    refine any_sound hT hF hK hedge hap fuel (listed.setIfInBounds i' true) (pre ++ post) (by simp at hl ⊢; omega) ?_ h' hs2
    have hil : i' < listed.size := by rw [hL.size]; exact hlt
    refine ⟨by simp [hL.size], ?_, fun x hxm => hL.what x (by
      rcases List.mem_append.1 hxm with hh | hh
      · exact List.mem_append_left _ hh
      · exact List.mem_append_right _ (List.mem_cons_of_mem _ hh)), fun j hj => ?_, fun k hk j hj => ?_⟩
    · rw [List.pairwise_append]
      refine ⟨hpw.1, (List.pairwise_cons.1 hpw.2.1).2, fun x hxm y hym => hpw.2.2 x hxm y (by simp [hym])⟩
    · rw [getD_set]
      by_cases e : i' = j
      · subst e
        rw [if_pos ⟨rfl, hil⟩]
        simp only [Bool.true_eq_false, false_iff]
        rintro ⟨x, hxm, hxe⟩
        exact hne x hxm hxe
      · rw [if_neg (by rintro ⟨h1, _⟩; exact e h1), hL.all j hj]
        constructor
        · rintro ⟨x, hxm, hxe⟩
          refine ⟨x, ?_, hxe⟩
          rcases List.mem_append.1 hxm with hh | hh
          · exact List.mem_append_left _ hh
          · rcases List.mem_cons.1 hh with rfl | hh
            · exact (e hxe).elim
            · exact List.mem_append_right _ hh
        · rintro ⟨x, hxm, hxe⟩
          refine ⟨x, ?_, hxe⟩
          rcases List.mem_append.1 hxm with hh | hh
          · exact List.mem_append_left _ hh
          · exact List.mem_append_right _ (List.mem_cons_of_mem _ hh)
    · rw [getD_set] at hk ⊢
      by_cases e : i' = j
      · rw [if_pos ⟨e, hil⟩]
      · rw [if_neg (by rintro ⟨h1, _⟩; exact e h1)]
        by_cases e2 : i' = k
        · subst e2; exact hbefore j hj
        · rw [if_neg (by rintro ⟨h1, _⟩; exact e2 h1)] at hk
          exact hL.down k hk j hj
end Go.Proofs.YtmpnompddfhkeaaGreat.B
namespace Go.Proofs.YtmpnompddfhkeaaGreat.B
open Go Go.RowKit
variable {U : Uni} {P : Program} {E : Enc U} {fr : Fr} {w : World} {g : G} {s : S U} {a : Act}
theorem look_mem' {α : Type} {t : Nat} {x : α} : ∀ {l : List (Nat × α)}, look t l = some x → (t, x) ∈ l := fun h => look_mem h
theorem look_of_mem {k q : Nat} : ∀ {mp : List (Nat × Nat)}, unlike (mp.map (·.1)) = true → (k, q) ∈ mp → look k mp = some q
  | [], _, h => by simp at h
  | (k', q') :: r, hu, h => by
    obtain ⟨h1, h2⟩ := unlike_cons hu
    simp only [look]
    rcases List.mem_cons.1 h with e | h
    · simp at e; obtain ⟨rfl, rfl⟩ := e; simp
    · have : k' ≠ k := by rintro rfl; exact h1 (List.mem_map.2 ⟨_, h, rfl⟩)
      have hb : Nat.beq k' k = false := by cases hh : Nat.beq k' k with | false => rfl | true => exact (this (Nat.eq_of_beq_eq_true hh)).elim
      rw [hb]; exact look_of_mem h2 h
def back (q : Nat) : List (Nat × Nat) → Option Nat
  | [] => none
  | (k, q') :: r => if q' = q then some k else back q r
theorem back_of_mem {k q : Nat} : ∀ {mp : List (Nat × Nat)}, unlike (mp.map (·.2)) = true → (k, q) ∈ mp → back q mp = some k
  | [], _, h => by simp at h
  | (k', q') :: r, hu, h => by
    obtain ⟨h1, h2⟩ := unlike_cons hu
    simp only [back]
    rcases List.mem_cons.1 h with e | h
    · simp at e; obtain ⟨rfl, rfl⟩ := e; simp
    · have : q' ≠ q := by rintro rfl; exact h1 (List.mem_map.2 ⟨_, h, rfl⟩)
      rw [if_neg this]; exact back_of_mem h2 h
theorem moved_get {q : Nat} {o : Ob U} : ∀ {mp : List (Nat × Nat)} {l : List (Option (Ob U))}, unlike (mp.map (·.2)) = true → (∀ x ∈ mp, x.2 < l.length) → (∀ o, l[q]? ≠ some (some o)) → (sets l (s.moved mp))[q]? = some (some o) → ∃ k o0, (k, q) ∈ mp ∧ s.ob[k]? = some (some o0) ∧ o = { o0 with ver := 0 }
  | [], l, _, _, hn, h => (hn o h).elim
  | (k, q') :: r, l, hu, hl, hn, h => by
    obtain ⟨h1, h2⟩ := unlike_cons hu
    simp only [S.moved, sets] at h
    by_cases e : q = q'
    · subst e
      have hnr : q ∉ (s.moved r).map (·.1) := by
        have : ∀ r : List (Nat × Nat), (s.moved r).map (·.1) = r.map (·.2) := by
          intro r; induction r with
          | nil => rfl
          | cons x r ih => simp [S.moved, ih]
        rw [this]; exact h1
      rw [sets_ne hnr, List.getElem?_set_self (hl (k, q) (by simp))] at h
      simp at h
      split at h
      · rename_i o0 ho; simp at h; exact ⟨k, o0, by simp, ho, h.symm⟩
      · simp at h
    · obtain ⟨k', o0, m1, m2, m3⟩ := moved_get (mp := r) h2 (fun x hx => by simpa using hl x (by simp [hx])) (fun o' ho' => by rw [List.getElem?_set_ne (Ne.symm e)] at ho'; exact hn o' ho') h
      exact ⟨k', o0, by simp [m1], m2, m3⟩
theorem moved_get' {k q : Nat} {o : Ob U} (ho : s.ob[k]? = some (some o)) : ∀ {mp : List (Nat × Nat)} {l : List (Option (Ob U))}, unlike (mp.map (·.2)) = true → (∀ x ∈ mp, x.2 < l.length) → (k, q) ∈ mp → (sets l (s.moved mp))[q]? = some (some { o with ver := 0 })
  | [], l, _, _, h => by simp at h
  | (k', q') :: r, l, hu, hl, h => by
    obtain ⟨h1, h2⟩ := unlike_cons hu
    have hkeys : ∀ r : List (Nat × Nat), (s.moved r).map (·.1) = r.map (·.2) := by
      intro r; induction r with
      | nil => rfl
      | cons x r ih => simp [S.moved, ih]
    simp only [S.moved, sets]
    rcases List.mem_cons.1 h with e | h
    · simp at e; obtain ⟨rfl, rfl⟩ := e
      rw [sets_ne (by rw [hkeys]; exact h1), List.getElem?_set_self (hl (k, q) (by simp)), ho]
    · exact moved_get' ho h2 (fun x hx => by simpa using hl x (by simp [hx])) h
theorem All2.keep {α β : Type} {R : α → β → Prop} {z : β} (hz : ∀ a, R a z) : ∀ (bs : List Bool) {l : List α} {r : List β}, All2 R l r → All2 R l (keepL z bs r)
  | [], [], [], _ => trivial
  | [], _ :: _, _ :: _, h => ⟨hz _, All2.keep hz [] h.2⟩
  | _ :: _, [], [], _ => trivial
  | b :: bs, _ :: _, _ :: _, h => ⟨by cases b; exact hz _; exact h.1, All2.keep hz bs h.2⟩
theorem keepL_get {α : Type} {z : α} : ∀ (bs : List Bool) (l : List α) (k : Nat) (x : α), (keepL z bs l)[k]? = some x → (l[k]? = some x ∧ bs[k]? = some true) ∨ x = z
  | _, [], k, x, h => by simp [keepL] at h
  | [], y :: l, 0, x, h => by simp [keepL] at h; exact .inr h.symm
  | [], y :: l, k + 1, x, h => by
    simp only [keepL, List.getElem?_cons_succ] at h
    rcases keepL_get [] l k x h with ⟨_, h2⟩ | h
    · simp at h2
    · exact .inr h
  | b :: bs, y :: l, 0, x, h => by
    cases b
    · simp [keepL] at h; exact .inr h.symm
    · simp [keepL] at h; exact .inl ⟨by simp [h], rfl⟩
  | b :: bs, y :: l, k + 1, x, h => by
    simp only [keepL, List.getElem?_cons_succ] at h ⊢
    exact keepL_get bs l k x h
theorem keepL_get' {α : Type} {z : α} : ∀ (bs : List Bool) (l : List α) (k : Nat) (x : α), l[k]? = some x → bs[k]? = some true → (keepL z bs l)[k]? = some x
  | [], _, _, _, _, h => by simp at h
  | _ :: _, [], _, _, h, _ => by simp at h
  | b :: bs, y :: l, 0, x, h, hb => by simp at hb h; subst hb h; rfl
  | b :: bs, y :: l, k + 1, x, h, hb => by
    simp only [keepL, List.getElem?_cons_succ] at h hb ⊢
    exact keepL_get' bs l k x h hb
theorem Sim.ren (h : Sim P E fr g s a w) {mp : List (Nat × Nat)} (ts bs : List Bool) (hu1 : unlike (mp.map (·.1)) = true) (hu2 : unlike (mp.map (·.2)) = true) (hlt : ∀ x ∈ mp, x.2 < s.ob.length) : ∃ g', Sim P E fr g' (s.ren mp ts bs) a w := by
  let g' : G := { β := g.β, lb := fun k => g.lb k ∧ bs[k]? = some true,
                  ω := fun b i => match g.ω b i with | some (.obj k) => (look k mp).map Own.obj | x => x,
                  tk := fun q => match back q mp with | some k => g.tk k | none => g.tk q }
  have hlt' : ∀ x ∈ mp, x.2 < (List.replicate s.ob.length (none : Option (Ob U))).length := fun x hx => by simpa using hlt x hx
  have hst : ∀ b i, g.St b i → g'.St b i := fun b i hs => by show (match g.ω b i with | some (.obj k) => _ | x => x) = _; rw [show g.ω b i = some .st from hs]
  have hobj : ∀ b i k q, (k, q) ∈ mp → g.ω b i = some (.obj k) → g'.ω b i = some (.obj q) := fun b i k q hm he => by
    show (match g.ω b i with | some (.obj k) => _ | x => x) = _; rw [he]; simp only [look_of_mem hu1 hm]; rfl
  have htk : ∀ k q, (k, q) ∈ mp → g'.tk q = g.tk k := fun k q hm => by show (match back q mp with | some k => _ | none => _) = _; rw [back_of_mem hu2 hm]
  have hk : Keeps g.St w g'.St w := fun b i hs => ⟨hst b i hs, rfl⟩
  have hc : ∀ v c, CRel P E g s.ob w v c → CRel P E g' (s.ren mp ts bs).ob w v (c.ren s mp bs) := by
    intro v c hv
    cases c with
    | s x => exact hv
    | sl τ xs f => exact ⟨hv.1.mono hk, hv.2⟩
    | ob k ver =>
      simp only [C.ren]
      split
      · rename_i q o hl ho
        obtain ⟨h1, h2⟩ := obAt_eq ho
        obtain ⟨i1, o', i2, i3, i4⟩ := hv
        rw [h1] at i2; simp at i2; subst i2
        have hm := look_mem' hl
        exact ⟨i1, _, moved_get' h1 hu2 hlt' hm, Nat.le_refl _, fun _ => by rw [htk k q hm]; exact i4 h2.symm⟩
      · exact hv.1
    | bx k off =>
      simp only [C.ren]
      split
      · rename_i hb; exact ⟨⟨hv.1, hb⟩, hv.2⟩
      · rw [hv.2]; rfl
    | el τ xs i off => obtain ⟨h1, b, o, cap, h2, h3⟩ := hv; exact ⟨h1, b, o, cap, h2, h3.mono hk⟩
    | em k ver i off =>
      simp only [C.ren]
      split
      · rename_i q o hl ho
        obtain ⟨h1, h2⟩ := obAt_eq ho
        obtain ⟨i1, o', i2, i3, i4⟩ := hv
        rw [h1] at i2; simp at i2; subst i2
        have hm := look_mem' hl
        obtain ⟨j1, b, off', j2, j3⟩ := i4 h2.symm
        exact ⟨i1, _, moved_get' h1 hu2 hlt' hm, Nat.le_refl _, fun _ => ⟨j1, b, off', by rw [htk k q hm]; exact j2, j3⟩⟩
      · exact hv.1
    | fv φ => exact FunRel.mono hk hv
    | fc f caps =>
      simp only [C.ren]
      split
      · rename_i hall
        refine ⟨hv.1, fun k hk' => ⟨hv.2 k hk', ?_⟩⟩
        have := List.all_eq_true.1 hall k hk'
        rw [List.getD_eq_getElem?_getD] at this
        cases hb : bs[k]? with
        | none => rw [hb] at this; simp at this
        | some x => rw [hb] at this; simp at this; rw [this]
      · rw [hv.1]; rfl
    | top => exact hv
  have hcs : ∀ {us : List Value} {cs : List (C U)}, All2 (CRel P E g s.ob w) us cs → All2 (CRel P E g' (s.ren mp ts bs).ob w) us (cs.map (C.ren s mp bs)) := fun hh => All2.map_right (C.ren s mp bs) (fun x y hxy => hc x y hxy) hh
  have ha : ∀ v x, ARel P E g s.ob w v x → ARel P E g' (s.ren mp ts bs).ob w v (x.ren s mp bs) := by
    intro v x hv
    cases x with
    | c y => exact hc v y hv
    | agg cs => obtain ⟨arr, e, h2⟩ := hv; exact ⟨arr, e, hcs h2⟩
    | top => trivial
  have hav : ∀ v x, AVRel P E g s.ob w v x → AVRel P E g' (s.ren mp ts bs).ob w v (x.ren s mp bs) := by
    intro v x hv
    cases x with
    | one y => exact ha v y hv
    | tup al => obtain ⟨arr, e, h2⟩ := hv; exact ⟨arr, e, All2.map_right (A.ren s mp bs) (fun x y hxy => ha x y hxy) h2⟩
    | undef => exact hv
  refine ⟨g', { ext := h.ext, tms := ?_, bxs := ?_, lbs := ?_, obs := ?_, own := ?_, dfr := h.dfr, fix := fun k hk hl => h.fix k hk hl.1, bas := h.bas }⟩
  · exact All2.map_right (AV.ren s mp bs) (fun x y hxy => hav x y hxy) (All2.keep (fun _ => trivial) ts h.tms)
  · intro k fz cells hk'
    have hk2 : ((keepL none bs s.bx).map (Option.map fun x => (x.1, x.2.map (C.ren s mp bs))))[k]? = some (some (fz, cells)) := hk'
    rw [List.getElem?_map] at hk2
    cases hb : (keepL none bs s.bx)[k]? with
    | none => rw [hb] at hk2; simp at hk2
    | some x =>
      cases x with
      | none => rw [hb] at hk2; simp at hk2
      | some x =>
        obtain ⟨fz0, c0⟩ := x
        rw [hb] at hk2; simp at hk2; obtain ⟨rfl, rfl⟩ := hk2
        rcases keepL_get bs s.bx k _ hb with ⟨h1, h2⟩ | h1
        · obtain ⟨hl, vs, i1, i2⟩ := h.bxs k fz0 c0 h1
          refine ⟨⟨hl, h2⟩, vs, hcs i1, fun i v hv => ?_⟩
          obtain ⟨j1, j2, j3⟩ := i2 i v hv
          refine ⟨j1, fun hz => ⟨(j2 hz).1, ?_⟩, fun hz => hst _ _ (j3 hz)⟩
          show (match g.ω (g.β k) i with | some (.obj k) => _ | x => x) = _
          rw [(j2 hz).2]
        · simp at h1
  · intro k hl
    obtain ⟨c, hc'⟩ := h.lbs k hl.1
    obtain ⟨fz, cells⟩ := c
    refine ⟨(fz, cells.map (C.ren s mp bs)), ?_⟩
    show ((keepL none bs s.bx).map _)[k]? = _
    rw [List.getElem?_map, keepL_get' bs s.bx k _ hc' hl.2]; rfl
  · intro q o hq
    obtain ⟨k, o0, hm, ho, rfl⟩ := moved_get (mp := mp) hu2 hlt' (fun o' ho' => by rw [List.getElem?_replicate] at ho'; split at ho' <;> simp at ho') hq
    obtain ⟨⟨h1, h1'⟩, h2⟩ := h.obs k o0 ho
    refine ⟨⟨by rw [htk k q hm]; exact h1, h1'⟩, fun hcap => ?_⟩
    rw [htk k q hm] at hcap ⊢
    obtain ⟨b, off, cv, e, hA⟩ := h2 hcap
    refine ⟨b, off, cv, e, ⟨fun i j hi hj => ?_, fun i hi j d hd => (hA.rel i hi j d hd).mono hk, fun hl x hx hx' => ?_⟩⟩
    · obtain ⟨c1, c2⟩ := hA.cell i j hi hj
      refine ⟨c1, ?_⟩
      unfold Mode at c2 ⊢
      show match o0.fr with | none => _ | some f => _
      split at c2
      · rename_i hf; simp only [hf]; exact hst _ _ c2
      · rename_i f hf
        simp only [hf]
        exact ⟨fun hh => hst _ _ (c2.1 hh), fun hh => ⟨hobj _ _ _ _ hm (c2.2 hh).1, (c2.2 hh).2⟩⟩
    · obtain ⟨d1, d2, d3⟩ := hA.spare hl x hx hx'
      exact ⟨hobj _ _ _ _ hm d1, d2, d3⟩
  · intro b i x hx
    have hx' : (match g.ω b i with | some (.obj k) => (look k mp).map Own.obj | x => x) = some x := hx
    cases hw : g.ω b i with
    | none => rw [hw] at hx'; simp at hx'
    | some y =>
      rw [hw] at hx'
      cases y with
      | st => simp at hx'; subst hx'; exact h.own b i _ hw
      | box k => simp at hx'; subst hx'; exact h.own b i _ hw
      | obj k =>
        refine ⟨(h.own b i _ hw).1, ?_⟩
        rcases (h.own b i _ hw).2 with h1 | h1 | ⟨h1, _⟩
        · exact .inl h1
        · exact .inr (.inl h1)
        · simp at h1
theorem Sim.objNils : ∀ {nm : List (Pos × Nat)} {g : G} {s s' : S U}, s.objNils nm = some s' → Sim P E fr g s a w → ∃ g', Sim P E fr g' s' a w
  | [], g, s, s', hn, h => by simp [S.objNils] at hn; subst hn; exact ⟨g, h⟩
  | (p, q) :: r, g, s, s', hn, h => by
    simp only [S.objNils] at hn
    split at hn
    · rename_i s1 h1
      obtain ⟨g1, hs1⟩ := h.objNil h1
      exact Sim.objNils hn hs1
    · simp at hn
theorem weak_rel {g : G} {ob : List (Option (Ob U))} {v : Value} {c : C U} (h : CRel P E g ob w v c) : CRel P E g ob w v c.weak := by
  cases c with
  | sl τ xs f => exact ⟨h.1, by simp⟩
  | _ => exact h
theorem Sim.weakB : ∀ (l : List Nat) {s : S U}, Sim P E fr g s a w → Sim P E fr g (S.weakB l s) a w
  | [], s, h => h
  | k :: r, s, h => by
    refine Sim.weakB r ?_
    refine { ext := h.ext, tms := h.tms, bxs := ?_, lbs := ?_, obs := h.obs, own := h.own, dfr := h.dfr, fix := h.fix, bas := h.bas }
    · intro q fz cells hq
      have hq' : (s.bx.modify k (Option.map fun x => (x.1, x.2.map C.weak)))[q]? = some (some (fz, cells)) := hq
      rw [List.getElem?_modify] at hq'
      by_cases e : k = q
      · subst e
        cases hb : s.bx[k]? with
        | none => rw [hb] at hq'; simp at hq'
        | some x =>
          cases x with
          | none => rw [hb] at hq'; simp at hq'
          | some x =>
            obtain ⟨f0, c0⟩ := x
            rw [hb] at hq'; simp at hq'; obtain ⟨rfl, rfl⟩ := hq'
            obtain ⟨hl, vs, h1, h2⟩ := h.bxs k f0 c0 hb
            exact ⟨hl, vs, All2.map_right C.weak (fun _ _ hh => weak_rel hh) h1, h2⟩
      · have : s.bx[q]? = some (some (fz, cells)) := by simpa [e] using hq'
        exact h.bxs q fz cells this
    · intro q hl
      obtain ⟨c, hc⟩ := h.lbs q hl
      show ∃ c, (s.bx.modify k _)[q]? = some (some c)
      rw [List.getElem?_modify, hc]
      by_cases e : k = q
      · simp [e]
      · simp [e]
theorem Sim.weakS : ∀ (l : List Nat) {s : S U}, Sim P E fr g s a w → Sim P E fr g (S.weakS l s) a w
  | [], s, h => h
  | d :: r, s, h => by
    refine Sim.weakS r { h with tms := ?_ }
    show All2 _ a.tmps.toList (s.tm.modify d AV.weak)
    refine All2.of_get (by rw [h.tms.length]; simp) fun i v x hv hx => ?_
    rw [List.getElem?_modify] at hx
    cases hi : s.tm[i]? with
    | none => rw [hi] at hx; simp at hx
    | some y =>
      obtain ⟨v', hv', hr⟩ := h.tms.get i hi
      rw [hv] at hv'; simp at hv'; subst hv'
      rw [hi] at hx
      by_cases e : d = i
      · simp [e] at hx; subst hx
        cases y with
        | one z =>
          cases z with
          | c c => exact weak_rel hr
          | _ => exact hr
        | _ => exact hr
      · simp [e] at hx; subst hx; exact hr
theorem Sim.frzB1 (h : Sim P E fr g s a w) {k : Nat} {fz : Bool} {cells : List (C U)} {vs : List (V U)} (hk : s.bx[k]? = some (some (fz, cells))) (hv : s.toVs cells = some vs) :
    ∃ g', Sim P E fr g' { s with bx := s.bx.set k (some (fz, vs.map C.ofV)), ob := sets s.ob (s.frz (Cs.obs cells)) } a w := by
  obtain ⟨g1, hs1, hg1, hf1, hfz⟩ := Sim.frzs (Cs.obs cells) (s0 := s) rfl h (FrzLe.refl _)
  refine ⟨g1, { ext := hs1.ext, tms := hs1.tms, bxs := ?_, lbs := ?_, obs := hs1.obs, own := hs1.own, dfr := hs1.dfr, fix := hs1.fix, bas := hs1.bas }⟩
  · intro q fz' cells' hq
    have hq' : (s.bx.set k (some (fz, vs.map C.ofV)))[q]? = some (some (fz', cells')) := hq
    by_cases e : q = k
    · subst e
      rw [List.getElem?_set_self (List.getElem?_eq_some_iff.1 hk).1] at hq'
      simp at hq'; obtain ⟨rfl, rfl⟩ := hq'
      obtain ⟨hl, us, h1, h2⟩ := hs1.bxs q fz cells hk
      have hvr := hs1.frozenVs (s0 := s) hf1 (fun q' hq' => hfz q' (.inl hq')) hv h1
      exact ⟨hl, us, All2.map_right C.ofV (fun _ _ hh => vrel_c rfl hh) hvr, h2⟩
    · rw [List.getElem?_set_ne (Ne.symm e)] at hq'
      exact hs1.bxs q fz' cells' hq'
  · intro q hl
    obtain ⟨c, hc⟩ := hs1.lbs q hl
    show ∃ c, (s.bx.set k (some (fz, vs.map C.ofV)))[q]? = some (some c)
    by_cases e : q = k
    · subst e; exact ⟨_, List.getElem?_set_self (List.getElem?_eq_some_iff.1 hk).1⟩
    · rw [List.getElem?_set_ne (Ne.symm e)]; exact ⟨c, hc⟩
theorem Sim.frzB : ∀ (l : List Nat) {g : G} {s : S U}, Sim P E fr g s a w → ∃ g', Sim P E fr g' (S.frzB l s) a w
  | [], g, s, h => ⟨g, h⟩
  | k :: r, g, s, h => by
    simp only [S.frzB]
    split
    · rename_i fz cells hk
      split
      · rename_i vs hv
        obtain ⟨g1, h1⟩ := h.frzB1 hk hv
        exact Sim.frzB r h1
      · exact Sim.frzB r h
    · exact Sim.frzB r h
theorem Sim.norm (h : Sim P E fr g s a w) {n : NS} {s' : S U} (hn : s.norm n = some s') : ∃ g', Sim P E fr g' s' a w := by
  unfold S.norm at hn
  obtain ⟨g0, hs0⟩ := h.frzB n.gb
  split at hn
  · rename_i s1 h1
    obtain ⟨g1, hs1⟩ := Sim.objNils h1 hs0
    split at hn
    · rename_i mp hmp
      split at hn
      · rename_i hc
        simp at hn; subst hn
        simp only [Bool.and_eq_true, List.all_eq_true] at hc
        obtain ⟨g2, hs2⟩ := hs1.ren n.ts n.bs hc.1.1 hc.1.2 (fun x hx => by have := hc.2 x hx; simp [Nat.blt] at this; omega)
        exact ⟨g2, (hs2.weakB n.gb).weakS n.gs⟩
      · simp at hn
    · simp at hn
  · simp at hn
end Go.Proofs.YtmpnompddfhkeaaGreat.B
namespace Go.Proofs.YtmpnompddfhkeaaGreat.B
open Go Go.RowKit
variable {U : Uni} {P : Program} {M : Mc U} {fr : Fr}
def Post (P : Program) (M : Mc U) (fr : Fr) (Q : Exit → S U → Prop) (R : Exit → Act → World → Prop) : Prop :=
  ∀ e s g a w, Q e s → Sim P M.E fr g s a w → R e a w
theorem zip_what {ops : Array Oper} {l : List (Oper × Fp)} (hl : l.map (·.1) = ops.toList) : ∀ (i : Nat) (x : Oper × Fp), l[i]? = some x → ops[i]? = some x.1 ∧ (l.map (·.2))[i]? = some x.2 := by
  intro i x hx
  refine ⟨?_, by rw [List.getElem?_map, hx]; rfl⟩
  rw [← Array.getElem?_toList, ← hl, List.getElem?_map, hx]; rfl
theorem left_start {ops : Array Oper} {l : List (Oper × Fp)} (hl : l.map (·.1) = ops.toList) : Left ops (l.map (·.2)) (Array.replicate ops.size false) (l.zipIdx.map fun x => (x.2, x.1)) := by
  have hlen : l.length = ops.size := by rw [← Array.length_toList, ← hl]; simp
  refine ⟨by simp, ?_, ?_, ?_, ?_⟩
  · rw [List.pairwise_map]
    have : (l.zipIdx).Pairwise (fun x y => x.2 < y.2) := by
      rw [List.pairwise_iff_getElem]
      intro i j hi hj hij
      simp; exact hij
    exact this
  · intro x hx
    obtain ⟨y, hy, rfl⟩ := List.mem_map.1 hx
    obtain ⟨i, hi⟩ := List.getElem?_of_mem hy
    rw [List.getElem?_zipIdx] at hi
    cases hli : l[i]? with
    | none => rw [hli] at hi; simp at hi
    | some z =>
      rw [hli] at hi; simp at hi; subst hi
      exact zip_what hl i z hli
  · intro i hi
    have h1 : (Array.replicate ops.size false).getD i true = false := by
      rw [Array.getD_eq_getD_getElem?, Array.getElem?_replicate, if_pos hi]; rfl
    rw [h1]
    simp only [true_iff]
    have hil : i < l.length := by omega
    refine ⟨(i, l[i]), List.mem_map.2 ⟨(l[i], i), ?_, rfl⟩, rfl⟩
    refine List.mem_of_getElem? (i := i) ?_
    rw [List.getElem?_zipIdx, List.getElem?_eq_getElem hil]; simp
  · intro k hk
    rw [Array.getD_eq_getD_getElem?, Array.getElem?_replicate] at hk
    split at hk <;> simp at hk
theorem Sim.drawn {g : G} {s : S U} {a : Act} {w : World} (h : Sim P M.E fr g s a w) : Sim P M.E fr g s a { w with drawn := w.drawn + 1 } :=
  h.later ((Ext.refl w).drew)
theorem reg_sound (hT : TabOK P M) (hF : FnsOK P M) (hm : P.follows .mixedOrders = true) {id : Nat} {ops : Array Oper} {drawn : Bool} {R : Exit → Act → World → Prop} {K : S U → Prop} {g : G} {s : S U} {a : Act} {w : World} (h : Sim P M.E fr g s a w) (hw : awpReg M ops drawn s K)
    (hK : ∀ s' g' a' w', K s' → Sim P M.E fr g' s' a' w' → R .normal a' w') : (Code.region id ops drawn).wp P R a w := by
  unfold awpReg at hw
  obtain ⟨l, s', hl, hr, hk⟩ := run_of_awp _ _ _ _ hw
  cases drawn with
  | false =>
    dsimp only at hk
    refine wp_region ?_
    have hlen : l.length = ops.size := by rw [← Array.length_toList, ← hl]; simp
    rw [List.range_eq_range', ← hlen]
    exact run_sound hT hF (fun g' a' w' h' => hK s' g' a' w' hk h') l 0 (fun j => by rw [hl]; simp) h hr
  | true =>
    dsimp only at hk
    rw [List.append_nil, List.reverse_reverse] at hk
    unfold iff' at hk
    split at hk
    · rename_i hb
      simp only [Bool.and_eq_true] at hb
      refine wp_region_any hm ?_
      have hlen : l.length = ops.size := by rw [← Array.length_toList, ← hl]; simp
      refine any_sound hT hF (fun g' a' w' h' => hK s' g' a' w' hk h') hb.1 (fun i j fi fj hij h1 h2 hc => ?_) ops.size _ (l.zipIdx.map fun x => (x.2, x.1)) (by simp [hlen]) (left_start hl) h.drawn ?_
      · exact apartAll_spec (l.map (·.2)) [] 0 rfl hb.2 i j fi fj hij (Nat.zero_le _) (by simpa using h1) (by simpa using h2) hc
      · have : (l.zipIdx.map fun x => (x.2, x.1)).map (·.2) = l := by
          rw [List.map_map]
          apply List.ext_getElem?
          intro i
          rw [List.getElem?_map, List.getElem?_zipIdx]
          cases l[i]? <;> rfl
        rw [this]; exact hr
    · exact hk.elim
theorem awp_sound (hT : TabOK P M) (hF : FnsOK P M) (hm : P.follows .mixedOrders = true) (N : Nat → NS) : ∀ (c : Code) {Q : Exit → S U → Prop} {R : Exit → Act → World → Prop} {g : G} {s : S U} {a : Act} {w : World}, Post P M fr Q R → Sim P M.E fr g s a w → awp M N c s Q → c.wp P R a w
  | .skip, Q, R, g, s, a, w, hQ, h, hw => wp_skip (hQ _ _ _ _ _ hw h)
  | .region id ops drawn, Q, R, g, s, a, w, hQ, h, hw => reg_sound hT hF hm h hw fun s' g' a' w' hk h' => hQ _ _ _ _ _ hk h'
  | .seq x y, Q, R, g, s, a, w, hQ, h, hw => by
    refine wp_seq ?_
    refine awp_sound hT hF hm N x (Q := thenK (fun s' => awp M N y s' Q) Q) ?_ h hw
    intro e s1 g1 a1 w1 hq h1
    cases e with
    | normal => exact awp_sound hT hF hm N y hQ h1 hq
    | exit id => exact hQ _ _ _ _ _ hq h1
    | goto l => exact hQ _ _ _ _ _ hq h1
    | ret => exact hQ _ _ _ _ _ hq h1
    | panic ch => exact hQ _ _ _ _ _ hq h1
    | outgrown => exact hQ _ _ _ _ _ hq h1
  | .cond c x y, Q, R, g, s, a, w, hQ, h, hw => by
    simp only [awp] at hw
    split at hw
    · rename_i b hc
      have hcv : a.eval c = .bool b := (h.ev hF hc).1
      cases b with
      | true => exact wp_cond_true hcv (awp_sound hT hF hm N x hQ h hw)
      | false => exact wp_cond_false hcv (awp_sound hT hF hm N y hQ h hw)
    · exact hw.elim
  | .block id c, Q, R, g, s, a, w, hQ, h, hw => by
    refine wp_block ?_
    refine awp_sound hT hF hm N c (Q := blockK id Q) ?_ h hw
    intro e s1 g1 a1 w1 hq h1
    cases e with
    | exit id' =>
      simp only [blockK] at hq
      simp only [Exit.inBlock]
      split at hq
      · rename_i e; rw [if_pos e]; exact hQ _ _ _ _ _ hq h1
      · rename_i e; rw [if_neg e]; exact hQ _ _ _ _ _ hq h1
    | normal => exact hQ _ _ _ _ _ hq h1
    | goto l => exact hQ _ _ _ _ _ hq h1
    | ret => exact hQ _ _ _ _ _ hq h1
    | panic ch => exact hQ _ _ _ _ _ hq h1
    | outgrown => exact hQ _ _ _ _ _ hq h1
  | .loop c, Q, R, g, s, a, w, hQ, h, hw => by
    have nrm : ∀ {K : S U → Prop} {g : G} {s : S U} {a : Act} {w : World}, Sim P M.E fr g s a w → normK (N (lid c)) K s → ∃ g' s', Sim P M.E fr g' s' a w ∧ K s' := by
      intro K g s a w h hk
      unfold normK at hk
      split at hk
      · rename_i s1 hn
        obtain ⟨g1, hs1⟩ := h.norm hn
        exact ⟨g1, s1, hs1, hk⟩
      · exact hk.elim
    have hw' : normK (N (lid c)) (itersK (N (lid c)) (awp M N c) Q) s := hw
    obtain ⟨g0, s0, hs0, k, hk⟩ := nrm h hw'
    refine wp_loop_rounds k ?_
    have key : ∀ (k : Nat) {g : G} {s : S U} {a : Act} {w : World}, Sim P M.E fr g s a w → iterK (N (lid c)) (awp M N c) Q k s → Code.rounds P c R k a w := by
      intro k
      induction k with
      | zero => intro g s a w _ hk; exact hk.elim
      | succ k ih =>
        intro g s a w h hk
        simp only [iterK] at hk
        rw [rounds_succ]
        refine awp_sound hT hF hm N c (Q := roundK (N (lid c)) (iterK (N (lid c)) (awp M N c) Q k) Q) ?_ h hk
        intro e s2 g2 a2 w2 hq h2
        cases e with
        | normal => obtain ⟨g3, s3, h3, hq3⟩ := nrm h2 hq; exact ih h3 hq3
        | exit id => obtain ⟨g3, s3, h3, hq3⟩ := nrm h2 hq; exact hQ _ _ _ _ _ hq3 h3
        | goto l => obtain ⟨g3, s3, h3, hq3⟩ := nrm h2 hq; exact hQ _ _ _ _ _ hq3 h3
        | ret => obtain ⟨g3, s3, h3, hq3⟩ := nrm h2 hq; exact hQ _ _ _ _ _ hq3 h3
        | panic ch => obtain ⟨g3, s3, h3, hq3⟩ := nrm h2 hq; exact hQ _ _ _ _ _ hq3 h3
        | outgrown => obtain ⟨g3, s3, h3, hq3⟩ := nrm h2 hq; exact hQ _ _ _ _ _ hq3 h3
    exact key k hs0 hk
  | .exit id, Q, R, g, s, a, w, hQ, h, hw => wp_exit (hQ _ _ _ _ _ hw h)
  | .ret, Q, R, g, s, a, w, hQ, h, hw => wp_ret (hQ _ _ _ _ _ hw h)
  | .scope c, Q, R, g, s, a, w, hQ, h, hw => by simp [awp] at hw
  | .label l, Q, R, g, s, a, w, hQ, h, hw => by simp [awp] at hw
  | .goto l, Q, R, g, s, a, w, hQ, h, hw => by simp [awp] at hw
  | .refuse m, Q, R, g, s, a, w, hQ, h, hw => by simp [awp] at hw
end Go.Proofs.YtmpnompddfhkeaaGreat.B
namespace Go.Proofs.YtmpnompddfhkeaaGreat.B
open Go Go.RowKit
variable {U : Uni} {P : Program} {M : Mc U} {fr : Fr} {w : World} {g : G} {s : S U} {a : Act}
def resF (tmps : Array Value) (r : ResultVar) : Sem Value := match r with
  | .tmp t => pure (tmps.getD t undef)
  | .cell p t => do loadVar t (← asAddr (tmps.getD p undef))
theorem results_eq (fn : Func) (tmps : Array Value) : results fn tmps = (do let vs ← fn.results.mapM (resF tmps); pure (if h : vs.size = 1 then vs[0] else .tuple vs)) := by
  have : (fun (x : ResultVar) => match x with | .tmp t => (pure (tmps.getD t undef) : Sem Value) | .cell a t => do loadVar t (← asAddr (tmps.getD a undef))) = resF tmps := by
    funext r; cases r <;> rfl
  unfold results
  rw [← this]
  rfl
theorem res_sound (hT : TabOK P M) (h : Sim P M.E fr g s a w) {r : ResultVar} {x : A U} (hr : s.res M r = some x) :
    ∃ v, (resF a.tmps r).run P w = .ok v w ∧ ARel P M.E g s.ob w v x := by
  cases r with
  | tmp t =>
    simp only [S.res] at hr
    split at hr
    · rename_i y hy
      simp at hr; subst hr
      exact ⟨a.tmps.getD t undef, by simp [resF], h.slot hy⟩
    · simp at hr
  | cell p t =>
    simp only [S.res] at hr
    split at hr
    · rename_i c hc
      split at hr
      · rename_i agg n hsh
        split at hr
        · rename_i cs hat
          split at hr
          · rename_i y hm
            simp at hr; subst hr
            have hp : CRel P M.E g s.ob w (a.tmps.getD p undef) c := h.slot hc
            obtain ⟨b, off, vs, e1, e2, e3, e4⟩ := h.cellsAt hp hat
            have hshp := (hT.ti t).1 agg n hsh
            have hmk := mkAV_rel hm e4
            cases agg with
            | true =>
              refine ⟨.agg vs.toArray, ?_, hmk.1 rfl⟩
              simp only [resF]
              rw [e1]
              simp only [Sem.run_bind, asAddr, Sem.run_pure, Result.andThen_ok, loadVar, run_isAgg hshp, run_sizeOf hshp, if_true]
              rw [← e2, run_loadCells w b off vs e3]; rfl
            | false =>
              obtain ⟨v, rfl, hv⟩ := hmk.2 rfl
              refine ⟨v, ?_, hv⟩
              have hc0 := e3 0 v rfl
              simp only [Nat.add_zero] at hc0
              simp only [resF]
              rw [e1]
              simp only [Sem.run_bind, asAddr, Sem.run_pure, Result.andThen_ok, loadVar, run_isAgg hshp, Bool.false_eq_true, if_false, run_load, hc0]
          · simp at hr
        · simp at hr
      · simp at hr
    · simp at hr
theorem ress_sound (hT : TabOK P M) (h : Sim P M.E fr g s a w) : ∀ {rs : List ResultVar} {al : List (A U)}, s.ress M rs = some al →
    ∃ vs : List Value, (rs.mapM (resF a.tmps)).run P w = .ok vs w ∧ All2 (ARel P M.E g s.ob w) vs al
  | [], al, hr => by simp [S.ress] at hr; subst hr; exact ⟨[], by simp, trivial⟩
  | r :: rs, al, hr => by
    simp only [S.ress] at hr
    split at hr
    · rename_i x l h1 h2
      simp at hr; subst hr
      obtain ⟨v, hv, hvr⟩ := res_sound hT h h1
      obtain ⟨vs, hvs, hvsr⟩ := ress_sound hT h h2
      refine ⟨v :: vs, ?_, ⟨hvr, hvsr⟩⟩
      simp only [List.mapM_cons, Sem.run_bind, hv, Result.andThen_ok, hvs, Sem.run_pure]
    · simp at hr
theorem results_sound (hT : TabOK P M) (h : Sim P M.E fr g s a w) {fn : Func} {al : List (A U)} (hr : s.ress M fn.results.toList = some al) :
    ∃ v, (results fn a.tmps).run P w = .ok v w ∧ RetRel (ARel P M.E g s.ob w) v al := by
  obtain ⟨vs, hvs, hrel⟩ := ress_sound hT h hr
  have hm : (fn.results.mapM (resF a.tmps)).run P w = .ok vs.toArray w := by
    rw [Array.mapM_eq_mapM_toList, Sem.run_map, hvs]; rfl
  have hlen := hrel.length
  rw [results_eq]
  match al, vs, hrel, hm with
  | [], [], hrel, hm => exact ⟨.tuple #[], by rw [Sem.run_bind, hm]; simp, #[], rfl, trivial⟩
  | [x], [v], hrel, hm => exact ⟨v, by rw [Sem.run_bind, hm]; simp, hrel.1⟩
  | x :: y :: l, v :: u :: r, hrel, hm => exact ⟨.tuple (v :: u :: r).toArray, by rw [Sem.run_bind, hm]; simp, _, rfl, by simpa using hrel⟩
  | [], _ :: _, hrel, _ => exact hrel.elim
  | [_], [], hrel, _ => exact hrel.elim
  | [_], _ :: _ :: _, hrel, _ => exact hrel.2.elim
  | _ :: _ :: _, [], hrel, _ => exact hrel.elim
  | _ :: _ :: _, [_], hrel, _ => exact hrel.2.elim
def placeOf (k : Nat) : List (Option Nat × Ob U) → Nat → Option Nat
  | [], _ => none
  | (some k', _) :: r, j => if k' = k then some j else placeOf k r (j + 1)
  | (none, _) :: r, j => placeOf k r (j + 1)
theorem placeOf_spec {k : Nat} {o : Ob U} : ∀ {es : List (Option Nat × Ob U)} {j i : Nat}, unlike (srcs es) = true → es[i]? = some (some k, o) → placeOf k es j = some (j + i)
  | [], j, i, _, h => by simp at h
  | (some k', o') :: r, j, i, hu, h => by
    obtain ⟨h1, h2⟩ := unlike_cons hu
    simp only [placeOf]
    cases i with
    | zero => simp at h; obtain ⟨rfl, rfl⟩ := h; simp
    | succ i =>
      have hm : k ∈ srcs r := by
        have : ∀ {r : List (Option Nat × Ob U)} {i : Nat}, r[i]? = some (some k, o) → k ∈ srcs r := by
          intro r
          induction r with
          | nil => intro i h; simp at h
          | cons x r ih =>
            intro i h
            obtain ⟨x1, x2⟩ := x
            cases i with
            | zero => simp at h; obtain ⟨rfl, rfl⟩ := h; simp [srcs]
            | succ i => cases x1 <;> simp only [srcs] <;> first | exact ih (by simpa using h) | exact List.mem_cons_of_mem _ (ih (by simpa using h))
        exact this (by simpa using h)
      rw [if_neg (by rintro rfl; exact h1 hm)]
      rw [placeOf_spec h2 (i := i) (by simpa using h)]
      congr 1; omega
  | (none, o') :: r, j, i, hu, h => by
    simp only [placeOf]
    cases i with
    | zero => simp at h
    | succ i =>
      rw [placeOf_spec (by simpa [srcs] using hu) (i := i) (by simpa using h)]
      congr 1; omega
def addrOf : Value → Option Addr
  | .slice a _ _ => a
  | _ => none
def outAddr (s : S U) : List Kind → Nat → List (A U) → List Value → List (Option Addr)
  | ks, j, x :: al, v :: vs => match s.outA (ks.headD .d) j x with
    | some (_, e) => e.map (fun _ => addrOf v) ++ outAddr s ks.tail (j + e.length) al vs
    | none => []
  | _, _, _, _ => []
theorem out_len : ∀ {al rs : List (A U)} {vs : List Value} {es : List (Option Nat × Ob U)} {ks : List Kind} {j : Nat}, s.outs ks j al = some (rs, es) → vs.length = al.length → (outAddr s ks j al vs).length = es.length
  | [], rs, vs, es, ks, j, h, hl => by simp [S.outs] at h; obtain ⟨rfl, rfl⟩ := h; cases vs <;> rfl
  | x :: al, rs, [], es, ks, j, h, hl => by simp at hl
  | x :: al, rs, v :: vs, es, ks, j, h, hl => by
    simp only [S.outs] at h
    split at h
    · rename_i r e h1
      split at h
      · rename_i rs' es' h2
        simp at h; obtain ⟨rfl, rfl⟩ := h
        simp only [outAddr, h1, List.length_append, List.length_map, out_len h2 (show vs.length = al.length by simpa using hl)]
      · simp at h
    · simp at h
theorem outD_rel {E : Enc U} {s1 : S U} {gr : G} {ob : List (Option (Ob U))} (hs1 : Sim P E fr g s1 a w) (hf : FrzLe s.ob s1.ob) (hk : Keeps g.St w gr.St w) {v : Value} {c c' : C U} (hfz : ∀ k ∈ c.obs, ∀ o, s1.ob[k]? = some (some o) → o.fr = none)
    (hd : s.outD c = some c') (hc : CRel P E g s1.ob w v c) : CRel P E gr ob w v c' := by
  have hone := hc.one
  cases c with
  | s x => simp [S.outD] at hd; subst hd; exact hc
  | fv φ => simp [S.outD] at hd; subst hd; exact FunRel.mono hk hc
  | sl τ xs f => simp [S.outD, S.lst] at hd; subst hd; exact ⟨hc.1.mono hk, by simp⟩
  | ob k ver =>
    simp only [S.outD, S.lst] at hd
    cases ho : s.obAt k ver with
    | none => rw [ho] at hd; simp at hd; subst hd; exact hone
    | some o =>
      rw [ho] at hd; simp at hd; subst hd
      have := hs1.frozenV (s0 := s) hf hfz (d := .dat o.τ o.xs) (by simp only [S.toV, ho]) hc
      exact ⟨this.mono hk, by simp⟩
  | _ => simp [S.outD, S.lst] at hd; subst hd; exact hone
theorem outDs_rel {E : Enc U} {s1 : S U} {gr : G} {ob : List (Option (Ob U))} (hs1 : Sim P E fr g s1 a w) (hf : FrzLe s.ob s1.ob) (hk : Keeps g.St w gr.St w) : ∀ {vs : List Value} {cs cs' : List (C U)}, (∀ k ∈ Cs.obs cs, ∀ o, s1.ob[k]? = some (some o) → o.fr = none) →
    s.outDs cs = some cs' → All2 (CRel P E g s1.ob w) vs cs → All2 (CRel P E gr ob w) vs cs'
  | [], [], cs', _, hd, _ => by simp [S.outDs] at hd; subst hd; trivial
  | v :: vs, c :: cs, cs', hfz, hd, hc => by
    simp only [S.outDs] at hd
    split at hd
    · rename_i x xs h1 h2
      simp at hd; subst hd
      exact ⟨outD_rel hs1 hf hk (fun k hm => hfz k (by simp [Cs.obs, hm])) h1 hc.1, outDs_rel hs1 hf hk (fun k hm => hfz k (by simp [Cs.obs, hm])) h2 hc.2⟩
    · simp at hd
theorem out_core (h : Sim P M.E fr g s a w) (nb : Nat) {fm : List Kind} {vs : List Value} {al rs : List (A U)} {os : List (Ob U)} (hall : All2 (ARel P M.E g s.ob w) vs al) (hout : s.out fm al = some (rs, os)) :
    rs.length = al.length ∧ ∃ gr : G, (∀ k, gr.lb k ↔ k < nb ∧ g.lb k) ∧ (∀ k, g.lb k → gr.β k = g.β k) ∧ Keeps g.St w gr.St w ∧ (∀ b i x, gr.ω b i = some x → b < w.heap.size ∧ (fr.w0.heap.size ≤ b ∨ fr.own b i ∨ (x = .st ∧ fr.st b i))) ∧
      (∀ k fz cells i, k < nb → s.bx[k]? = some (some (fz, cells)) → i < cells.length → (fz = false → gr.ω (g.β k) i = some (.box k)) ∧ (fz = true → gr.St (g.β k) i)) ∧
      (∀ b i k, gr.ω b i = some (.box k) → k < nb) ∧
      All2 (ARel P M.E gr (os.map some) w) vs rs ∧ ∀ k o, os[k]? = some o → ObRel M.E gr w k o ∧ o.ver = 0 := by
  unfold S.out at hout
  split at hout
  · rename_i rs' es houts
    split at hout
    · rename_i hchk
      simp at hout; obtain ⟨rfl, rfl⟩ := hout
      simp only [Bool.and_eq_true, Bool.not_eq_true'] at hchk
      obtain ⟨hul, hmt⟩ := hchk
      obtain ⟨g1, hs1, hg1, hf1, hfz⟩ := Sim.frzs (outKeys fm al) (s0 := s) rfl h (FrzLe.refl _)
      generalize hsob : sets s.ob (s.frz (outKeys fm al)) = ob1 at hs1 hg1 hf1 hfz
      have hvl := hall.length
      have hlr : rs'.length = al.length := by
        have : ∀ {al rs : List (A U)} {es : List (Option Nat × Ob U)} {ks : List Kind} {j : Nat}, s.outs ks j al = some (rs, es) → rs.length = al.length := by
          intro al
          induction al with
          | nil => intro rs es ks j h; simp [S.outs] at h; rw [h.1]
          | cons x al ih =>
            intro rs es ks j h
            simp only [S.outs] at h
            split at h
            · split at h
              · rename_i h2; simp at h; rw [← h.1]; simp [ih h2]
              · simp at h
            · simp at h
        exact this houts
      generalize had : outAddr s fm 0 al vs = ad
      have hadl : ad.length = es.length := by rw [← had]; exact out_len houts hvl
      let gr : G := { β := g1.β, lb := fun k => k < nb ∧ g1.lb k,
                      ω := fun b i => match g1.ω b i with | some .st => some .st | some (.obj k) => (placeOf k es 0).map Own.obj | some (.box k) => if k < nb then some (.box k) else none | none => none,
                      tk := fun j => match es[j]? with | some (some k, _) => g1.tk k | _ => (ad.getD j none, 0) }
      have hst : ∀ b i, g1.St b i → gr.St b i := fun b i hh => by show (match g1.ω b i with | some .st => some Own.st | some (.obj k) => _ | some (.box k) => _ | none => none) = _; rw [show g1.ω b i = some .st from hh]
      have hkeep : Keeps g1.St w gr.St w := fun b i hh => ⟨hst b i hh, rfl⟩
      have hobj : ∀ b i k j o, es[j]? = some (some k, o) → g1.ω b i = some (.obj k) → gr.ω b i = some (.obj j) := fun b i k j o he hh => by
        show (match g1.ω b i with | some .st => some Own.st | some (.obj k) => _ | some (.box k) => _ | none => none) = _
        rw [hh]; simp only [placeOf_spec (j := 0) hul he, Nat.zero_add]; rfl
      have htk : ∀ j k o, es[j]? = some (some k, o) → gr.tk j = g1.tk k := fun j k o he => by show (match es[j]? with | some (some k, _) => _ | _ => _) = _; rw [he]
      have htn : ∀ j o, es[j]? = some (none, o) → gr.tk j = (ad.getD j none, 0) := fun j o he => by show (match es[j]? with | some (some k, _) => _ | _ => _) = _; rw [he]
      have hgetos : ∀ j x o, es[j]? = some (x, o) → ((es.map (·.2)).map some)[j]? = some (some o) := fun j x o he => by rw [List.getElem?_map, List.getElem?_map, he]; rfl
      have hall1 : All2 (ARel P M.E g1 ob1 w) vs al := hall.imp fun _ _ => ARel.mono hg1
      have key : ∀ (al' : List (A U)) (vs' : List Value) (rs1 : List (A U)) (es' : List (Option Nat × Ob U)) (ks : List Kind) (j : Nat) (pre : List (Option Nat × Ob U)) (apre : List (Option Addr)),
          s.outs ks j al' = some (rs1, es') → All2 (ARel P M.E g1 ob1 w) vs' al' → es = pre ++ es' → j = pre.length → ad = apre ++ outAddr s ks j al' vs' → apre.length = pre.length →
          (∀ q ∈ outKeys ks al', q ∈ outKeys fm al) → (∀ q ∈ outOwn ks al', q ∉ outKeys fm al) →
          All2 (ARel P M.E gr ((es.map (·.2)).map some) w) vs' rs1 ∧ ∀ (i : Nat) x o, es'[i]? = some (x, o) → ObRel M.E gr w (j + i) o ∧ o.ver = 0 := by
        intro al'
        induction al' with
        | nil =>
          intro vs' rs1 es' ks j pre apre ho hvs _ _ _ _ _ _
          simp [S.outs] at ho; obtain ⟨rfl, rfl⟩ := ho
          refine ⟨?_, fun i x o hi => by simp at hi⟩
          cases vs' with
          | nil => trivial
          | cons _ _ => exact hvs.elim
        | cons x al' ih =>
          intro vs' rs1 es' ks j pre apre ho hvs hes hj hadd hapl hkin hown'
          cases vs' with
          | nil => exact hvs.elim
          | cons u vs' =>
            simp only [S.outs] at ho
            split at ho
            · rename_i r e h1
              split at ho
              · rename_i rs2 es2 h2
                simp at ho; obtain ⟨rfl, rfl⟩ := ho
                simp only [outAddr, h1] at hadd
                obtain ⟨i1, i2⟩ := ih vs' rs2 es2 ks.tail (j + e.length) (pre ++ e) (apre ++ e.map (fun _ => addrOf u)) h2 hvs.2 (by rw [hes]; simp) (by simp [hj]) (by rw [hadd]; simp) (by simp [hapl])
                  (fun q hq => hkin q (by simp only [outKeys, List.mem_append]; exact .inr hq)) (fun q hq => hown' q (by simp only [outOwn, List.mem_append]; exact .inr hq))
                have hfzk : ∀ q ∈ outKeys fm al, ∀ o, ob1[q]? = some (some o) → o.fr = none := fun q hq => hfz q (.inl hq)
                have hone : ARel P M.E gr ((es.map (·.2)).map some) w u r ∧ ∀ (i : Nat) x o, e[i]? = some (x, o) → ObRel M.E gr w (j + i) o ∧ o.ver = 0 := by
                  have hu := hvs.1
                  have hese : ∀ (i : Nat), i < e.length → es[j + i]? = e[i]? := fun i hi => by
                    rw [hes, hj, List.getElem?_append_right (Nat.le_add_right _ _), show pre.length + i - pre.length = i from by omega, List.getElem?_append_left hi]
                  have hade : ∀ (i : Nat), i < e.length → ad.getD (j + i) none = addrOf u := fun i hi => by
                    rw [hadd, hj, List.getD_eq_getElem?_getD, List.getElem?_append_right (by omega), show pre.length + i - apre.length = i from by omega, List.getElem?_append_left (by simpa using hi), List.getElem?_map, List.getElem?_eq_getElem hi]; rfl
                  have nilcase : ∀ (τ : U.Ty) (fr0 : Option Nat), (fr0 = none ∨ fr0 = some 0) → x = .c (.sl τ [] true) → r = .c (.ob j 0) → e = [(none, ⟨0, τ, [], fr0, true⟩)] → ARel P M.E gr ((es.map (·.2)).map some) w u r ∧ ∀ (i : Nat) x o, e[i]? = some (x, o) → ObRel M.E gr w (j + i) o ∧ o.ver = 0 := by
                    rintro τ fr0 hfr0 rfl rfl rfl
                    have he0 := hese 0 (by simp)
                    simp only [Nat.add_zero, List.getElem?_cons_zero] at he0
                    obtain ⟨hV, hfull⟩ : CRel P M.E g1 ob1 w u (.sl τ [] true) := hu
                    obtain ⟨p0, n, rfl⟩ := hfull rfl
                    have hn0 : n = 0 := by rcases hV.inv with ⟨_, _, _, e⟩ | ⟨_, _, _, _, e, _⟩ <;> (simp at e; first | exact e.2.1 | exact e.2.1)
                    subst hn0
                    have ht := htn j _ he0
                    have had0 := hade 0 (by simp)
                    rw [Nat.add_zero] at had0
                    rw [had0] at ht
                    refine ⟨⟨rfl, _, hgetos j _ _ he0, Nat.le_refl _, fun _ => by rw [ht]; rfl⟩, fun i x o hi => ?_⟩
                    cases i with
                    | zero =>
                      simp at hi; obtain ⟨rfl, rfl⟩ := hi
                      refine ⟨⟨⟨⟨Nat.zero_le _, Nat.zero_le _⟩, fun f hf => by rcases hfr0 with rfl | rfl <;> simp at hf; subst hf; exact Nat.le_refl _⟩, fun hc => ?_⟩, rfl⟩
                      rw [Nat.add_zero, ht] at hc; simp at hc
                    | succ i => simp at hi
                  have obcase : ∀ (k ver : Nat) (o : Ob U) (fr0 : Option Nat), x = .c (.ob k ver) → s.obAt k ver = some o → o.live = true → r = .c (.ob j 0) → e = [(some k, ⟨0, o.τ, o.xs, fr0, true⟩)] → (∃ o', ob1[k]? = some (some o') ∧ o'.fr = fr0 ∧ (o' = o ∨ o' = ({ o with fr := none } : Ob U))) →
                      ARel P M.E gr ((es.map (·.2)).map some) w u r ∧ ∀ (i : Nat) x o, e[i]? = some (x, o) → ObRel M.E gr w (j + i) o ∧ o.ver = 0 := by
                    rintro k ver o fr0 rfl ho hlive rfl rfl ⟨o', ho', hfr', hor⟩
                    have he0 := hese 0 (by simp)
                    simp only [Nat.add_zero, List.getElem?_cons_zero] at he0
                    obtain ⟨j1, j2⟩ := obAt_eq ho
                    obtain ⟨c1, o2, c2, c3, c4⟩ : CRel P M.E g1 ob1 w u (.ob k ver) := hu
                    rw [ho'] at c2; simp at c2; subst c2
                    have hxs : o'.ver = o.ver ∧ o'.τ = o.τ ∧ o'.live = true := by rcases hor with rfl | rfl <;> exact ⟨rfl, rfl, hlive⟩
                    have ht := htk j k _ he0
                    have hoR : ObRel M.E g1 w k o' := hs1.obs k o' ho'
                    have hval := c4 (by omega)
                    have hnew : ObRel M.E gr w j (⟨0, o.τ, o.xs, fr0, true⟩ : Ob U) := by
                      have hh : ObRel M.E gr w j (⟨0, o'.τ, o'.xs, o'.fr, o'.live⟩ : Ob U) := by
                        obtain ⟨⟨q1, q2⟩, q3⟩ := hoR
                        refine ⟨⟨by rw [ht]; exact q1, q2⟩, fun hcap => ?_⟩
                        rw [ht] at hcap ⊢
                        obtain ⟨b, off, cv, eb, hA⟩ := q3 hcap
                        refine ⟨b, off, cv, eb, ⟨fun i1 j1 hi hj1 => ?_, fun i1 hi j1 d hd => (hA.rel i1 hi j1 d hd).mono hkeep, fun hl x hx hx' => ?_⟩⟩
                        · obtain ⟨d1, d2⟩ := hA.cell i1 j1 hi hj1
                          refine ⟨d1, ?_⟩
                          unfold Mode at d2 ⊢
                          show match o'.fr with | none => _ | some f => _
                          split at d2
                          · rename_i hf; simp only [hf]; exact hst _ _ d2
                          · rename_i f hf
                            simp only [hf]
                            exact ⟨fun hh => hst _ _ (d2.1 hh), fun hh => ⟨hobj _ _ _ _ _ he0 (d2.2 hh).1, (d2.2 hh).2⟩⟩
                        · obtain ⟨d1, d2, d3⟩ := hA.spare hl x hx hx'
                          exact ⟨hobj _ _ _ _ _ he0 d1, d2, d3⟩
                      rw [hfr'] at hh
                      rcases hor with rfl | rfl
                      · rw [hlive] at hh; exact hh
                      · have hl2 : ({ o with fr := none } : Ob U).live = true := hlive
                        rw [hl2] at hh; exact hh
                    refine ⟨⟨c1, _, hgetos j _ _ he0, Nat.le_refl _, fun _ => ?_⟩, fun i x o1 hi => ?_⟩
                    · rw [ht, hval]
                      rcases hor with rfl | rfl <;> rfl
                    · cases i with
                      | zero => simp at hi; obtain ⟨rfl, rfl⟩ := hi; exact ⟨hnew, rfl⟩
                      | succ i => simp at hi
                  have hkk : ∀ k ver, x = .c (.ob k ver) → ks.headD .d ≠ .m → k ∈ outKeys fm al := fun k ver hx hm => hkin k (by
                    subst hx
                    simp only [outKeys, List.mem_append]; left
                    cases hh : ks.headD .d with
                    | m => exact (hm hh).elim
                    | d => simp [A.obs, C.obs]
                    | o => simp [A.obs, C.obs])
                  unfold S.outA at h1
                  split at h1
                  · rename_i c hkind
                    split at h1
                    · rename_i y hy
                      simp at h1; obtain ⟨rfl, rfl⟩ := h1
                      refine ⟨outD_rel hs1 hf1 hkeep (fun k hm => hfzk k (hkin k ?_)) hy hu, fun i x o hi => by simp at hi⟩
                      simp only [outKeys, hkind, List.mem_append]; exact .inl hm
                    · simp at h1
                  · rename_i cs hkind
                    split at h1
                    · rename_i ys hy
                      simp at h1; obtain ⟨rfl, rfl⟩ := h1
                      obtain ⟨arr, ea, hu2⟩ := hu
                      refine ⟨⟨arr, ea, outDs_rel hs1 hf1 hkeep (fun k hm => hfzk k (hkin k ?_)) hy hu2⟩, fun i x o hi => by simp at hi⟩
                      simp only [outKeys, hkind, List.mem_append]; exact .inl hm
                    · simp at h1
                  · rename_i τ hkind
                    simp at h1; obtain ⟨rfl, rfl⟩ := h1
                    exact nilcase τ none (.inl rfl) rfl rfl rfl
                  · rename_i k ver hkind
                    split at h1
                    · rename_i o ho
                      split at h1
                      · rename_i hlive
                        simp at h1; obtain ⟨rfl, rfl⟩ := h1
                        have hin := hkk k ver rfl (by rw [hkind]; simp)
                        obtain ⟨o', ho', hor⟩ := (hf1 k).1 o (obAt_eq ho).1
                        exact obcase k ver o none rfl ho hlive rfl rfl ⟨o', ho', hfzk k hin o' ho', hor⟩
                      · simp at h1
                    · simp at h1
                  · rename_i τ hkind
                    simp at h1; obtain ⟨rfl, rfl⟩ := h1
                    exact nilcase τ (some 0) (.inr rfl) rfl rfl rfl
                  · rename_i k ver hkind
                    split at h1
                    · rename_i o ho
                      split at h1
                      · rename_i hlive hfr
                        simp at h1; obtain ⟨rfl, rfl⟩ := h1
                        have hnk : k ∉ outKeys fm al := hown' k (by simp only [outOwn, hkind, List.mem_append]; left; simp [A.obs, C.obs])
                        refine obcase k ver o (some 0) rfl ho hlive rfl rfl ⟨o, ?_, hfr, .inl rfl⟩
                        rw [← hsob, frz_get_ne hnk]; exact (obAt_eq ho).1
                      · simp at h1
                    · simp at h1
                  · simp at h1
                refine ⟨⟨hone.1, i1⟩, fun i y o hi => ?_⟩
                rcases Nat.lt_or_ge i e.length with hlt | hge
                · rw [List.getElem?_append_left hlt] at hi; exact hone.2 i y o hi
                · rw [List.getElem?_append_right hge] at hi
                  have := i2 (i - e.length) y o hi
                  rw [show j + e.length + (i - e.length) = j + i from by omega] at this
                  exact this
              · simp at ho
            · simp at ho
      obtain ⟨k1, k2⟩ := key al vs rs' es fm 0 [] [] houts hall1 rfl rfl (by rw [had]; rfl) rfl (fun q hq => hq) (fun q hq => meets_false hmt q hq)
      refine ⟨hlr, gr, fun k => ⟨fun hh => ⟨hh.1, ?_⟩, fun hh => ⟨hh.1, (hg1.lb k hh.2).1⟩⟩, fun k hl => (hg1.lb k hl).2, fun b i hh => ⟨hst b i (hg1.st b i hh).1, rfl⟩, fun b o x hx => ?_, fun k fz cells i hk hbx hi => ?_, fun b o k hx => ?_, k1, fun k o hk => ?_⟩
      · obtain ⟨c, hc⟩ := hs1.lbs k hh.2
        exact (h.bxs k c.1 c.2 hc).1
      · have hx' : (match g1.ω b o with | some .st => some Own.st | some (.obj k) => (placeOf k es 0).map Own.obj | some (.box k) => if k < nb then some (.box k) else none | none => none) = some x := hx
        cases hw : g1.ω b o with
        | none => rw [hw] at hx'; simp at hx'
        | some y =>
          refine ⟨(hs1.own b o y hw).1, ?_⟩
          rcases (hs1.own b o y hw).2 with h1 | h1 | ⟨h1, h2⟩
          · exact .inl h1
          · exact .inr (.inl h1)
          · subst h1
            rw [hw] at hx'; simp at hx'; subst hx'
            exact .inr (.inr ⟨rfl, h2⟩)
      · obtain ⟨hl, vs', hvs', hcell⟩ := hs1.bxs k fz cells hbx
        have hgl := (h.bxs k fz cells hbx).1
        have hil : i < vs'.length := by rw [hvs'.length]; exact hi
        obtain ⟨c1, c2, c3⟩ := hcell i _ (List.getElem?_eq_getElem hil)
        rw [(hg1.lb k hgl).2] at c2 c3
        refine ⟨fun hf => ?_, fun hf => hst _ _ (c3 hf)⟩
        show (match g1.ω (g.β k) i with | some .st => some Own.st | some (.obj k) => (placeOf k es 0).map Own.obj | some (.box k) => if k < nb then some (.box k) else none | none => none) = _
        rw [(c2 hf).2]; simp [hk]
      · have hx' : (match g1.ω b o with | some .st => some Own.st | some (.obj k) => (placeOf k es 0).map Own.obj | some (.box k) => if k < nb then some (.box k) else none | none => none) = some (.box k) := hx
        cases hw : g1.ω b o with
        | none => rw [hw] at hx'; simp at hx'
        | some y =>
          rw [hw] at hx'
          cases y with
          | st => simp at hx'
          | obj q => dsimp only at hx'; cases hp : placeOf q es 0 <;> rw [hp] at hx' <;> simp at hx'
          | box q =>
            dsimp only at hx'
            split at hx'
            · simp at hx'; subst hx'; assumption
            · simp at hx'
      · rw [List.getElem?_map] at hk
        cases he : es[k]? with
        | none => rw [he] at hk; simp at hk
        | some y =>
          obtain ⟨y1, y2⟩ := y
          rw [he] at hk; simp at hk; subst hk
          have := k2 k y1 y2 he
          rw [Nat.zero_add] at this
          exact this
    · simp at hout
  · simp at hout
theorem ret_all {R : Value → A U → Prop} {v : Value} {al : List (A U)} (hv : RetRel R v al) : ∃ vs : List Value, All2 R vs al ∧ ∀ {R' : Value → A U → Prop} {ys : List (A U)}, ys.length = al.length → All2 R' vs ys → RetRel R' v ys := by
  match al, hv with
  | [], hv =>
    obtain ⟨arr, e, h2⟩ := hv
    refine ⟨arr.toList, h2, fun {R ys} hl h3 => ?_⟩
    have : ys = [] := List.eq_nil_of_length_eq_zero (by simpa using hl)
    subst this; exact ⟨arr, e, h3⟩
  | [x], hv =>
    refine ⟨[v], ⟨hv, trivial⟩, fun {R ys} hl h3 => ?_⟩
    match ys, hl, h3 with
    | [y], _, h3 => exact h3.1
  | x :: y :: l, hv =>
    obtain ⟨arr, e, h2⟩ := hv
    refine ⟨arr.toList, h2, fun {R ys} hl h3 => ?_⟩
    match ys, hl with
    | y1 :: y2 :: r, _ => exact ⟨arr, e, h3⟩
theorem out_sound (h : Sim P M.E fr g s a w) (hown : ∀ b o, ¬ fr.own b o) {fm : List Kind} {v : Value} {al rs : List (A U)} {os : List (Ob U)} (hv : RetRel (ARel P M.E g s.ob w) v al) (hout : s.out fm al = some (rs, os)) : Ret P M.E fr.st fr.w0 w v rs os := by
  obtain ⟨vs, hall, hback⟩ := ret_all hv
  obtain ⟨hlr, gr, h1, h2, h3, h4, h5, h6, h7, h8⟩ := out_core h 0 hall hout
  have hext : Ext fr.w0 w := ⟨h.ext.os, h.ext.tape, h.ext.output, h.ext.size, fun i hi => h.ext.block i hi (hown i)⟩
  refine ⟨hext, gr, fun k hk => by have := (h1 k).1 hk; omega, fun b o x hb hx => ?_, fun b o x hx => (h4 b o x hx).1, hback hlr h7, h8⟩
  rcases (h4 b o x hx).2 with hh | hh | hh
  · omega
  · exact (hown b o hh).elim
  · exact hh
end Go.Proofs.YtmpnompddfhkeaaGreat.B
namespace Go.Proofs.YtmpnompddfhkeaaGreat.B
open Go Go.RowKit
variable {U : Uni} {P : Program} {M : Mc U}
def blks : List Value → List (D U) → List Nat
  | v :: vs, .box _ :: r => (match v with | .pointer (some a) => a.block | _ => 0) :: blks vs r
  | _ :: vs, _ :: r => blks vs r
  | _, _ => []
theorem dc_rel {E : Enc U} {g : G} {ob : List (Option (Ob U))} {w : World} {St : Nat → Nat → Prop} (hk : Keeps St w g.St w) {v : Value} {d : DC U} (h : DCRel P E St w v d) : CRel P E g ob w v d.toC := by
  cases d with
  | v x => exact vrel_c rfl (VRel.mono h hk)
  | fn φ => exact FunRel.mono hk h
theorem args_rel {E : Enc U} {g : G} {ob : List (Option (Ob U))} {w : World} {St : Nat → Nat → Prop} (hk : Keeps St w g.St w) :
    ∀ {vs : List Value} {args : List (D U)} {k : Nat}, All2 (DRel P E St w) vs args → (∀ i b, (blks vs args)[i]? = some b → g.lb (k + i) ∧ g.β (k + i) = b) → All2 (AVRel P E g ob w) vs (argAs k args)
  | [], [], k, _, _ => trivial
  | v :: vs, d :: r, k, h, hb => by
    cases d with
    | d x => exact ⟨d0_rel rfl (D0Rel.mono hk h.1), args_rel hk h.2 (fun i b hi => hb i b hi)⟩
    | fn φ => exact ⟨FunRel.mono hk h.1, args_rel hk h.2 (fun i b hi => hb i b hi)⟩
    | box cs =>
      obtain ⟨b, e, _⟩ := h.1
      have h0 := hb 0 b (by simp [blks, e])
      rw [Nat.add_zero] at h0
      refine ⟨⟨h0.1, by rw [h0.2]; exact e⟩, args_rel hk (k := k + 1) h.2 (fun i b hi => ?_)⟩
      have := hb (i + 1) b (by simpa [blks] using hi)
      rw [show k + 1 + i = k + (i + 1) from by omega]; exact this
theorem boxes_rel {E : Enc U} {w : World} {St : Nat → Nat → Prop} : ∀ {vs : List Value} {args : List (D U)}, All2 (DRel P E St w) vs args → (blks vs args).length = (argBx args).length ∧ ∀ (i : Nat) fz cells, (argBx args)[i]? = some (some (fz, cells)) → ∃ (b : Nat) (cs : List (DC U)), fz = true ∧ cells = cs.map DC.toC ∧ (blks vs args)[i]? = some b ∧
      ∀ (j : Nat) c, cs[j]? = some c → St b j ∧ ∃ u, w.cell? ⟨b, j, none⟩ = some u ∧ DCRel P E St w u c
  | [], [], _ => ⟨rfl, fun i fz cells h => by simp [argBx] at h⟩
  | v :: vs, d :: r, h => by
    obtain ⟨ih1, ih2⟩ := boxes_rel h.2
    cases d with
    | d x => exact ⟨ih1, ih2⟩
    | fn φ => exact ⟨ih1, ih2⟩
    | box cs =>
      obtain ⟨b, e, hb⟩ := h.1
      refine ⟨by simp [blks, argBx, ih1], fun i fz cells hi => ?_⟩
      cases i with
      | zero =>
        simp [argBx] at hi; obtain ⟨rfl, rfl⟩ := hi
        exact ⟨b, cs, rfl, rfl, by simp [blks, e], hb⟩
      | succ i => exact ih2 i fz cells (by simpa [argBx] using hi)
open Classical in
theorem entry_sim {E : Enc U} {n x : Nat} {w : World} {St : Nat → Nat → Prop} {vs : List Value} {args : List (D U)} (hbd : ∀ b o, St b o → b < w.heap.size) (hvs : All2 (DRel P E St w) vs args) :
    ∃ g, Sim P E ⟨w, fun _ _ => False, St, 0, fun _ => 0⟩ g (entry n x args) { tmps := vs.toArray ++ Array.replicate (n - vs.toArray.size) undef, defers := [] } w := by
  obtain ⟨hbl, hbx⟩ := boxes_rel hvs
  let g : G := { β := fun k => (blks vs args).getD k 0, lb := fun k => k < (blks vs args).length, ω := fun b o => if St b o then some .st else none, tk := fun _ => (none, 0) }
  have hst : ∀ b o, St b o ↔ g.St b o := fun b o => by
    show St b o ↔ (if St b o then some Own.st else none) = some .st
    by_cases h : St b o <;> simp [h]
  have hk : Keeps St w g.St w := fun b o h => ⟨(hst b o).1 h, rfl⟩
  have hβ : ∀ i b, (blks vs args)[i]? = some b → g.lb (0 + i) ∧ g.β (0 + i) = b := fun i b hi => by
    rw [Nat.zero_add]
    exact ⟨(List.getElem?_eq_some_iff.1 hi).1, by show (blks vs args).getD i 0 = b; rw [List.getD_eq_getElem?_getD, hi]; rfl⟩
  have hlen := hvs.length
  have hal : (argAs 0 args).length = args.length := by
    have : ∀ (k : Nat) (l : List (D U)), (argAs k l).length = l.length := by
      intro k l
      induction l generalizing k with
      | nil => rfl
      | cons d r ih => simp [argAs, ih]
    exact this 0 args
  refine ⟨g, { ext := ⟨rfl, rfl, rfl, Nat.le_refl _, fun _ _ _ => rfl, fun _ _ _ _ => rfl, fun _ _ _ _ => rfl⟩, tms := ?_, bxs := ?_, lbs := ?_, obs := ?_, own := ?_, dfr := rfl, fix := fun _ hk => absurd hk (Nat.not_lt_zero _), bas := Nat.zero_le _ }⟩
  · show All2 _ (vs.toArray ++ Array.replicate (n - vs.toArray.size) undef).toList (argAs 0 args ++ List.replicate (n - args.length) (.one .top))
    have e : (vs.toArray ++ Array.replicate (n - vs.toArray.size) undef).toList = vs ++ List.replicate (n - vs.length) undef := by simp
    rw [e, hlen]
    refine All2.append (args_rel hk hvs hβ) ?_
    generalize n - args.length = m
    induction m with
    | zero => trivial
    | succ m ih => exact ⟨trivial, ih⟩
  · intro k fz cells hkk
    have hkk' : (argBx args ++ List.replicate n (none : Option (Bool × List (C U))))[k]? = some (some (fz, cells)) := hkk
    rcases Nat.lt_or_ge k (argBx args).length with hlt | hge
    · rw [List.getElem?_append_left hlt] at hkk'
      obtain ⟨b, cs, rfl, rfl, hb, hc⟩ := hbx k fz cells hkk'
      obtain ⟨hl, hβk⟩ := hβ k b hb
      rw [Nat.zero_add] at hl hβk
      refine ⟨hl, (List.range cs.length).map (fun i => (w.cell? ⟨b, i, none⟩).getD undef), ?_, fun i v hv => ?_⟩
      · refine All2.of_get (by simp) fun i v c hv hcc => ?_
        obtain ⟨hi, rfl⟩ := get_map_range hv
        rw [List.getElem?_map] at hcc
        cases hci : cs[i]? with
        | none => rw [hci] at hcc; simp at hcc
        | some c0 =>
          rw [hci] at hcc; simp at hcc; subst hcc
          obtain ⟨_, u, hu, hur⟩ := hc i c0 hci
          rw [hu]; exact dc_rel hk hur
      · obtain ⟨hi, rfl⟩ := get_map_range hv
        obtain ⟨h1, u, hu, _⟩ := hc i _ (List.getElem?_eq_getElem hi)
        rw [hβk, hu]
        exact ⟨rfl, by simp, fun _ => (hst b i).1 h1⟩
    · rw [List.getElem?_append_right hge, List.getElem?_replicate] at hkk'
      split at hkk' <;> simp at hkk'
  · intro k hl
    have hl' : k < (argBx args).length := by rw [← hbl]; exact hl
    have : ∀ (l : List (D U)) (k : Nat), k < (argBx l).length → ∃ c, (argBx l)[k]? = some (some c) := by
      intro l
      induction l with
      | nil => intro k h; simp [argBx] at h
      | cons d r ih =>
        intro k h
        cases d with
        | d x => exact ih k h
        | fn φ => exact ih k h
        | box cs =>
          cases k with
          | zero => exact ⟨_, rfl⟩
          | succ k => obtain ⟨c, hc⟩ := ih k (by simpa [argBx] using h); exact ⟨c, by simpa [argBx] using hc⟩
    obtain ⟨c, hc⟩ := this args k hl'
    exact ⟨c, by show (argBx args ++ _)[k]? = _; rw [List.getElem?_append_left hl']; exact hc⟩
  · intro k o hko
    have hko' : (List.replicate (4 * ((argBx args).length + n) + x) (none : Option (Ob U)))[k]? = some (some o) := hko
    rw [List.getElem?_replicate] at hko'
    split at hko' <;> simp at hko'
  · intro b o y hy
    have hy' : (if St b o then some Own.st else none) = some y := hy
    split at hy'
    · rename_i h; simp at hy'; subst hy'; exact ⟨hbd b o h, .inr (.inr ⟨rfl, h⟩)⟩
    · simp at hy'
inductive VWf (E : Enc U) : V U → Prop
  | s (x : Value) (h : oneC x = true) : VWf E (.s x)
  | dat (τ : U.Ty) (xs : List (U.Den τ)) (hl : xs.length ≤ 9223372036854775807) (h2 : ∀ (i : Nat) (hi : i < xs.length) (j : Nat) (d : V U), (E.enc τ xs[i])[j]? = some d → VWf E d) : VWf E (.dat τ xs)
theorem VRel.wf {E : Enc U} {St : Nat → Nat → Prop} {w : World} {v : Value} {d : V U} (h : VRel E St w v d) : VWf E d := by
  induction h with
  | s x h => exact .s x h
  | nil τ a cap => exact .dat τ [] (by simp) (fun i hi => absurd hi (by simp))
  | dat τ xs b o cap cv hcap h1 h2 ih => exact .dat τ xs hcap.2 ih
def D0Wf (E : Enc U) : D0 U → Prop
  | .v x => VWf E x
  | .agg xs => ∀ x ∈ xs, VWf E x
def DCWf (E : Enc U) : DC U → Prop
  | .v x => VWf E x
  | .fn _ => True
def DWf (E : Enc U) : D U → Prop
  | .d x => D0Wf E x
  | .fn _ => True
  | .box cs => ∀ x ∈ cs, DCWf E x
theorem All2.mem {α β : Type} {R : α → β → Prop} {l : List α} {r : List β} (h : All2 R l r) (b : β) (hb : b ∈ r) : ∃ a, R a b := by
  obtain ⟨i, hi⟩ := List.getElem?_of_mem hb
  obtain ⟨a, _, ha⟩ := h.get i hi
  exact ⟨a, ha⟩
theorem D0Rel.wf {E : Enc U} {St : Nat → Nat → Prop} {w : World} {v : Value} {d : D0 U} (h : D0Rel E St w v d) : D0Wf E d := by
  cases d with
  | v x => exact VRel.wf h
  | agg xs => obtain ⟨arr, _, h2⟩ := h; exact fun x hx => (h2.mem x hx).elim fun _ hh => hh.wf
theorem DRel.wf {E : Enc U} {St : Nat → Nat → Prop} {w : World} {v : Value} {d : D U} (h : DRel P E St w v d) : DWf E d := by
  cases d with
  | d x => exact D0Rel.wf h
  | fn φ => trivial
  | box cs =>
    obtain ⟨b, _, h2⟩ := h
    intro x hx
    obtain ⟨i, hi⟩ := List.getElem?_of_mem hx
    obtain ⟨_, u, _, hu⟩ := h2 i x hi
    cases x with
    | v y => exact VRel.wf hu
    | fn φ => trivial
theorem contract_of (hT : TabOK P M) (hF : FnsOK P M) (hm : P.follows .mixedOrders = true) {f : FuncId} {fn : Func} {body : Code} (hf : P.funcs[f]? = some fn) (hb : fn.body = some body) (N : Nat → NS) (x : Nat) (fm : List Kind) {args : List (D U)} {rs : List (A U)} {os : List (Ob U)}
    (h0 : (∀ a ∈ args, DWf M.E a) → awp M N body (entry fn.ntmps x args) (retQ M fn.results.toList fm fun rs' os' => rs' = rs ∧ os' = os)) : Contract P M.E f args rs os := by
  intro w St vs hbd hvs
  have h := h0 fun a ha => (hvs.mem a ha).elim fun _ hh => hh.wf
  obtain ⟨g, hs⟩ := entry_sim (n := fn.ntmps) (x := x) hbd hvs
  refine calls_of_wp hf hb ?_
  refine awp_sound hT hF hm N body (Q := retQ M fn.results.toList fm fun rs' os' => rs' = rs ∧ os' = os) ?_ hs h
  have fin : ∀ s g a w', retK M fn.results.toList fm (fun rs' os' => rs' = rs ∧ os' = os) s → Sim P M.E ⟨w, fun _ _ => False, St, 0, fun _ => 0⟩ g s a w' → a.defers = [] ∧ ∃ v, (results fn a.tmps).run P w' = .ok v w' ∧ ∃ v', Ending.returned v = .returned v' ∧ Ret P M.E St w w' v' rs os := by
    intro s g a w' hq hs'
    unfold retK at hq
    split at hq
    · rename_i al hal
      split at hq
      · rename_i rs' os' hout
        obtain ⟨rfl, rfl⟩ := hq
        obtain ⟨v, hv, hvr⟩ := results_sound hT hs' hal
        have := out_sound hs' (fun _ _ hh => hh) hvr hout
        exact ⟨hs'.dfr, v, hv, v, rfl, this⟩
      · exact hq.elim
    · exact hq.elim
  intro e s g a w' hq hs'
  cases e with
  | normal => exact fin s g a w' hq hs'
  | ret => exact fin s g a w' hq hs'
  | _ => exact hq.elim
theorem toA_inv {E : Enc U} {g : G} {ob : List (Option (Ob U))} {w : World} {v : Value} {d : D0 U} (h : ARel P E g ob w v d.toA) : D0Rel E g.St w v d := by
  have hc : ∀ {u : Value} {x : V U}, CRel P E g ob w u (C.ofV x) → VRel E g.St w u x := by
    intro u x hu
    cases x with
    | s y => obtain ⟨rfl, h⟩ := hu; exact .s _ h
    | dat τ xs => exact hu.1
  cases d with
  | v x => exact hc h
  | agg xs =>
    obtain ⟨arr, e, h2⟩ := h
    refine ⟨arr, e, ?_⟩
    generalize arr.toList = us at h2
    induction xs generalizing us with
    | nil => cases us with | nil => trivial | cons _ _ => exact h2.elim
    | cons x xs ih =>
      cases us with
      | nil => exact h2.elim
      | cons u us => exact ⟨hc h2.1, ih us h2.2⟩
theorem Contract.data {E : Enc U} {f : FuncId} {args : List (D U)} {ds : List (D0 U)} (h : Contract P E f args (ds.map D0.toA) []) : Contract0 P E f args ds := by
  intro w St vs hbd hvs
  refine Calls.mono (h w St vs hbd hvs) ?_
  rintro e w' ⟨v, rfl, hext, g, _, h2, h3, h4, _⟩
  refine ⟨v, rfl, hext, g.St, fun b o hb hs => (h2 b o _ hb hs).2, fun b o hs => h3 b o _ hs, ?_⟩
  have hall : ∀ {us : List Value} {ds : List (D0 U)}, All2 (ARel P E g (([] : List (Ob U)).map some) w') us (ds.map D0.toA) → All2 (D0Rel E g.St w') us ds := by
    intro us ds
    induction ds generalizing us with
    | nil => intro hu; cases us with | nil => trivial | cons _ _ => exact hu.elim
    | cons d ds ih =>
      intro hu
      cases us with
      | nil => exact hu.elim
      | cons u us => exact ⟨toA_inv hu.1, ih hu.2⟩
  match ds, h4 with
  | [], h4 => obtain ⟨arr, e, hh⟩ := h4; exact ⟨arr, e, hall (ds := []) hh⟩
  | [d], h4 => exact toA_inv h4
  | d :: d' :: r, h4 => obtain ⟨arr, e, hh⟩ := h4; exact ⟨arr, e, hall (ds := d :: d' :: r) hh⟩
end Go.Proofs.YtmpnompddfhkeaaGreat.B
namespace Go.Proofs.YtmpnompddfhkeaaGreat.B
open Go
structure Val where
  kind : Int
  n : Int
  s : ByteArray
def zeroVal : Val := ⟨0, 0, ⟨#[]⟩⟩
structure Col where
  table : ByteArray
  name : ByteArray
  type : Int
def zeroCol : Col := ⟨⟨#[]⟩, ⟨#[]⟩, 0⟩
structure By where
  at_ : Int
  down : Bool
def zeroBy : By := ⟨0, false⟩
structure Bound where
  is : Bool
  open_ : Bool
  key : List Val
def zeroBound : Bound := ⟨false, false, []⟩
structure Often where
  v : Val
  n : Int
def zeroOften : Often := ⟨zeroVal, 0⟩
structure ColStat where
  nulls : Int
  distinct : Int
  ends : List Val
  common : List Often
def zeroColStat : ColStat := ⟨0, 0, [], []⟩
structure Data where
  table : ByteArray
  rows : List (List Val)
def zeroData : Data := ⟨⟨#[]⟩, []⟩
structure Acc where
  name : ByteArray
  distinct : Bool
  n : Int
  hi : Int
  lo : Int
  v : Val
  l : List Val
def zeroAcc : Acc := ⟨⟨#[]⟩, false, 0, 0, 0, zeroVal, []⟩
structure Stat where
  table : ByteArray
  rows : Int
  pages : Int
  cols : List ColStat
def zeroStat : Stat := ⟨⟨#[]⟩, 0, 0, []⟩
structure Column where
  c : ColStat
  nulls : Int
  others : Int
  all : Int
def zeroColumn : Column := ⟨zeroColStat, 0, 0, 0⟩
mutual
inductive Term
  | mk (op : Int) (v : Val) (depth : Int) (at_ : Int) (name : ByteArray) (kids : List Term) (sub : List Rel) (type : Int)
inductive Agg
  | mk (name : ByteArray) (distinct : Bool) (t : List Term)
inductive Rel
  | mk (op : Int) (table : ByteArray) (cols : List Col) (kids : List Rel) (terms : List Term) (aggs : List Agg) (keys : List By) (limit : Int) (skip : Int) (all : Bool) (rows : List (List Val))
end
def Term.op : Term → Int | .mk x _ _ _ _ _ _ _ => x
@[simp] theorem Term.op_mk (op : Int) (v : Val) (depth : Int) (at_ : Int) (name : ByteArray) (kids : List Term) (sub : List Rel) (type : Int) : (Term.mk op v depth at_ name kids sub type).op = op := rfl
def Term.v : Term → Val | .mk _ x _ _ _ _ _ _ => x
@[simp] theorem Term.v_mk (op : Int) (v : Val) (depth : Int) (at_ : Int) (name : ByteArray) (kids : List Term) (sub : List Rel) (type : Int) : (Term.mk op v depth at_ name kids sub type).v = v := rfl
def Term.depth : Term → Int | .mk _ _ x _ _ _ _ _ => x
@[simp] theorem Term.depth_mk (op : Int) (v : Val) (depth : Int) (at_ : Int) (name : ByteArray) (kids : List Term) (sub : List Rel) (type : Int) : (Term.mk op v depth at_ name kids sub type).depth = depth := rfl
def Term.at_ : Term → Int | .mk _ _ _ x _ _ _ _ => x
@[simp] theorem Term.at__mk (op : Int) (v : Val) (depth : Int) (at_ : Int) (name : ByteArray) (kids : List Term) (sub : List Rel) (type : Int) : (Term.mk op v depth at_ name kids sub type).at_ = at_ := rfl
def Term.name : Term → ByteArray | .mk _ _ _ _ x _ _ _ => x
@[simp] theorem Term.name_mk (op : Int) (v : Val) (depth : Int) (at_ : Int) (name : ByteArray) (kids : List Term) (sub : List Rel) (type : Int) : (Term.mk op v depth at_ name kids sub type).name = name := rfl
def Term.kids : Term → List Term | .mk _ _ _ _ _ x _ _ => x
@[simp] theorem Term.kids_mk (op : Int) (v : Val) (depth : Int) (at_ : Int) (name : ByteArray) (kids : List Term) (sub : List Rel) (type : Int) : (Term.mk op v depth at_ name kids sub type).kids = kids := rfl
def Term.sub : Term → List Rel | .mk _ _ _ _ _ _ x _ => x
@[simp] theorem Term.sub_mk (op : Int) (v : Val) (depth : Int) (at_ : Int) (name : ByteArray) (kids : List Term) (sub : List Rel) (type : Int) : (Term.mk op v depth at_ name kids sub type).sub = sub := rfl
def Term.type : Term → Int | .mk _ _ _ _ _ _ _ x => x
@[simp] theorem Term.type_mk (op : Int) (v : Val) (depth : Int) (at_ : Int) (name : ByteArray) (kids : List Term) (sub : List Rel) (type : Int) : (Term.mk op v depth at_ name kids sub type).type = type := rfl
def zeroTerm : Term := .mk 0 zeroVal 0 0 ⟨#[]⟩ [] [] 0
def Agg.name : Agg → ByteArray | .mk x _ _ => x
@[simp] theorem Agg.name_mk (name : ByteArray) (distinct : Bool) (t : List Term) : (Agg.mk name distinct t).name = name := rfl
def Agg.distinct : Agg → Bool | .mk _ x _ => x
@[simp] theorem Agg.distinct_mk (name : ByteArray) (distinct : Bool) (t : List Term) : (Agg.mk name distinct t).distinct = distinct := rfl
def Agg.t : Agg → List Term | .mk _ _ x => x
@[simp] theorem Agg.t_mk (name : ByteArray) (distinct : Bool) (t : List Term) : (Agg.mk name distinct t).t = t := rfl
def zeroAgg : Agg := .mk ⟨#[]⟩ false []
def Rel.op : Rel → Int | .mk x _ _ _ _ _ _ _ _ _ _ => x
@[simp] theorem Rel.op_mk (op : Int) (table : ByteArray) (cols : List Col) (kids : List Rel) (terms : List Term) (aggs : List Agg) (keys : List By) (limit : Int) (skip : Int) (all : Bool) (rows : List (List Val)) : (Rel.mk op table cols kids terms aggs keys limit skip all rows).op = op := rfl
def Rel.table : Rel → ByteArray | .mk _ x _ _ _ _ _ _ _ _ _ => x
@[simp] theorem Rel.table_mk (op : Int) (table : ByteArray) (cols : List Col) (kids : List Rel) (terms : List Term) (aggs : List Agg) (keys : List By) (limit : Int) (skip : Int) (all : Bool) (rows : List (List Val)) : (Rel.mk op table cols kids terms aggs keys limit skip all rows).table = table := rfl
def Rel.cols : Rel → List Col | .mk _ _ x _ _ _ _ _ _ _ _ => x
@[simp] theorem Rel.cols_mk (op : Int) (table : ByteArray) (cols : List Col) (kids : List Rel) (terms : List Term) (aggs : List Agg) (keys : List By) (limit : Int) (skip : Int) (all : Bool) (rows : List (List Val)) : (Rel.mk op table cols kids terms aggs keys limit skip all rows).cols = cols := rfl
def Rel.kids : Rel → List Rel | .mk _ _ _ x _ _ _ _ _ _ _ => x
@[simp] theorem Rel.kids_mk (op : Int) (table : ByteArray) (cols : List Col) (kids : List Rel) (terms : List Term) (aggs : List Agg) (keys : List By) (limit : Int) (skip : Int) (all : Bool) (rows : List (List Val)) : (Rel.mk op table cols kids terms aggs keys limit skip all rows).kids = kids := rfl
def Rel.terms : Rel → List Term | .mk _ _ _ _ x _ _ _ _ _ _ => x
@[simp] theorem Rel.terms_mk (op : Int) (table : ByteArray) (cols : List Col) (kids : List Rel) (terms : List Term) (aggs : List Agg) (keys : List By) (limit : Int) (skip : Int) (all : Bool) (rows : List (List Val)) : (Rel.mk op table cols kids terms aggs keys limit skip all rows).terms = terms := rfl
def Rel.aggs : Rel → List Agg | .mk _ _ _ _ _ x _ _ _ _ _ => x
@[simp] theorem Rel.aggs_mk (op : Int) (table : ByteArray) (cols : List Col) (kids : List Rel) (terms : List Term) (aggs : List Agg) (keys : List By) (limit : Int) (skip : Int) (all : Bool) (rows : List (List Val)) : (Rel.mk op table cols kids terms aggs keys limit skip all rows).aggs = aggs := rfl
def Rel.keys : Rel → List By | .mk _ _ _ _ _ _ x _ _ _ _ => x
@[simp] theorem Rel.keys_mk (op : Int) (table : ByteArray) (cols : List Col) (kids : List Rel) (terms : List Term) (aggs : List Agg) (keys : List By) (limit : Int) (skip : Int) (all : Bool) (rows : List (List Val)) : (Rel.mk op table cols kids terms aggs keys limit skip all rows).keys = keys := rfl
def Rel.limit : Rel → Int | .mk _ _ _ _ _ _ _ x _ _ _ => x
@[simp] theorem Rel.limit_mk (op : Int) (table : ByteArray) (cols : List Col) (kids : List Rel) (terms : List Term) (aggs : List Agg) (keys : List By) (limit : Int) (skip : Int) (all : Bool) (rows : List (List Val)) : (Rel.mk op table cols kids terms aggs keys limit skip all rows).limit = limit := rfl
def Rel.skip : Rel → Int | .mk _ _ _ _ _ _ _ _ x _ _ => x
@[simp] theorem Rel.skip_mk (op : Int) (table : ByteArray) (cols : List Col) (kids : List Rel) (terms : List Term) (aggs : List Agg) (keys : List By) (limit : Int) (skip : Int) (all : Bool) (rows : List (List Val)) : (Rel.mk op table cols kids terms aggs keys limit skip all rows).skip = skip := rfl
def Rel.all : Rel → Bool | .mk _ _ _ _ _ _ _ _ _ x _ => x
@[simp] theorem Rel.all_mk (op : Int) (table : ByteArray) (cols : List Col) (kids : List Rel) (terms : List Term) (aggs : List Agg) (keys : List By) (limit : Int) (skip : Int) (all : Bool) (rows : List (List Val)) : (Rel.mk op table cols kids terms aggs keys limit skip all rows).all = all := rfl
def Rel.rows : Rel → List (List Val) | .mk _ _ _ _ _ _ _ _ _ _ x => x
@[simp] theorem Rel.rows_mk (op : Int) (table : ByteArray) (cols : List Col) (kids : List Rel) (terms : List Term) (aggs : List Agg) (keys : List By) (limit : Int) (skip : Int) (all : Bool) (rows : List (List Val)) : (Rel.mk op table cols kids terms aggs keys limit skip all rows).rows = rows := rfl
def zeroRel : Rel := .mk 0 ⟨#[]⟩ [] [] [] [] [] 0 0 false []
mutual
inductive Plan
  | mk (op : Int) (table : ByteArray) (index : ByteArray) (cols : List Col) (kids : List Plan) (terms : List Term) (lkeys : List Term) (rkeys : List Term) (aggs : List Agg) (keys : List By) (out : List Int) (lo : Bound) (hi : Bound) (limit : Int) (skip : Int) (all : Bool) (rows : List (List Val)) (est : Int) (cost : Int)
end
def Plan.op : Plan → Int | .mk x _ _ _ _ _ _ _ _ _ _ _ _ _ _ _ _ _ _ => x
@[simp] theorem Plan.op_mk (op : Int) (table : ByteArray) (index : ByteArray) (cols : List Col) (kids : List Plan) (terms : List Term) (lkeys : List Term) (rkeys : List Term) (aggs : List Agg) (keys : List By) (out : List Int) (lo : Bound) (hi : Bound) (limit : Int) (skip : Int) (all : Bool) (rows : List (List Val)) (est : Int) (cost : Int) : (Plan.mk op table index cols kids terms lkeys rkeys aggs keys out lo hi limit skip all rows est cost).op = op := rfl
def Plan.table : Plan → ByteArray | .mk _ x _ _ _ _ _ _ _ _ _ _ _ _ _ _ _ _ _ => x
@[simp] theorem Plan.table_mk (op : Int) (table : ByteArray) (index : ByteArray) (cols : List Col) (kids : List Plan) (terms : List Term) (lkeys : List Term) (rkeys : List Term) (aggs : List Agg) (keys : List By) (out : List Int) (lo : Bound) (hi : Bound) (limit : Int) (skip : Int) (all : Bool) (rows : List (List Val)) (est : Int) (cost : Int) : (Plan.mk op table index cols kids terms lkeys rkeys aggs keys out lo hi limit skip all rows est cost).table = table := rfl
def Plan.index : Plan → ByteArray | .mk _ _ x _ _ _ _ _ _ _ _ _ _ _ _ _ _ _ _ => x
@[simp] theorem Plan.index_mk (op : Int) (table : ByteArray) (index : ByteArray) (cols : List Col) (kids : List Plan) (terms : List Term) (lkeys : List Term) (rkeys : List Term) (aggs : List Agg) (keys : List By) (out : List Int) (lo : Bound) (hi : Bound) (limit : Int) (skip : Int) (all : Bool) (rows : List (List Val)) (est : Int) (cost : Int) : (Plan.mk op table index cols kids terms lkeys rkeys aggs keys out lo hi limit skip all rows est cost).index = index := rfl
def Plan.cols : Plan → List Col | .mk _ _ _ x _ _ _ _ _ _ _ _ _ _ _ _ _ _ _ => x
@[simp] theorem Plan.cols_mk (op : Int) (table : ByteArray) (index : ByteArray) (cols : List Col) (kids : List Plan) (terms : List Term) (lkeys : List Term) (rkeys : List Term) (aggs : List Agg) (keys : List By) (out : List Int) (lo : Bound) (hi : Bound) (limit : Int) (skip : Int) (all : Bool) (rows : List (List Val)) (est : Int) (cost : Int) : (Plan.mk op table index cols kids terms lkeys rkeys aggs keys out lo hi limit skip all rows est cost).cols = cols := rfl
def Plan.kids : Plan → List Plan | .mk _ _ _ _ x _ _ _ _ _ _ _ _ _ _ _ _ _ _ => x
@[simp] theorem Plan.kids_mk (op : Int) (table : ByteArray) (index : ByteArray) (cols : List Col) (kids : List Plan) (terms : List Term) (lkeys : List Term) (rkeys : List Term) (aggs : List Agg) (keys : List By) (out : List Int) (lo : Bound) (hi : Bound) (limit : Int) (skip : Int) (all : Bool) (rows : List (List Val)) (est : Int) (cost : Int) : (Plan.mk op table index cols kids terms lkeys rkeys aggs keys out lo hi limit skip all rows est cost).kids = kids := rfl
def Plan.terms : Plan → List Term | .mk _ _ _ _ _ x _ _ _ _ _ _ _ _ _ _ _ _ _ => x
@[simp] theorem Plan.terms_mk (op : Int) (table : ByteArray) (index : ByteArray) (cols : List Col) (kids : List Plan) (terms : List Term) (lkeys : List Term) (rkeys : List Term) (aggs : List Agg) (keys : List By) (out : List Int) (lo : Bound) (hi : Bound) (limit : Int) (skip : Int) (all : Bool) (rows : List (List Val)) (est : Int) (cost : Int) : (Plan.mk op table index cols kids terms lkeys rkeys aggs keys out lo hi limit skip all rows est cost).terms = terms := rfl
def Plan.lkeys : Plan → List Term | .mk _ _ _ _ _ _ x _ _ _ _ _ _ _ _ _ _ _ _ => x
@[simp] theorem Plan.lkeys_mk (op : Int) (table : ByteArray) (index : ByteArray) (cols : List Col) (kids : List Plan) (terms : List Term) (lkeys : List Term) (rkeys : List Term) (aggs : List Agg) (keys : List By) (out : List Int) (lo : Bound) (hi : Bound) (limit : Int) (skip : Int) (all : Bool) (rows : List (List Val)) (est : Int) (cost : Int) : (Plan.mk op table index cols kids terms lkeys rkeys aggs keys out lo hi limit skip all rows est cost).lkeys = lkeys := rfl
def Plan.rkeys : Plan → List Term | .mk _ _ _ _ _ _ _ x _ _ _ _ _ _ _ _ _ _ _ => x
@[simp] theorem Plan.rkeys_mk (op : Int) (table : ByteArray) (index : ByteArray) (cols : List Col) (kids : List Plan) (terms : List Term) (lkeys : List Term) (rkeys : List Term) (aggs : List Agg) (keys : List By) (out : List Int) (lo : Bound) (hi : Bound) (limit : Int) (skip : Int) (all : Bool) (rows : List (List Val)) (est : Int) (cost : Int) : (Plan.mk op table index cols kids terms lkeys rkeys aggs keys out lo hi limit skip all rows est cost).rkeys = rkeys := rfl
def Plan.aggs : Plan → List Agg | .mk _ _ _ _ _ _ _ _ x _ _ _ _ _ _ _ _ _ _ => x
@[simp] theorem Plan.aggs_mk (op : Int) (table : ByteArray) (index : ByteArray) (cols : List Col) (kids : List Plan) (terms : List Term) (lkeys : List Term) (rkeys : List Term) (aggs : List Agg) (keys : List By) (out : List Int) (lo : Bound) (hi : Bound) (limit : Int) (skip : Int) (all : Bool) (rows : List (List Val)) (est : Int) (cost : Int) : (Plan.mk op table index cols kids terms lkeys rkeys aggs keys out lo hi limit skip all rows est cost).aggs = aggs := rfl
def Plan.keys : Plan → List By | .mk _ _ _ _ _ _ _ _ _ x _ _ _ _ _ _ _ _ _ => x
@[simp] theorem Plan.keys_mk (op : Int) (table : ByteArray) (index : ByteArray) (cols : List Col) (kids : List Plan) (terms : List Term) (lkeys : List Term) (rkeys : List Term) (aggs : List Agg) (keys : List By) (out : List Int) (lo : Bound) (hi : Bound) (limit : Int) (skip : Int) (all : Bool) (rows : List (List Val)) (est : Int) (cost : Int) : (Plan.mk op table index cols kids terms lkeys rkeys aggs keys out lo hi limit skip all rows est cost).keys = keys := rfl
def Plan.out : Plan → List Int | .mk _ _ _ _ _ _ _ _ _ _ x _ _ _ _ _ _ _ _ => x
@[simp] theorem Plan.out_mk (op : Int) (table : ByteArray) (index : ByteArray) (cols : List Col) (kids : List Plan) (terms : List Term) (lkeys : List Term) (rkeys : List Term) (aggs : List Agg) (keys : List By) (out : List Int) (lo : Bound) (hi : Bound) (limit : Int) (skip : Int) (all : Bool) (rows : List (List Val)) (est : Int) (cost : Int) : (Plan.mk op table index cols kids terms lkeys rkeys aggs keys out lo hi limit skip all rows est cost).out = out := rfl
def Plan.lo : Plan → Bound | .mk _ _ _ _ _ _ _ _ _ _ _ x _ _ _ _ _ _ _ => x
@[simp] theorem Plan.lo_mk (op : Int) (table : ByteArray) (index : ByteArray) (cols : List Col) (kids : List Plan) (terms : List Term) (lkeys : List Term) (rkeys : List Term) (aggs : List Agg) (keys : List By) (out : List Int) (lo : Bound) (hi : Bound) (limit : Int) (skip : Int) (all : Bool) (rows : List (List Val)) (est : Int) (cost : Int) : (Plan.mk op table index cols kids terms lkeys rkeys aggs keys out lo hi limit skip all rows est cost).lo = lo := rfl
def Plan.hi : Plan → Bound | .mk _ _ _ _ _ _ _ _ _ _ _ _ x _ _ _ _ _ _ => x
@[simp] theorem Plan.hi_mk (op : Int) (table : ByteArray) (index : ByteArray) (cols : List Col) (kids : List Plan) (terms : List Term) (lkeys : List Term) (rkeys : List Term) (aggs : List Agg) (keys : List By) (out : List Int) (lo : Bound) (hi : Bound) (limit : Int) (skip : Int) (all : Bool) (rows : List (List Val)) (est : Int) (cost : Int) : (Plan.mk op table index cols kids terms lkeys rkeys aggs keys out lo hi limit skip all rows est cost).hi = hi := rfl
def Plan.limit : Plan → Int | .mk _ _ _ _ _ _ _ _ _ _ _ _ _ x _ _ _ _ _ => x
@[simp] theorem Plan.limit_mk (op : Int) (table : ByteArray) (index : ByteArray) (cols : List Col) (kids : List Plan) (terms : List Term) (lkeys : List Term) (rkeys : List Term) (aggs : List Agg) (keys : List By) (out : List Int) (lo : Bound) (hi : Bound) (limit : Int) (skip : Int) (all : Bool) (rows : List (List Val)) (est : Int) (cost : Int) : (Plan.mk op table index cols kids terms lkeys rkeys aggs keys out lo hi limit skip all rows est cost).limit = limit := rfl
def Plan.skip : Plan → Int | .mk _ _ _ _ _ _ _ _ _ _ _ _ _ _ x _ _ _ _ => x
@[simp] theorem Plan.skip_mk (op : Int) (table : ByteArray) (index : ByteArray) (cols : List Col) (kids : List Plan) (terms : List Term) (lkeys : List Term) (rkeys : List Term) (aggs : List Agg) (keys : List By) (out : List Int) (lo : Bound) (hi : Bound) (limit : Int) (skip : Int) (all : Bool) (rows : List (List Val)) (est : Int) (cost : Int) : (Plan.mk op table index cols kids terms lkeys rkeys aggs keys out lo hi limit skip all rows est cost).skip = skip := rfl
def Plan.all : Plan → Bool | .mk _ _ _ _ _ _ _ _ _ _ _ _ _ _ _ x _ _ _ => x
@[simp] theorem Plan.all_mk (op : Int) (table : ByteArray) (index : ByteArray) (cols : List Col) (kids : List Plan) (terms : List Term) (lkeys : List Term) (rkeys : List Term) (aggs : List Agg) (keys : List By) (out : List Int) (lo : Bound) (hi : Bound) (limit : Int) (skip : Int) (all : Bool) (rows : List (List Val)) (est : Int) (cost : Int) : (Plan.mk op table index cols kids terms lkeys rkeys aggs keys out lo hi limit skip all rows est cost).all = all := rfl
def Plan.rows : Plan → List (List Val) | .mk _ _ _ _ _ _ _ _ _ _ _ _ _ _ _ _ x _ _ => x
@[simp] theorem Plan.rows_mk (op : Int) (table : ByteArray) (index : ByteArray) (cols : List Col) (kids : List Plan) (terms : List Term) (lkeys : List Term) (rkeys : List Term) (aggs : List Agg) (keys : List By) (out : List Int) (lo : Bound) (hi : Bound) (limit : Int) (skip : Int) (all : Bool) (rows : List (List Val)) (est : Int) (cost : Int) : (Plan.mk op table index cols kids terms lkeys rkeys aggs keys out lo hi limit skip all rows est cost).rows = rows := rfl
def Plan.est : Plan → Int | .mk _ _ _ _ _ _ _ _ _ _ _ _ _ _ _ _ _ x _ => x
@[simp] theorem Plan.est_mk (op : Int) (table : ByteArray) (index : ByteArray) (cols : List Col) (kids : List Plan) (terms : List Term) (lkeys : List Term) (rkeys : List Term) (aggs : List Agg) (keys : List By) (out : List Int) (lo : Bound) (hi : Bound) (limit : Int) (skip : Int) (all : Bool) (rows : List (List Val)) (est : Int) (cost : Int) : (Plan.mk op table index cols kids terms lkeys rkeys aggs keys out lo hi limit skip all rows est cost).est = est := rfl
def Plan.cost : Plan → Int | .mk _ _ _ _ _ _ _ _ _ _ _ _ _ _ _ _ _ _ x => x
@[simp] theorem Plan.cost_mk (op : Int) (table : ByteArray) (index : ByteArray) (cols : List Col) (kids : List Plan) (terms : List Term) (lkeys : List Term) (rkeys : List Term) (aggs : List Agg) (keys : List By) (out : List Int) (lo : Bound) (hi : Bound) (limit : Int) (skip : Int) (all : Bool) (rows : List (List Val)) (est : Int) (cost : Int) : (Plan.mk op table index cols kids terms lkeys rkeys aggs keys out lo hi limit skip all rows est cost).cost = cost := rfl
def zeroPlan : Plan := .mk 0 ⟨#[]⟩ ⟨#[]⟩ [] [] [] [] [] [] [] [] zeroBound zeroBound 0 0 false [] 0 0
structure Span where
  front : List Val
  lo : Bound
  hi : Bound
  n : Int
  counts : List Term
def zeroSpan : Span := ⟨[], zeroBound, zeroBound, 0, []⟩
inductive Ty
  | int | str | row | ints | pair | val | col | by_ | bound | often | colStat | data | acc | stat | column | term | agg | rel | plan | span
  deriving DecidableEq
@[reducible] def Den : Ty → Type
  | .int => Int
  | .str => ByteArray
  | .row => List Val
  | .ints => List Int
  | .pair => Int × Int
  | .val => Val
  | .col => Col
  | .by_ => By
  | .bound => Bound
  | .often => Often
  | .colStat => ColStat
  | .data => Data
  | .acc => Acc
  | .stat => Stat
  | .column => Column
  | .term => Term
  | .agg => Agg
  | .rel => Rel
  | .plan => Plan
  | .span => Span
def dflt : (τ : Ty) → Den τ
  | .int => (0 : Int)
  | .str => (⟨#[]⟩ : ByteArray)
  | .row => ([] : List Val)
  | .ints => ([] : List Int)
  | .pair => ((0, 0) : Int × Int)
  | .val => (zeroVal : Val)
  | .col => (zeroCol : Col)
  | .by_ => (zeroBy : By)
  | .bound => (zeroBound : Bound)
  | .often => (zeroOften : Often)
  | .colStat => (zeroColStat : ColStat)
  | .data => (zeroData : Data)
  | .acc => (zeroAcc : Acc)
  | .stat => (zeroStat : Stat)
  | .column => (zeroColumn : Column)
  | .term => (zeroTerm : Term)
  | .agg => (zeroAgg : Agg)
  | .rel => (zeroRel : Rel)
  | .plan => (zeroPlan : Plan)
  | .span => (zeroSpan : Span)
def sz : Ty → Nat
  | .int => 1
  | .str => 1
  | .row => 1
  | .ints => 1
  | .pair => 2
  | .val => 3
  | .col => 3
  | .by_ => 2
  | .bound => 3
  | .often => 4
  | .colStat => 4
  | .data => 2
  | .acc => 9
  | .stat => 4
  | .column => 7
  | .term => 10
  | .agg => 3
  | .rel => 11
  | .plan => 23
  | .span => 9
@[reducible] def Un : Uni := ⟨Ty, inferInstance, Den, dflt, sz⟩
def ci (n : Int) : V Un := .s (.int .i64 n)
def cb (b : Bool) : V Un := .s (.bool b)
def cs (s : ByteArray) : V Un := .s (.string s)
def enc : (τ : Ty) → Den τ → List (V Un)
  | .int, (x : Int) => [ci x]
  | .str, (x : ByteArray) => [cs x]
  | .row, (x : List Val) => [.dat (U := Un) Ty.val x]
  | .ints, (x : List Int) => [.dat (U := Un) Ty.int x]
  | .pair, (x : Int × Int) => [ci x.1, ci x.2]
  | .val, (x : Val) => [ci x.kind, ci x.n, cs x.s]
  | .col, (x : Col) => [cs x.table, cs x.name, ci x.type]
  | .by_, (x : By) => [ci x.at_, cb x.down]
  | .bound, (x : Bound) => [cb x.is, cb x.open_, .dat (U := Un) Ty.val x.key]
  | .often, (x : Often) => [ci x.v.kind, ci x.v.n, cs x.v.s, ci x.n]
  | .colStat, (x : ColStat) => [ci x.nulls, ci x.distinct, .dat (U := Un) Ty.val x.ends, .dat (U := Un) Ty.often x.common]
  | .data, (x : Data) => [cs x.table, .dat (U := Un) Ty.row x.rows]
  | .acc, (x : Acc) => [cs x.name, cb x.distinct, ci x.n, ci x.hi, ci x.lo, ci x.v.kind, ci x.v.n, cs x.v.s, .dat (U := Un) Ty.val x.l]
  | .stat, (x : Stat) => [cs x.table, ci x.rows, ci x.pages, .dat (U := Un) Ty.colStat x.cols]
  | .column, (x : Column) => [ci x.c.nulls, ci x.c.distinct, .dat (U := Un) Ty.val x.c.ends, .dat (U := Un) Ty.often x.c.common, ci x.nulls, ci x.others, ci x.all]
  | .term, (x : Term) => [ci x.op, ci x.v.kind, ci x.v.n, cs x.v.s, ci x.depth, ci x.at_, cs x.name, .dat (U := Un) Ty.term x.kids, .dat (U := Un) Ty.rel x.sub, ci x.type]
  | .agg, (x : Agg) => [cs x.name, cb x.distinct, .dat (U := Un) Ty.term x.t]
  | .rel, (x : Rel) => [ci x.op, cs x.table, .dat (U := Un) Ty.col x.cols, .dat (U := Un) Ty.rel x.kids, .dat (U := Un) Ty.term x.terms, .dat (U := Un) Ty.agg x.aggs, .dat (U := Un) Ty.by_ x.keys, ci x.limit, ci x.skip, cb x.all, .dat (U := Un) Ty.row x.rows]
  | .plan, (x : Plan) => [ci x.op, cs x.table, cs x.index, .dat (U := Un) Ty.col x.cols, .dat (U := Un) Ty.plan x.kids, .dat (U := Un) Ty.term x.terms, .dat (U := Un) Ty.term x.lkeys, .dat (U := Un) Ty.term x.rkeys, .dat (U := Un) Ty.agg x.aggs, .dat (U := Un) Ty.by_ x.keys, .dat (U := Un) Ty.int x.out, cb x.lo.is, cb x.lo.open_, .dat (U := Un) Ty.val x.lo.key, cb x.hi.is, cb x.hi.open_, .dat (U := Un) Ty.val x.hi.key, ci x.limit, ci x.skip, cb x.all, .dat (U := Un) Ty.row x.rows, ci x.est, ci x.cost]
  | .span, (x : Span) => [.dat (U := Un) Ty.val x.front, cb x.lo.is, cb x.lo.open_, .dat (U := Un) Ty.val x.lo.key, cb x.hi.is, cb x.hi.open_, .dat (U := Un) Ty.val x.hi.key, ci x.n, .dat (U := Un) Ty.term x.counts]
def int? : V Un → Option Int | .s (.int .i64 n) => some n | _ => none
def bool? : V Un → Option Bool | .s (.bool b) => some b | _ => none
def str? : V Un → Option ByteArray | .s (.string s) => some s | _ => none
def lst? (τ : Ty) : V Un → Option (List (Den τ))
  | .dat τ' xs => match instDecidableEqTy τ' τ with | .isTrue h => some (h ▸ xs) | .isFalse _ => none
  | _ => none
theorem int_of {c : V Un} {n : Int} (h : int? c = some n) : c = ci n := by unfold int? at h; split at h <;> simp at h; subst h; rfl
theorem bool_of {c : V Un} {n : Bool} (h : bool? c = some n) : c = cb n := by unfold bool? at h; split at h <;> simp at h; subst h; rfl
theorem str_of {c : V Un} {n : ByteArray} (h : str? c = some n) : c = cs n := by unfold str? at h; split at h <;> simp at h; subst h; rfl
theorem lst_of {τ : Ty} {c : V Un} {n : List (Den τ)} (h : lst? τ c = some n) : c = .dat (U := Un) τ n := by
  cases c with
  | s x => simp [lst?] at h
  | dat τ' xs =>
    simp only [lst?] at h
    split at h
    · rename_i hh _; subst hh; simp at h; subst h; rfl
    · simp at h
def dec_int : List (V Un) → Option (Int)
  | [c0] => (int? c0).bind fun a0 => some a0
  | _ => none
theorem back_int {l : List (V Un)} {x : Int} (h : dec_int l = some x) : enc .int x = l := by
  unfold dec_int at h
  split at h
  · simp only [Option.bind_eq_some_iff, Option.some.injEq] at h
    obtain ⟨a0, h0, rfl⟩ := h
    rw [int_of h0]
    rfl
  · simp at h
def dec_str : List (V Un) → Option (ByteArray)
  | [c0] => (str? c0).bind fun a0 => some a0
  | _ => none
theorem back_str {l : List (V Un)} {x : ByteArray} (h : dec_str l = some x) : enc .str x = l := by
  unfold dec_str at h
  split at h
  · simp only [Option.bind_eq_some_iff, Option.some.injEq] at h
    obtain ⟨a0, h0, rfl⟩ := h
    rw [str_of h0]
    rfl
  · simp at h
def dec_row : List (V Un) → Option (List Val)
  | [c0] => (lst? .val c0).bind fun a0 => some a0
  | _ => none
theorem back_row {l : List (V Un)} {x : List Val} (h : dec_row l = some x) : enc .row x = l := by
  unfold dec_row at h
  split at h
  · simp only [Option.bind_eq_some_iff, Option.some.injEq] at h
    obtain ⟨a0, h0, rfl⟩ := h
    rw [lst_of h0]
    rfl
  · simp at h
def dec_ints : List (V Un) → Option (List Int)
  | [c0] => (lst? .int c0).bind fun a0 => some a0
  | _ => none
theorem back_ints {l : List (V Un)} {x : List Int} (h : dec_ints l = some x) : enc .ints x = l := by
  unfold dec_ints at h
  split at h
  · simp only [Option.bind_eq_some_iff, Option.some.injEq] at h
    obtain ⟨a0, h0, rfl⟩ := h
    rw [lst_of h0]
    rfl
  · simp at h
def dec_pair : List (V Un) → Option (Int × Int)
  | [c0, c1] => (int? c0).bind fun a0 => (int? c1).bind fun a1 => some (a0, a1)
  | _ => none
theorem back_pair {l : List (V Un)} {x : Int × Int} (h : dec_pair l = some x) : enc .pair x = l := by
  unfold dec_pair at h
  split at h
  · simp only [Option.bind_eq_some_iff, Option.some.injEq] at h
    obtain ⟨a0, h0, a1, h1, rfl⟩ := h
    rw [int_of h0, int_of h1]
    rfl
  · simp at h
def dec_val : List (V Un) → Option (Val)
  | [c0, c1, c2] => (int? c0).bind fun a0 => (int? c1).bind fun a1 => (str? c2).bind fun a2 => some (Val.mk a0 a1 a2)
  | _ => none
theorem back_val {l : List (V Un)} {x : Val} (h : dec_val l = some x) : enc .val x = l := by
  unfold dec_val at h
  split at h
  · simp only [Option.bind_eq_some_iff, Option.some.injEq] at h
    obtain ⟨a0, h0, a1, h1, a2, h2, rfl⟩ := h
    rw [int_of h0, int_of h1, str_of h2]
    rfl
  · simp at h
def dec_col : List (V Un) → Option (Col)
  | [c0, c1, c2] => (str? c0).bind fun a0 => (str? c1).bind fun a1 => (int? c2).bind fun a2 => some (Col.mk a0 a1 a2)
  | _ => none
theorem back_col {l : List (V Un)} {x : Col} (h : dec_col l = some x) : enc .col x = l := by
  unfold dec_col at h
  split at h
  · simp only [Option.bind_eq_some_iff, Option.some.injEq] at h
    obtain ⟨a0, h0, a1, h1, a2, h2, rfl⟩ := h
    rw [str_of h0, str_of h1, int_of h2]
    rfl
  · simp at h
def dec_by_ : List (V Un) → Option (By)
  | [c0, c1] => (int? c0).bind fun a0 => (bool? c1).bind fun a1 => some (By.mk a0 a1)
  | _ => none
theorem back_by_ {l : List (V Un)} {x : By} (h : dec_by_ l = some x) : enc .by_ x = l := by
  unfold dec_by_ at h
  split at h
  · simp only [Option.bind_eq_some_iff, Option.some.injEq] at h
    obtain ⟨a0, h0, a1, h1, rfl⟩ := h
    rw [int_of h0, bool_of h1]
    rfl
  · simp at h
def dec_bound : List (V Un) → Option (Bound)
  | [c0, c1, c2] => (bool? c0).bind fun a0 => (bool? c1).bind fun a1 => (lst? .val c2).bind fun a2 => some (Bound.mk a0 a1 a2)
  | _ => none
theorem back_bound {l : List (V Un)} {x : Bound} (h : dec_bound l = some x) : enc .bound x = l := by
  unfold dec_bound at h
  split at h
  · simp only [Option.bind_eq_some_iff, Option.some.injEq] at h
    obtain ⟨a0, h0, a1, h1, a2, h2, rfl⟩ := h
    rw [bool_of h0, bool_of h1, lst_of h2]
    rfl
  · simp at h
def dec_often : List (V Un) → Option (Often)
  | [c0, c1, c2, c3] => (int? c0).bind fun a0 => (int? c1).bind fun a1 => (str? c2).bind fun a2 => (int? c3).bind fun a3 => some (Often.mk (Val.mk a0 a1 a2) a3)
  | _ => none
theorem back_often {l : List (V Un)} {x : Often} (h : dec_often l = some x) : enc .often x = l := by
  unfold dec_often at h
  split at h
  · simp only [Option.bind_eq_some_iff, Option.some.injEq] at h
    obtain ⟨a0, h0, a1, h1, a2, h2, a3, h3, rfl⟩ := h
    rw [int_of h0, int_of h1, str_of h2, int_of h3]
    rfl
  · simp at h
def dec_colStat : List (V Un) → Option (ColStat)
  | [c0, c1, c2, c3] => (int? c0).bind fun a0 => (int? c1).bind fun a1 => (lst? .val c2).bind fun a2 => (lst? .often c3).bind fun a3 => some (ColStat.mk a0 a1 a2 a3)
  | _ => none
theorem back_colStat {l : List (V Un)} {x : ColStat} (h : dec_colStat l = some x) : enc .colStat x = l := by
  unfold dec_colStat at h
  split at h
  · simp only [Option.bind_eq_some_iff, Option.some.injEq] at h
    obtain ⟨a0, h0, a1, h1, a2, h2, a3, h3, rfl⟩ := h
    rw [int_of h0, int_of h1, lst_of h2, lst_of h3]
    rfl
  · simp at h
def dec_data : List (V Un) → Option (Data)
  | [c0, c1] => (str? c0).bind fun a0 => (lst? .row c1).bind fun a1 => some (Data.mk a0 a1)
  | _ => none
theorem back_data {l : List (V Un)} {x : Data} (h : dec_data l = some x) : enc .data x = l := by
  unfold dec_data at h
  split at h
  · simp only [Option.bind_eq_some_iff, Option.some.injEq] at h
    obtain ⟨a0, h0, a1, h1, rfl⟩ := h
    rw [str_of h0, lst_of h1]
    rfl
  · simp at h
def dec_acc : List (V Un) → Option (Acc)
  | [c0, c1, c2, c3, c4, c5, c6, c7, c8] => (str? c0).bind fun a0 => (bool? c1).bind fun a1 => (int? c2).bind fun a2 => (int? c3).bind fun a3 => (int? c4).bind fun a4 => (int? c5).bind fun a5 => (int? c6).bind fun a6 => (str? c7).bind fun a7 => (lst? .val c8).bind fun a8 => some (Acc.mk a0 a1 a2 a3 a4 (Val.mk a5 a6 a7) a8)
  | _ => none
theorem back_acc {l : List (V Un)} {x : Acc} (h : dec_acc l = some x) : enc .acc x = l := by
  unfold dec_acc at h
  split at h
  · simp only [Option.bind_eq_some_iff, Option.some.injEq] at h
    obtain ⟨a0, h0, a1, h1, a2, h2, a3, h3, a4, h4, a5, h5, a6, h6, a7, h7, a8, h8, rfl⟩ := h
    rw [str_of h0, bool_of h1, int_of h2, int_of h3, int_of h4, int_of h5, int_of h6, str_of h7, lst_of h8]
    rfl
  · simp at h
def dec_stat : List (V Un) → Option (Stat)
  | [c0, c1, c2, c3] => (str? c0).bind fun a0 => (int? c1).bind fun a1 => (int? c2).bind fun a2 => (lst? .colStat c3).bind fun a3 => some (Stat.mk a0 a1 a2 a3)
  | _ => none
theorem back_stat {l : List (V Un)} {x : Stat} (h : dec_stat l = some x) : enc .stat x = l := by
  unfold dec_stat at h
  split at h
  · simp only [Option.bind_eq_some_iff, Option.some.injEq] at h
    obtain ⟨a0, h0, a1, h1, a2, h2, a3, h3, rfl⟩ := h
    rw [str_of h0, int_of h1, int_of h2, lst_of h3]
    rfl
  · simp at h
def dec_column : List (V Un) → Option (Column)
  | [c0, c1, c2, c3, c4, c5, c6] => (int? c0).bind fun a0 => (int? c1).bind fun a1 => (lst? .val c2).bind fun a2 => (lst? .often c3).bind fun a3 => (int? c4).bind fun a4 => (int? c5).bind fun a5 => (int? c6).bind fun a6 => some (Column.mk (ColStat.mk a0 a1 a2 a3) a4 a5 a6)
  | _ => none
theorem back_column {l : List (V Un)} {x : Column} (h : dec_column l = some x) : enc .column x = l := by
  unfold dec_column at h
  split at h
  · simp only [Option.bind_eq_some_iff, Option.some.injEq] at h
    obtain ⟨a0, h0, a1, h1, a2, h2, a3, h3, a4, h4, a5, h5, a6, h6, rfl⟩ := h
    rw [int_of h0, int_of h1, lst_of h2, lst_of h3, int_of h4, int_of h5, int_of h6]
    rfl
  · simp at h
def dec_term : List (V Un) → Option (Term)
  | [c0, c1, c2, c3, c4, c5, c6, c7, c8, c9] => (int? c0).bind fun a0 => (int? c1).bind fun a1 => (int? c2).bind fun a2 => (str? c3).bind fun a3 => (int? c4).bind fun a4 => (int? c5).bind fun a5 => (str? c6).bind fun a6 => (lst? .term c7).bind fun a7 => (lst? .rel c8).bind fun a8 => (int? c9).bind fun a9 => some (Term.mk a0 (Val.mk a1 a2 a3) a4 a5 a6 a7 a8 a9)
  | _ => none
theorem back_term {l : List (V Un)} {x : Term} (h : dec_term l = some x) : enc .term x = l := by
  unfold dec_term at h
  split at h
  · simp only [Option.bind_eq_some_iff, Option.some.injEq] at h
    obtain ⟨a0, h0, a1, h1, a2, h2, a3, h3, a4, h4, a5, h5, a6, h6, a7, h7, a8, h8, a9, h9, rfl⟩ := h
    rw [int_of h0, int_of h1, int_of h2, str_of h3, int_of h4, int_of h5, str_of h6, lst_of h7, lst_of h8, int_of h9]
    rfl
  · simp at h
def dec_agg : List (V Un) → Option (Agg)
  | [c0, c1, c2] => (str? c0).bind fun a0 => (bool? c1).bind fun a1 => (lst? .term c2).bind fun a2 => some (Agg.mk a0 a1 a2)
  | _ => none
theorem back_agg {l : List (V Un)} {x : Agg} (h : dec_agg l = some x) : enc .agg x = l := by
  unfold dec_agg at h
  split at h
  · simp only [Option.bind_eq_some_iff, Option.some.injEq] at h
    obtain ⟨a0, h0, a1, h1, a2, h2, rfl⟩ := h
    rw [str_of h0, bool_of h1, lst_of h2]
    rfl
  · simp at h
def dec_rel : List (V Un) → Option (Rel)
  | [c0, c1, c2, c3, c4, c5, c6, c7, c8, c9, c10] => (int? c0).bind fun a0 => (str? c1).bind fun a1 => (lst? .col c2).bind fun a2 => (lst? .rel c3).bind fun a3 => (lst? .term c4).bind fun a4 => (lst? .agg c5).bind fun a5 => (lst? .by_ c6).bind fun a6 => (int? c7).bind fun a7 => (int? c8).bind fun a8 => (bool? c9).bind fun a9 => (lst? .row c10).bind fun a10 => some (Rel.mk a0 a1 a2 a3 a4 a5 a6 a7 a8 a9 a10)
  | _ => none
theorem back_rel {l : List (V Un)} {x : Rel} (h : dec_rel l = some x) : enc .rel x = l := by
  unfold dec_rel at h
  split at h
  · simp only [Option.bind_eq_some_iff, Option.some.injEq] at h
    obtain ⟨a0, h0, a1, h1, a2, h2, a3, h3, a4, h4, a5, h5, a6, h6, a7, h7, a8, h8, a9, h9, a10, h10, rfl⟩ := h
    rw [int_of h0, str_of h1, lst_of h2, lst_of h3, lst_of h4, lst_of h5, lst_of h6, int_of h7, int_of h8, bool_of h9, lst_of h10]
    rfl
  · simp at h
def dec_plan : List (V Un) → Option (Plan)
  | [c0, c1, c2, c3, c4, c5, c6, c7, c8, c9, c10, c11, c12, c13, c14, c15, c16, c17, c18, c19, c20, c21, c22] => (int? c0).bind fun a0 => (str? c1).bind fun a1 => (str? c2).bind fun a2 => (lst? .col c3).bind fun a3 => (lst? .plan c4).bind fun a4 => (lst? .term c5).bind fun a5 => (lst? .term c6).bind fun a6 => (lst? .term c7).bind fun a7 => (lst? .agg c8).bind fun a8 => (lst? .by_ c9).bind fun a9 => (lst? .int c10).bind fun a10 => (bool? c11).bind fun a11 => (bool? c12).bind fun a12 => (lst? .val c13).bind fun a13 => (bool? c14).bind fun a14 => (bool? c15).bind fun a15 => (lst? .val c16).bind fun a16 => (int? c17).bind fun a17 => (int? c18).bind fun a18 => (bool? c19).bind fun a19 => (lst? .row c20).bind fun a20 => (int? c21).bind fun a21 => (int? c22).bind fun a22 => some (Plan.mk a0 a1 a2 a3 a4 a5 a6 a7 a8 a9 a10 (Bound.mk a11 a12 a13) (Bound.mk a14 a15 a16) a17 a18 a19 a20 a21 a22)
  | _ => none
theorem back_plan {l : List (V Un)} {x : Plan} (h : dec_plan l = some x) : enc .plan x = l := by
  unfold dec_plan at h
  split at h
  · simp only [Option.bind_eq_some_iff, Option.some.injEq] at h
    obtain ⟨a0, h0, a1, h1, a2, h2, a3, h3, a4, h4, a5, h5, a6, h6, a7, h7, a8, h8, a9, h9, a10, h10, a11, h11, a12, h12, a13, h13, a14, h14, a15, h15, a16, h16, a17, h17, a18, h18, a19, h19, a20, h20, a21, h21, a22, h22, rfl⟩ := h
    rw [int_of h0, str_of h1, str_of h2, lst_of h3, lst_of h4, lst_of h5, lst_of h6, lst_of h7, lst_of h8, lst_of h9, lst_of h10, bool_of h11, bool_of h12, lst_of h13, bool_of h14, bool_of h15, lst_of h16, int_of h17, int_of h18, bool_of h19, lst_of h20, int_of h21, int_of h22]
    rfl
  · simp at h
def dec_span : List (V Un) → Option (Span)
  | [c0, c1, c2, c3, c4, c5, c6, c7, c8] => (lst? .val c0).bind fun a0 => (bool? c1).bind fun a1 => (bool? c2).bind fun a2 => (lst? .val c3).bind fun a3 => (bool? c4).bind fun a4 => (bool? c5).bind fun a5 => (lst? .val c6).bind fun a6 => (int? c7).bind fun a7 => (lst? .term c8).bind fun a8 => some (Span.mk a0 (Bound.mk a1 a2 a3) (Bound.mk a4 a5 a6) a7 a8)
  | _ => none
theorem back_span {l : List (V Un)} {x : Span} (h : dec_span l = some x) : enc .span x = l := by
  unfold dec_span at h
  split at h
  · simp only [Option.bind_eq_some_iff, Option.some.injEq] at h
    obtain ⟨a0, h0, a1, h1, a2, h2, a3, h3, a4, h4, a5, h5, a6, h6, a7, h7, a8, h8, rfl⟩ := h
    rw [lst_of h0, bool_of h1, bool_of h2, lst_of h3, bool_of h4, bool_of h5, lst_of h6, int_of h7, lst_of h8]
    rfl
  · simp at h
def dec : (τ : Ty) → List (V Un) → Option (Den τ)
  | .int => dec_int
  | .str => dec_str
  | .row => dec_row
  | .ints => dec_ints
  | .pair => dec_pair
  | .val => dec_val
  | .col => dec_col
  | .by_ => dec_by_
  | .bound => dec_bound
  | .often => dec_often
  | .colStat => dec_colStat
  | .data => dec_data
  | .acc => dec_acc
  | .stat => dec_stat
  | .column => dec_column
  | .term => dec_term
  | .agg => dec_agg
  | .rel => dec_rel
  | .plan => dec_plan
  | .span => dec_span
theorem enc_len : ∀ τ x, (enc τ x).length = sz τ := by intro τ x; cases τ <;> rfl
theorem enc_back : ∀ τ cs x, dec τ cs = some x → enc τ x = cs := by
  intro τ cs x h
  cases τ with
  | int => exact back_int h
  | str => exact back_str h
  | row => exact back_row h
  | ints => exact back_ints h
  | pair => exact back_pair h
  | val => exact back_val h
  | col => exact back_col h
  | by_ => exact back_by_ h
  | bound => exact back_bound h
  | often => exact back_often h
  | colStat => exact back_colStat h
  | data => exact back_data h
  | acc => exact back_acc h
  | stat => exact back_stat h
  | column => exact back_column h
  | term => exact back_term h
  | agg => exact back_agg h
  | rel => exact back_rel h
  | plan => exact back_plan h
  | span => exact back_span h
def En : Enc Un := ⟨enc, dec, enc_len, enc_back⟩
def encC (τ : Ty) (x : Den τ) : List (C Un) := (enc τ x).map C.ofV
abbrev WI (n : Int) : Prop := -9223372036854775808 ≤ n ∧ n ≤ 9223372036854775807
abbrev WK (k : IntKind) (n : Int) : Prop := k.min ≤ n ∧ n ≤ k.max
abbrev WStr (s : ByteArray) : Prop := s.size ≤ 9223372036854775807
def WL (τ : Ty) (l : List (Den τ)) : Prop := VWf En (.dat (U := Un) τ l)
def WS (τ : Ty) (x : Den τ) : Prop := ∀ d ∈ enc τ x, VWf En d
theorem vwf_ci (n : Int) : VWf En (ci n) ↔ WI n := ⟨fun h => by cases h with | s _ h => exact of_decide_eq_true h, fun h => .s _ (decide_eq_true h)⟩
theorem vwf_cb (b : Bool) : VWf En (cb b) ↔ True := ⟨fun _ => trivial, fun _ => .s _ rfl⟩
theorem vwf_cs (s : ByteArray) : VWf En (cs s) ↔ WStr s := ⟨fun h => by cases h with | s _ h => exact of_decide_eq_true h, fun h => .s _ (decide_eq_true h)⟩
theorem vwf_dat (τ : Ty) (l : List (Den τ)) : VWf En (.dat (U := Un) τ l) ↔ WL τ l := Iff.rfl
theorem WL_iff (τ : Ty) (l : List (Den τ)) : WL τ l ↔ l.length ≤ 9223372036854775807 ∧ ∀ x ∈ l, WS τ x := by
  refine ⟨fun h => ?_, fun h => .dat (U := Un) τ l h.1 fun i hi j d hd => h.2 _ (List.getElem_mem hi) _ (List.mem_of_getElem? hd)⟩
  cases h with
  | dat _ _ h1 h2 =>
    refine ⟨h1, fun x hx d hd => ?_⟩
    obtain ⟨i, hi, rfl⟩ := List.getElem_of_mem hx
    obtain ⟨j, hj⟩ := List.getElem?_of_mem hd
    exact h2 i hi j d hj
theorem WL.len {τ : Ty} {l : List (Den τ)} (h : WL τ l) : l.length ≤ 9223372036854775807 := ((WL_iff τ l).1 h).1
theorem WL.get {τ : Ty} {l : List (Den τ)} (h : WL τ l) {x : Den τ} (hx : x ∈ l) : WS τ x := ((WL_iff τ l).1 h).2 x hx
theorem WL.nil {τ : Ty} : WL τ [] := (WL_iff τ []).2 ⟨by simp, by simp⟩
theorem WL.sub {τ : Ty} {l r : List (Den τ)} (h : WL τ l) (hs : r.length ≤ l.length) (hm : ∀ x ∈ r, x ∈ l) : WL τ r := (WL_iff τ r).2 ⟨Nat.le_trans hs h.len, fun x hx => h.get (hm x hx)⟩
theorem WL.drop {τ : Ty} {l : List (Den τ)} (h : WL τ l) (n : Nat) : WL τ (l.drop n) := h.sub (by simp) fun _ hx => List.mem_of_mem_drop hx
theorem WL.take {τ : Ty} {l : List (Den τ)} (h : WL τ l) (n : Nat) : WL τ (l.take n) := h.sub (by simp; omega) fun _ hx => List.mem_of_mem_take hx
theorem WL.at {τ : Ty} {l : List (Den τ)} (h : WL τ l) {i : Nat} (hi : i < l.length) : WS τ (l.getD i (dflt τ)) := by rw [List.getD_eq_getElem?_getD, List.getElem?_eq_getElem hi]; exact h.get (List.getElem_mem hi)
theorem WS_val (x : Val) : WS .val x ↔ (WI x.kind) ∧ (WI x.n) ∧ (WStr x.s) := by
  show (∀ d ∈ [ci x.kind, ci x.n, cs x.s], VWf En d) ↔ _
  simp only [List.forall_mem_cons, List.not_mem_nil, false_implies, implies_true, vwf_ci, vwf_cb, vwf_cs, vwf_dat, and_true, true_and]
theorem WS_term (x : Term) : WS .term x ↔ (WI x.op) ∧ (WI x.v.kind) ∧ (WI x.v.n) ∧ (WStr x.v.s) ∧ (WI x.depth) ∧ (WI x.at_) ∧ (WStr x.name) ∧ (WL .term x.kids) ∧ (WL .rel x.sub) ∧ (WI x.type) := by
  show (∀ d ∈ [ci x.op, ci x.v.kind, ci x.v.n, cs x.v.s, ci x.depth, ci x.at_, cs x.name, .dat (U := Un) Ty.term x.kids, .dat (U := Un) Ty.rel x.sub, ci x.type], VWf En d) ↔ _
  simp only [List.forall_mem_cons, List.not_mem_nil, false_implies, implies_true, vwf_ci, vwf_cb, vwf_cs, vwf_dat, and_true, true_and]
theorem WS_agg (x : Agg) : WS .agg x ↔ (WStr x.name) ∧ (WL .term x.t) := by
  show (∀ d ∈ [cs x.name, cb x.distinct, .dat (U := Un) Ty.term x.t], VWf En d) ↔ _
  simp only [List.forall_mem_cons, List.not_mem_nil, false_implies, implies_true, vwf_ci, vwf_cb, vwf_cs, vwf_dat, and_true, true_and]
theorem WS_rel (x : Rel) : WS .rel x ↔ (WI x.op) ∧ (WStr x.table) ∧ (WL .col x.cols) ∧ (WL .rel x.kids) ∧ (WL .term x.terms) ∧ (WL .agg x.aggs) ∧ (WL .by_ x.keys) ∧ (WI x.limit) ∧ (WI x.skip) ∧ (WL .row x.rows) := by
  show (∀ d ∈ [ci x.op, cs x.table, .dat (U := Un) Ty.col x.cols, .dat (U := Un) Ty.rel x.kids, .dat (U := Un) Ty.term x.terms, .dat (U := Un) Ty.agg x.aggs, .dat (U := Un) Ty.by_ x.keys, ci x.limit, ci x.skip, cb x.all, .dat (U := Un) Ty.row x.rows], VWf En d) ↔ _
  simp only [List.forall_mem_cons, List.not_mem_nil, false_implies, implies_true, vwf_ci, vwf_cb, vwf_cs, vwf_dat, and_true, true_and]
theorem WS.val_n {x : Val} (h : WS .val x) : WI x.n := ((WS_val x).1 h).2.1
theorem WS.term_depth {x : Term} (h : WS .term x) : WI x.depth := ((WS_term x).1 h).2.2.2.2.1
theorem WS.term_kids {x : Term} (h : WS .term x) : WL .term x.kids := ((WS_term x).1 h).2.2.2.2.2.2.2.1
theorem WS.term_sub {x : Term} (h : WS .term x) : WL .rel x.sub := ((WS_term x).1 h).2.2.2.2.2.2.2.2.1
theorem WS.agg_t {x : Agg} (h : WS .agg x) : WL .term x.t := ((WS_agg x).1 h).2
theorem WS.rel_kids {x : Rel} (h : WS .rel x) : WL .rel x.kids := ((WS_rel x).1 h).2.2.2.1
theorem WS.rel_terms {x : Rel} (h : WS .rel x) : WL .term x.terms := ((WS_rel x).1 h).2.2.2.2.1
theorem WS.rel_aggs {x : Rel} (h : WS .rel x) : WL .agg x.aggs := ((WS_rel x).1 h).2.2.2.2.2.1
end Go.Proofs.YtmpnompddfhkeaaGreat.B
namespace Go.Proofs.YtmpnompddfhkeaaGreat.B
open Go
def tab : List (TypeId × TI Un) := [(1, .one),
  (2, .int .i64),
  (3, .int .i64),
  (4, .bool),
  (5, .int .u8),
  (6, .int .u8),
  (7, .st [(0, 1, false), (1, 1, false), (2, 1, false), (3, 1, false)] 4),
  (8, .st [(0, 1, false), (1, 1, false), (2, 1, false), (3, 1, false)] 4),
  (9, .str),
  (10, .str),
  (11, .str),
  (12, .int .u64),
  (13, .st [(0, 1, false), (1, 1, false)] 2),
  (14, .st [(0, 1, false), (1, 1, false)] 2),
  (15, .one),
  (16, .one),
  (17, .one),
  (18, .st [(0, 1, false)] 1),
  (19, .st [(0, 1, false)] 1),
  (21, .int .i32),
  (22, .sl 68 Ty.col 40),
  (23, .sl 29 Ty.rel 192),
  (24, .sl 49 Ty.term 128),
  (25, .sl 59 Ty.agg 48),
  (26, .sl 64 Ty.by_ 16),
  (27, .sl 55 Ty.row 24),
  (28, .st [(0, 1, false), (1, 1, false), (2, 1, false), (3, 1, false), (4, 1, false), (5, 1, false), (6, 1, false), (7, 1, false), (8, 1, false), (9, 1, false), (10, 1, false)] 11),
  (29, .st [(0, 1, false), (1, 1, false), (2, 1, false), (3, 1, false), (4, 1, false), (5, 1, false), (6, 1, false), (7, 1, false), (8, 1, false), (9, 1, false), (10, 1, false)] 11),
  (30, .one),
  (31, .one),
  (33, .one),
  (34, .one),
  (35, .one),
  (36, .one),
  (37, .sl 3 Ty.int 8),
  (39, .one),
  (40, .one),
  (41, .one),
  (42, .one),
  (43, .one),
  (44, .one),
  (45, .one),
  (46, .st [(0, 1, false), (1, 1, false), (2, 1, false)] 3),
  (47, .st [(0, 1, false), (1, 1, false), (2, 1, false)] 3),
  (48, .st [(0, 1, false), (1, 3, true), (4, 1, false), (5, 1, false), (6, 1, false), (7, 1, false), (8, 1, false), (9, 1, false)] 10),
  (49, .st [(0, 1, false), (1, 3, true), (4, 1, false), (5, 1, false), (6, 1, false), (7, 1, false), (8, 1, false), (9, 1, false)] 10),
  (50, .one),
  (51, .one),
  (52, .one),
  (53, .one),
  (54, .sl 47 Ty.val 32),
  (55, .sl 47 Ty.val 32),
  (56, .one),
  (57, .one),
  (58, .st [(0, 1, false), (1, 1, false), (2, 1, false)] 3),
  (59, .st [(0, 1, false), (1, 1, false), (2, 1, false)] 3),
  (60, .one),
  (61, .one),
  (62, .one),
  (63, .st [(0, 1, false), (1, 1, false)] 2),
  (64, .st [(0, 1, false), (1, 1, false)] 2),
  (65, .one),
  (66, .one),
  (67, .st [(0, 1, false), (1, 1, false), (2, 1, false)] 3),
  (68, .st [(0, 1, false), (1, 1, false), (2, 1, false)] 3),
  (69, .sl 73 Ty.pair 16),
  (70, .one),
  (71, .one),
  (72, .one),
  (73, .ar 2 1 false),
  (74, .one),
  (75, .one),
  (76, .one),
  (77, .one),
  (78, .one),
  (79, .one),
  (80, .one),
  (81, .one),
  (82, .one),
  (83, .one),
  (84, .one),
  (85, .one),
  (86, .one),
  (87, .one),
  (89, .one),
  (90, .one),
  (91, .one),
  (92, .one),
  (93, .one),
  (94, .one),
  (95, .one),
  (96, .one),
  (97, .one),
  (98, .one),
  (99, .one),
  (100, .one),
  (101, .one),
  (102, .one),
  (103, .one),
  (104, .one),
  (105, .one),
  (106, .one),
  (107, .one),
  (108, .one),
  (109, .one),
  (111, .one),
  (112, .one),
  (113, .one),
  (114, .one),
  (115, .sl 9 Ty.str 16),
  (116, .one),
  (117, .one),
  (118, .one),
  (119, .one),
  (120, .one),
  (121, .one),
  (122, .one),
  (123, .one),
  (124, .one),
  (125, .one),
  (126, .one),
  (127, .one),
  (128, .one),
  (129, .one),
  (130, .one),
  (131, .one),
  (132, .one),
  (133, .one),
  (134, .one),
  (135, .one),
  (136, .one),
  (137, .one),
  (138, .one),
  (139, .one),
  (140, .one),
  (141, .one),
  (142, .one),
  (143, .one),
  (144, .one),
  (145, .one),
  (146, .one),
  (147, .one),
  (148, .one),
  (149, .one),
  (150, .one),
  (151, .one),
  (152, .one),
  (153, .one),
  (154, .one),
  (155, .one),
  (156, .one),
  (157, .one),
  (158, .one),
  (159, .one),
  (160, .int .u64),
  (162, .one),
  (164, .one),
  (165, .one),
  (166, .one),
  (167, .one),
  (168, .int .i64),
  (170, .one),
  (171, .one),
  (173, .one),
  (174, .one),
  (175, .int .u32),
  (176, .one),
  (177, .int .u64),
  (178, .one),
  (179, .one),
  (180, .int .u64),
  (181, .one),
  (182, .one),
  (183, .one),
  (184, .one),
  (185, .one),
  (186, .one),
  (188, .one),
  (189, .one),
  (190, .st [(0, 1, false), (1, 1, false), (2, 1, false), (3, 1, false)] 4),
  (191, .st [(0, 1, false), (1, 1, false), (2, 1, false), (3, 1, false)] 4),
  (192, .ar 0 1 false),
  (195, .one),
  (196, .int .u8),
  (197, .int .u8),
  (198, .one),
  (199, .one),
  (200, .int .i32),
  (201, .int .i32),
  (202, .st [(0, 1, false), (1, 1, false), (2, 1, false), (3, 1, false), (4, 1, false), (5, 1, false), (6, 1, false), (7, 1, false), (8, 1, false), (9, 1, false), (10, 1, false)] 11),
  (203, .st [(0, 1, false), (1, 1, false), (2, 1, false), (3, 1, false), (4, 1, false), (5, 1, false), (6, 1, false), (7, 1, false), (8, 1, false), (9, 1, false), (10, 1, false)] 11)]
def zeros : List (TypeId × List (C Un)) := [(1, [.s .nilFunc]),
  (2, [.s (.int .i64 0)]),
  (3, [.s (.int .i64 0)]),
  (4, [.s (.bool false)]),
  (5, [.s (.int .u8 0)]),
  (6, [.s (.int .u8 0)]),
  (7, [.s (.int .i64 0), .s (.int .i64 0), .s (.bool false), .s (.int .u8 0)]),
  (8, [.s (.int .i64 0), .s (.int .i64 0), .s (.bool false), .s (.int .u8 0)]),
  (9, [.s (.string ⟨#[]⟩)]),
  (10, [.s (.string ⟨#[]⟩)]),
  (11, [.s (.string ⟨#[]⟩)]),
  (12, [.s (.int .u64 0)]),
  (13, [.s (.string ⟨#[]⟩), .s (.int .u64 0)]),
  (14, [.s (.string ⟨#[]⟩), .s (.int .u64 0)]),
  (21, [.s (.int .i32 0)]),
  (22, [.sl (U := Un) Ty.col [] true]),
  (23, [.sl (U := Un) Ty.rel [] true]),
  (24, [.sl (U := Un) Ty.term [] true]),
  (25, [.sl (U := Un) Ty.agg [] true]),
  (26, [.sl (U := Un) Ty.by_ [] true]),
  (27, [.sl (U := Un) Ty.row [] true]),
  (28, [.s (.int .i64 0), .s (.string ⟨#[]⟩), .sl (U := Un) Ty.col [] true, .sl (U := Un) Ty.rel [] true, .sl (U := Un) Ty.term [] true, .sl (U := Un) Ty.agg [] true, .sl (U := Un) Ty.by_ [] true, .s (.int .i64 0), .s (.int .i64 0), .s (.bool false), .sl (U := Un) Ty.row [] true]),
  (29, [.s (.int .i64 0), .s (.string ⟨#[]⟩), .sl (U := Un) Ty.col [] true, .sl (U := Un) Ty.rel [] true, .sl (U := Un) Ty.term [] true, .sl (U := Un) Ty.agg [] true, .sl (U := Un) Ty.by_ [] true, .s (.int .i64 0), .s (.int .i64 0), .s (.bool false), .sl (U := Un) Ty.row [] true]),
  (30, [.s .nilFunc]),
  (31, [.s .nilFunc]),
  (33, [.s .nilFunc]),
  (34, [.s .nilFunc]),
  (35, [.s .nilFunc]),
  (36, [.s .nilFunc]),
  (37, [.sl (U := Un) Ty.int [] true]),
  (39, [.s .nilFunc]),
  (40, [.s .nilFunc]),
  (41, [.s .nilFunc]),
  (42, [.s .nilFunc]),
  (43, [.s .nilFunc]),
  (44, [.s .nilFunc]),
  (45, [.s .nilFunc]),
  (46, [.s (.int .i64 0), .s (.int .i64 0), .s (.string ⟨#[]⟩)]),
  (47, [.s (.int .i64 0), .s (.int .i64 0), .s (.string ⟨#[]⟩)]),
  (48, [.s (.int .i64 0), .s (.int .i64 0), .s (.int .i64 0), .s (.string ⟨#[]⟩), .s (.int .i64 0), .s (.int .i64 0), .s (.string ⟨#[]⟩), .sl (U := Un) Ty.term [] true, .sl (U := Un) Ty.rel [] true, .s (.int .i64 0)]),
  (49, [.s (.int .i64 0), .s (.int .i64 0), .s (.int .i64 0), .s (.string ⟨#[]⟩), .s (.int .i64 0), .s (.int .i64 0), .s (.string ⟨#[]⟩), .sl (U := Un) Ty.term [] true, .sl (U := Un) Ty.rel [] true, .s (.int .i64 0)]),
  (50, [.s .nilFunc]),
  (51, [.s .nilFunc]),
  (52, [.s .nilFunc]),
  (53, [.s .nilFunc]),
  (54, [.sl (U := Un) Ty.val [] true]),
  (55, [.sl (U := Un) Ty.val [] true]),
  (56, [.s .nilFunc]),
  (57, [.s .nilFunc]),
  (58, [.s (.string ⟨#[]⟩), .s (.bool false), .sl (U := Un) Ty.term [] true]),
  (59, [.s (.string ⟨#[]⟩), .s (.bool false), .sl (U := Un) Ty.term [] true]),
  (60, [.s .nilFunc]),
  (61, [.s .nilFunc]),
  (62, [.s .nilFunc]),
  (63, [.s (.int .i64 0), .s (.bool false)]),
  (64, [.s (.int .i64 0), .s (.bool false)]),
  (65, [.s .nilFunc]),
  (66, [.s .nilFunc]),
  (67, [.s (.string ⟨#[]⟩), .s (.string ⟨#[]⟩), .s (.int .i64 0)]),
  (68, [.s (.string ⟨#[]⟩), .s (.string ⟨#[]⟩), .s (.int .i64 0)]),
  (69, [.sl (U := Un) Ty.pair [] true]),
  (70, [.s .nilFunc]),
  (71, [.s .nilFunc]),
  (72, [.s .nilFunc]),
  (73, [.s (.int .i64 0), .s (.int .i64 0)]),
  (74, [.s .nilFunc]),
  (75, [.s .nilFunc]),
  (76, [.s .nilFunc]),
  (77, [.s .nilFunc]),
  (78, [.s .nilFunc]),
  (79, [.s .nilFunc]),
  (80, [.s .nilFunc]),
  (81, [.s .nilFunc]),
  (82, [.s .nilFunc]),
  (83, [.s .nilFunc]),
  (84, [.s .nilFunc]),
  (85, [.s .nilFunc]),
  (86, [.s .nilFunc]),
  (87, [.s .nilFunc]),
  (89, [.s .nilFunc]),
  (90, [.s .nilFunc]),
  (91, [.s .nilFunc]),
  (92, [.s .nilFunc]),
  (93, [.s .nilFunc]),
  (94, [.s .nilFunc]),
  (95, [.s .nilFunc]),
  (96, [.s .nilFunc]),
  (97, [.s .nilFunc]),
  (98, [.s .nilFunc]),
  (99, [.s .nilFunc]),
  (100, [.s .nilFunc]),
  (101, [.s .nilFunc]),
  (102, [.s .nilFunc]),
  (103, [.s .nilFunc]),
  (104, [.s .nilFunc]),
  (105, [.s .nilFunc]),
  (106, [.s .nilFunc]),
  (107, [.s .nilFunc]),
  (108, [.s .nilFunc]),
  (109, [.s .nilFunc]),
  (111, [.s .nilFunc]),
  (112, [.s .nilFunc]),
  (113, [.s .nilFunc]),
  (114, [.s .nilFunc]),
  (115, [.sl (U := Un) Ty.str [] true]),
  (116, [.s .nilFunc]),
  (117, [.s .nilFunc]),
  (118, [.s .nilFunc]),
  (119, [.s .nilFunc]),
  (120, [.s .nilFunc]),
  (121, [.s .nilFunc]),
  (122, [.s .nilFunc]),
  (123, [.s .nilFunc]),
  (124, [.s .nilFunc]),
  (125, [.s .nilFunc]),
  (126, [.s .nilFunc]),
  (127, [.s .nilFunc]),
  (128, [.s .nilFunc]),
  (129, [.s .nilFunc]),
  (130, [.s .nilFunc]),
  (131, [.s .nilFunc]),
  (132, [.s .nilFunc]),
  (133, [.s .nilFunc]),
  (134, [.s .nilFunc]),
  (135, [.s .nilFunc]),
  (136, [.s .nilFunc]),
  (137, [.s .nilFunc]),
  (138, [.s .nilFunc]),
  (139, [.s .nilFunc]),
  (140, [.s .nilFunc]),
  (141, [.s .nilFunc]),
  (142, [.s .nilFunc]),
  (143, [.s .nilFunc]),
  (144, [.s .nilFunc]),
  (145, [.s .nilFunc]),
  (146, [.s .nilFunc]),
  (147, [.s .nilFunc]),
  (148, [.s .nilFunc]),
  (149, [.s .nilFunc]),
  (150, [.s .nilFunc]),
  (151, [.s .nilFunc]),
  (152, [.s .nilFunc]),
  (153, [.s .nilFunc]),
  (154, [.s .nilFunc]),
  (155, [.s .nilFunc]),
  (156, [.s .nilFunc]),
  (157, [.s .nilFunc]),
  (158, [.s .nilFunc]),
  (159, [.s .nilFunc]),
  (160, [.s (.int .u64 0)]),
  (162, [.s .nilFunc]),
  (164, [.s .nilFunc]),
  (165, [.s .nilFunc]),
  (166, [.s .nilFunc]),
  (167, [.s .nilFunc]),
  (168, [.s (.int .i64 0)]),
  (170, [.s .nilFunc]),
  (171, [.s .nilFunc]),
  (173, [.s .nilFunc]),
  (174, [.s .nilFunc]),
  (175, [.s (.int .u32 0)]),
  (176, [.s .nilFunc]),
  (177, [.s (.int .u64 0)]),
  (178, [.s .nilFunc]),
  (179, [.s .nilFunc]),
  (180, [.s (.int .u64 0)]),
  (181, [.s .nilFunc]),
  (182, [.s .nilFunc]),
  (183, [.s .nilFunc]),
  (185, [.s .nilFunc]),
  (188, [.s .nilFunc]),
  (189, [.s .nilFunc]),
  (195, [.s .nilFunc]),
  (196, [.s (.int .u8 0)]),
  (197, [.s (.int .u8 0)]),
  (198, [.s .nilFunc]),
  (200, [.s (.int .i32 0)]),
  (201, [.s (.int .i32 0)])]
def eqs : List (TypeId × List EK) := [(47, [.int .i64, .int .i64, .str]), (64, [.int .i64, .bool]), (68, [.str, .str, .int .i64]), (73, [.int .i64, .int .i64])]
def mach (fns : FuncId → Option (FnC Un)) (fvs : FuncId → Option (FV Un)) (clo : FuncId → Option (List (List (DC Un)) → Option (FV Un))) (gns : FuncId → Option (List Bool × FnG Un)) (ups : FuncId → Option (FnU Un)) : Mc Un := ⟨En, tab, zeros, fns, fvs, clo, gns, eqs, ups⟩
theorem tabOK (fns : FuncId → Option (FnC Un)) (fvs : FuncId → Option (FV Un)) (clo : FuncId → Option (List (List (DC Un)) → Option (FV Un))) (gns : FuncId → Option (List Bool × FnG Un)) (ups : FuncId → Option (FnU Un)) : TabOK Tryz.prog (mach fns fvs clo gns ups) := tab_of (by kernel_rfl)
theorem mixed : Tryz.prog.follows .mixedOrders = true := by kernel_rfl
end Go.Proofs.YtmpnompddfhkeaaGreat.B
namespace Go.Proofs.YtmpnompddfhkeaaGreat.B
open Go Go.RowKit
variable {U : Uni} {P : Program} {M : Mc U}
theorem entryG_sim {E : Enc U} {n x : Nat} {w : World} {g : G} {vs : List Value} {args : List (A U)} {bs : List (Bool × List (C U))} {os : List (Ob U)} (hp : Part P E g w bs os) (hvs : All2 (ARel P E g (os.map some) w) vs args) :
    Sim P E ⟨w, g.mine, g.St, bs.length, g.β⟩ g (entryG n x args bs os) { tmps := vs.toArray ++ Array.replicate (n - vs.toArray.size) undef, defers := [] } w := by
  generalize hm : 4 * (bs.length + n) + x - os.length = m
  have hg : GLe g (os.map some) w g (os.map some ++ List.replicate m none) w := by
    refine ⟨Keeps.refl _ _, fun _ hl => ⟨hl, rfl⟩, fun k o hk => ⟨o, ?_, Nat.le_refl _, fun _ => ⟨rfl, rfl, rfl⟩⟩⟩
    rw [List.getElem?_append_left (List.getElem?_eq_some_iff.1 hk).1]; exact hk
  have hlen := hvs.length
  refine { ext := ⟨rfl, rfl, rfl, Nat.le_refl _, fun _ _ _ => rfl, fun _ _ _ _ => rfl, fun _ _ _ _ => rfl⟩, tms := ?_, bxs := ?_, lbs := ?_, obs := ?_, own := ?_, dfr := rfl, fix := fun _ _ _ => rfl, bas := Nat.le_refl _ }
  · show All2 _ (vs.toArray ++ Array.replicate (n - vs.toArray.size) undef).toList (args.map AV.one ++ List.replicate (n - args.length) (.one .top))
    have e : (vs.toArray ++ Array.replicate (n - vs.toArray.size) undef).toList = vs ++ List.replicate (n - vs.length) undef := by simp
    rw [e, hlen]
    refine All2.append (All2.map_right AV.one (fun _ _ hh => ?_) hvs) ?_
    · show ARel P E g (os.map some ++ List.replicate (4 * (bs.length + n) + x - os.length) none) w _ _
      rw [hm]; exact ARel.mono hg hh
    · generalize n - args.length = q
      induction q with
      | zero => trivial
      | succ q ih => exact ⟨trivial, ih⟩
  · intro k fz cells hk
    have hk' : (bs.map some ++ List.replicate n (none : Option (Bool × List (C U))))[k]? = some (some (fz, cells)) := hk
    rcases Nat.lt_or_ge k bs.length with hlt | hge
    · rw [List.getElem?_append_left (by simpa using hlt), List.getElem?_map, List.getElem?_eq_getElem hlt] at hk'
      simp at hk'
      obtain ⟨hl, hb⟩ := hp.bxs k fz cells (by rw [List.getElem?_eq_getElem hlt, hk'])
      refine ⟨hl, ?_⟩
      show BoxRel P E g (os.map some ++ List.replicate (4 * (bs.length + n) + x - os.length) none) w k fz cells
      rw [hm]
      exact hb.keep hl hg (fun b i hx => ⟨hx, rfl, rfl⟩)
    · rw [List.getElem?_append_right (by simpa using hge), List.getElem?_replicate] at hk'
      split at hk' <;> simp at hk'
  · intro k hl
    have hlt := hp.lbs k hl
    refine ⟨bs[k], ?_⟩
    show (bs.map some ++ List.replicate n (none : Option (Bool × List (C U))))[k]? = _
    rw [List.getElem?_append_left (by simpa using hlt), List.getElem?_map, List.getElem?_eq_getElem hlt]; rfl
  · intro k o hk
    have hk' : (os.map some ++ List.replicate (4 * (bs.length + n) + x - os.length) (none : Option (Ob U)))[k]? = some (some o) := hk
    rcases Nat.lt_or_ge k os.length with hlt | hge
    · rw [List.getElem?_append_left (by simpa using hlt), List.getElem?_map, List.getElem?_eq_getElem hlt] at hk'
      simp at hk'
      exact (hp.obs k o (by rw [List.getElem?_eq_getElem hlt, hk'])).1
    · rw [List.getElem?_append_right (by simpa using hge), List.getElem?_replicate] at hk'
      split at hk' <;> simp at hk'
  · intro b o y hy
    refine ⟨hp.own b o y hy, ?_⟩
    cases y with
    | st => exact .inr (.inr ⟨rfl, hy⟩)
    | box k => exact .inr (.inl ⟨_, by simp, hy⟩)
    | obj k => exact .inr (.inl ⟨_, by simp, hy⟩)
theorem unC_rel {R : Value → A U → Prop} {R' : Value → C U → Prop} (hR : ∀ v x, R v (.c x) → R' v x) : ∀ {us : List Value} {l : List (A U)} {cs : List (C U)}, unC l = some cs → All2 R us l → All2 R' us cs
  | [], [], cs, h, _ => by simp [unC] at h; subst h; trivial
  | u :: us, x :: l, cs, h, hh => by
    cases x with
    | c c =>
      simp only [unC] at h
      split at h
      · rename_i r hr; simp at h; subst h; exact ⟨hR _ _ hh.1, unC_rel hR hr hh.2⟩
      · simp at h
    | _ => simp [unC] at h
theorem split_rel {R : Value → A U → Prop} {R' : Value → C U → Prop} (hR : ∀ v x, R v (.c x) → R' v x) {vs : List Value} : ∀ {bs : List (Bool × List (C U))} {vss : List (List Value)} {rs : List (A U)} {bs' : List (Bool × List (C U))} {rs' : List (A U)},
    splitB bs rs = some (bs', rs') → vss.length = bs.length → (∀ (i : Nat) us b, vss[i]? = some us → bs[i]? = some b → us.length = b.2.length) → All2 R (vss.flatten ++ vs) rs →
    All2 R vs rs' ∧ bs'.length = bs.length ∧ ∀ (i : Nat) b', bs'[i]? = some b' → ∃ b us, bs[i]? = some b ∧ vss[i]? = some us ∧ b'.1 = b.1 ∧ All2 R' us b'.2
  | [], vss, rs, bs', rs', h, hl, _, hh => by
    simp [splitB] at h; obtain ⟨rfl, rfl⟩ := h
    have : vss = [] := List.eq_nil_of_length_eq_zero (by simpa using hl)
    subst this
    exact ⟨by simpa using hh, rfl, fun i b' hb => by simp at hb⟩
  | b :: bs, [], rs, bs', rs', h, hl, _, hh => by simp at hl
  | b :: bs, us :: vss, rs, bs', rs', h, hl, hlen, hh => by
    simp only [splitB] at h
    split at h
    · rename_i cs bs2 r h1 h2
      simp at h; obtain ⟨rfl, rfl⟩ := h
      have hul : us.length = b.2.length := hlen 0 us b rfl rfl
      have ht := All2.take b.2.length hh
      have hd := All2.drop b.2.length hh
      rw [← hul] at ht hd
      simp only [List.flatten_cons, List.append_assoc, List.take_left, List.drop_left] at ht hd
      rw [hul] at ht hd
      obtain ⟨i1, i2, i3⟩ := split_rel hR h2 (by simpa using hl) (fun i u c hu hc => hlen (i + 1) u c (by simpa using hu) (by simpa using hc)) hd
      refine ⟨i1, by simp [i2], fun i b' hb => ?_⟩
      cases i with
      | zero => simp at hb; subst hb; exact ⟨b, us, rfl, rfl, rfl, unC_rel hR h1 ht⟩
      | succ i =>
        obtain ⟨c, u, j1, j2, j3⟩ := i3 i b' (by simpa using hb)
        exact ⟨c, u, by simpa using j1, by simpa using j2, j3⟩
    · simp at h
theorem boxes_vals {E : Enc U} {fr : Fr} {g : G} {s : S U} {a : Act} {w : World} (h : Sim P E fr g s a w) : ∀ {ks : List Nat} {bs : List (Bool × List (C U))}, s.boxesAt ks = some bs → ∃ vss : List (List Value), vss.length = bs.length ∧
    (∀ {vs : List Value} {al : List (A U)}, All2 (ARel P E g s.ob w) vs al → All2 (ARel P E g s.ob w) (vss.flatten ++ vs) (boxAs bs ++ al)) ∧
    ∀ (i k : Nat) us b, ks[i]? = some k → vss[i]? = some us → bs[i]? = some b → us.length = b.2.length ∧ ∀ (j : Nat) v, us[j]? = some v → w.cell? ⟨g.β k, j, none⟩ = some v ∧ (b.1 = false → stuck w ⟨g.β k, j, none⟩ = false)
  | [], bs, hb => by
    simp [S.boxesAt] at hb; subst hb
    exact ⟨[], rfl, fun hh => hh, fun i k us b hk => by simp at hk⟩
  | k :: ks, bs, hb => by
    simp only [S.boxesAt] at hb
    split at hb
    · rename_i b0 r h1 h2
      simp at hb; subst hb
      obtain ⟨vss, i1, i2, i3⟩ := boxes_vals h h2
      obtain ⟨_, us, hus, hcell⟩ := h.bxs k b0.1 b0.2 h1
      refine ⟨us :: vss, by simp [i1], fun {vs al} hh => ?_, fun i q u b hq hu hb => ?_⟩
      · simp only [List.flatten_cons, boxAs, List.append_assoc]
        exact All2.append (All2.map_right A.c (fun _ _ hx => hx) hus) (i2 hh)
      · cases i with
        | zero =>
          simp at hq hu hb; subst hq hu hb
          exact ⟨hus.length, fun j v hv => ⟨(hcell j v hv).1, fun hf => ((hcell j v hv).2.1 hf).1⟩⟩
        | succ i => exact i3 i q u b (by simpa using hq) (by simpa using hu) (by simpa using hb)
    · simp at hb
def CWf (E : Enc U) : C U → Prop
  | .s x => oneC x = true
  | .sl τ xs _ => VWf E (.dat τ xs)
  | .el τ xs i _ => VWf E (.dat τ xs) ∧ i < xs.length
  | _ => True
def AWf (E : Enc U) : A U → Prop
  | .c x => CWf E x
  | .agg cs => ∀ c ∈ cs, CWf E c
  | .top => True
theorem CRel.wf {E : Enc U} {g : G} {ob : List (Option (Ob U))} {w : World} {v : Value} {c : C U} (h : CRel P E g ob w v c) : CWf E c := by
  cases c with
  | s x => exact h.2
  | sl τ xs f => exact h.1.wf
  | el τ xs i off => obtain ⟨h1, b, o, cap, _, h2⟩ := h; exact ⟨h2.wf, h1⟩
  | _ => trivial
theorem ARel.wf {E : Enc U} {g : G} {ob : List (Option (Ob U))} {w : World} {v : Value} {a : A U} (h : ARel P E g ob w v a) : AWf E a := by
  cases a with
  | c x => exact CRel.wf h
  | agg cs => obtain ⟨arr, _, h2⟩ := h; exact fun c hc => (h2.mem c hc).elim fun _ hh => hh.wf
  | top => trivial
theorem BoxRel.wf {E : Enc U} {g : G} {ob : List (Option (Ob U))} {w : World} {k : Nat} {fz : Bool} {cells : List (C U)} (h : BoxRel P E g ob w k fz cells) : ∀ c ∈ cells, CWf E c := by
  obtain ⟨vs, h1, _⟩ := h
  exact fun c hc => (h1.mem c hc).elim fun _ hh => hh.wf
theorem ObRel.wf {E : Enc U} {g : G} {w : World} {k : Nat} {o : Ob U} (h : ObRel E g w k o) : VWf E (.dat o.τ o.xs) := by
  refine .dat _ _ h.1.1.2 fun i hi j d hd => ?_
  obtain ⟨b, off, cv, _, hA⟩ := h.2 (by have := h.1.1.1; omega)
  exact (hA.rel i hi j d hd).wf
theorem contract_ofG (hT : TabOK P M) (hF : FnsOK P M) (hm : P.follows .mixedOrders = true) {f : FuncId} {fn : Func} {body : Code} (hf : P.funcs[f]? = some fn) (hb : fn.body = some body) (N : Nat → NS) (x : Nat) (fm : List Kind) {args rs : List (A U)} {bs bs' : List (Bool × List (C U))} {os os' : List (Ob U)}
    (h0 : (∀ a ∈ args, AWf M.E a) → (∀ b ∈ bs, ∀ c ∈ b.2, CWf M.E c) → (∀ o ∈ os, VWf M.E (.dat o.τ o.xs) ∧ o.frozen ≤ o.xs.length) → awp M N body (entryG fn.ntmps x args bs os) (retGQ M bs.length fn.results.toList fm fun r b o => r = rs ∧ b = bs' ∧ o = os')) : GContract P M.E f args bs os rs bs' os' := by
  intro w g0 vs0 hp0 hvs0
  have hs0 := entryG_sim (n := fn.ntmps) (x := x) hp0 hvs0
  have h := h0 (fun a ha => (hvs0.mem a ha).elim fun _ hh => hh.wf)
    (fun b hb => by obtain ⟨i, hi⟩ := List.getElem?_of_mem hb; exact (hp0.bxs i b.1 b.2 hi).2.wf)
    (fun o ho => by
      obtain ⟨i, hi⟩ := List.getElem?_of_mem ho
      have hr := (hp0.obs i o hi).1
      refine ⟨hr.wf, ?_⟩
      unfold Ob.frozen; split
      · exact Nat.le_refl _
      · rename_i f hf; exact hr.1.2 f hf)
  refine calls_of_wp hf hb ?_
  refine awp_sound hT hF hm N body (Q := retGQ M bs.length fn.results.toList fm fun r b o => r = rs ∧ b = bs' ∧ o = os') ?_ hs0 h
  have fin : ∀ s g a w', retGK M bs.length fn.results.toList fm (fun r b o => r = rs ∧ b = bs' ∧ o = os') s → Sim P M.E ⟨w, g0.mine, g0.St, bs.length, g0.β⟩ g s a w' → a.defers = [] ∧ ∃ v, (results fn a.tmps).run P w' = .ok v w' ∧ ∃ v', Ending.returned v = .returned v' ∧ RetG P M.E g0 w w' v' rs bs' os' := by
    intro s g a w' hq hs'
    unfold retGK at hq
    split at hq
    · rename_i al bsS hal hbsS
      split at hq
      · rename_i rsA osA hout
        split at hq
        · rename_i bsR rsR hsplit
          obtain ⟨rfl, rfl, rfl⟩ := hq
          obtain ⟨v, hv, hvr⟩ := results_sound hT hs' hal
          refine ⟨hs'.dfr, v, hv, v, rfl, ?_⟩
          obtain ⟨vs, hall, hback⟩ := ret_all hvr
          obtain ⟨vss, hvl, happ, hcells⟩ := boxes_vals hs' hbsS
          obtain ⟨hbl, hbat⟩ := boxesAt_spec hbsS
          obtain ⟨hlr, gr, c1, c2, c3, c4, c5, c6, c7, c8⟩ := out_core hs' bs.length (happ hall) hout
          have hlenS : bsS.length = bs.length := by rw [hbl]; simp
          have hrange : ∀ i, i < bs.length → (List.range bs.length)[i]? = some i := fun i hi => by simp [hi]
          obtain ⟨d1, d2, d3⟩ := split_rel (R' := CRel P M.E gr (osA.map some) w') (fun _ _ hx => hx) hsplit hvl (fun i us b hu hb => by
            have hi : i < bs.length := by rw [← hlenS]; exact (List.getElem?_eq_some_iff.1 hb).1
            exact (hcells i i us b (hrange i hi) hu hb).1) c7
          refine ⟨gr, (by rw [d2, hlenS]; exact hs'.ext), ⟨fun k fz cells hk => ?_, fun k hk => ?_, c8, fun b o y hy => (c4 b o y hy).1⟩, fun k hk => ?_, fun b o y hb hy => ?_, hback ?_ d1⟩
          · have hkl : k < bs.length := by rw [← hlenS, ← d2]; exact (List.getElem?_eq_some_iff.1 hk).1
            obtain ⟨b, us, e1, e2, e3, e4⟩ := d3 k (fz, cells) hk
            obtain ⟨bx, f1, f2⟩ := hbat k k (hrange k hkl)
            rw [e1] at f2; simp at f2; subst f2
            obtain ⟨hul, hcell⟩ := hcells k k us b (hrange k hkl) e2 e1
            have hgl := (hs'.bxs k b.1 b.2 f1).1
            dsimp only at e3
            subst e3
            refine ⟨(c1 k).2 ⟨hkl, hgl⟩, us, e4, fun i u hu => ?_⟩
            have hi : i < b.2.length := by rw [← hul]; exact (List.getElem?_eq_some_iff.1 hu).1
            obtain ⟨q1, q2⟩ := c5 k b.1 b.2 i hkl f1 hi
            rw [c2 k hgl]
            exact ⟨(hcell i u hu).1, fun hf => ⟨(hcell i u hu).2 hf, q1 hf⟩, q2⟩
          · rw [d2, hlenS]; exact ((c1 k).1 hk).1
          · have hkl := hp0.lbs k hk
            obtain ⟨bx, f1, _⟩ := hbat k k (hrange k hkl)
            have hgl := (hs'.bxs k bx.1 bx.2 f1).1
            rw [c2 k hgl]; exact hs'.fix k hkl hgl
          · rcases (c4 b o y hy).2 with hh | hh | hh
            · have : w.heap.size ≤ b := hh
              omega
            · exact .inl hh
            · exact .inr hh
          · have hll : (vss.flatten ++ vs).length = rsA.length := c7.length
            have := hall.length
            have := d1.length
            omega
        · exact hq.elim
      · exact hq.elim
    · exact hq.elim
  intro e s g a w' hq hs'
  cases e with
  | normal => exact fin s g a w' hq hs'
  | ret => exact fin s g a w' hq hs'
  | _ => exact hq.elim
end Go.Proofs.YtmpnompddfhkeaaGreat.B
namespace Go.Proofs.YtmpnompddfhkeaaGreat.B
open Go Go.RowKit
def FnOK (f : FuncId) (F : FnC Un) : Prop := ∀ args ob rs os, F args = some (ob, rs, os) → (∀ p ∈ ob, p) → Contract Tryz.prog En f args rs os ∧ HasBody Tryz.prog f
def FvOK (f : FuncId) (φ : FV Un) : Prop := HasBody Tryz.prog f ∧ ∀ args ob rs, φ args = some (ob, rs) → (∀ p ∈ ob, p) → Contract0 Tryz.prog En f (args.map .d) rs
def ClOK (f : FuncId) (F : List (List (DC Un)) → Option (FV Un)) : Prop := HasBody Tryz.prog f ∧ ∀ dl φ args ob rs, F dl = some φ → φ args = some (ob, rs) → (∀ p ∈ ob, p) → Contract0 Tryz.prog En f (args.map .d ++ dl.map .box) rs
def GnOK (f : FuncId) (F : List Bool × FnG Un) : Prop := ∀ args bxs obs ob rs bxs' obs', F.2 args bxs obs = some (ob, rs, bxs', obs') → (∀ p ∈ ob, p) → GContract Tryz.prog En f args bxs obs rs bxs' obs' ∧ HasBody Tryz.prog f
def UpOK (f : FuncId) (F : FnU Un) : Prop := ∀ τ xs ds ob ys, F τ xs ds = some (ob, ys) → (∀ p ∈ ob, p) → UContract Tryz.prog En f τ xs ds ys ∧ HasBody Tryz.prog f
def AllL {α : Type} (R : Nat → α → Prop) : List (Nat × α) → Prop
  | [] => True
  | p :: r => R p.1 p.2 ∧ AllL R r
def tbl {α : Type} (l : List (Nat × α)) (f : Nat) : Option α := look f l
theorem AllL.look {α : Type} {R : Nat → α → Prop} {f : Nat} {x : α} : ∀ {l : List (Nat × α)}, AllL R l → tbl l f = some x → R f x
  | [], _, h => by simp [tbl, B.look] at h
  | (k, y) :: r, hl, h => by
    simp only [tbl, B.look] at h
    split at h
    · rename_i hb
      have := Nat.eq_of_beq_eq_true hb
      simp at h; subst this; subst h; exact hl.1
    · exact AllL.look hl.2 h
theorem tbl_ok {l1 : List (Nat × FnC Un)} {l2 : List (Nat × FV Un)} {l3 : List (Nat × (List (List (DC Un)) → Option (FV Un)))} {l4 : List (Nat × (List Bool × FnG Un))} {l5 : List (Nat × FnU Un)}
    (h1 : AllL FnOK l1) (h2 : AllL FvOK l2) (h3 : AllL ClOK l3) (h4 : AllL GnOK l4) (h5 : AllL UpOK l5) : FnsOK Tryz.prog (mach (tbl l1) (tbl l2) (tbl l3) (tbl l4) (tbl l5)) where
  ups := fun f F τ xs ds ob ys hf hF hob => h5.look hf τ xs ds ob ys hF hob
  gns := fun f ms F args bxs obs ob rs bxs' obs' hf hF hob => h4.look hf args bxs obs ob rs bxs' obs' hF hob
  fns := fun f F args ob rs os hf hF hob => h1.look hf args ob rs os hF hob
  fvb := fun f φ hf => (h2.look hf).1
  fvs := fun f φ args ob rs hf hF hob => (h2.look hf).2 args ob rs hF hob
  clb := fun f F hf => (h3.look hf).1
  clo := fun f F dl φ args ob rs hf hF hφ hob => (h3.look hf).2 dl φ args ob rs hF hφ hob
theorem hasBody_of {f : FuncId} {fn : Func} (hf : Tryz.prog.funcs[f]? = some fn) (hb : fn.body = some (bodyOf fn)) (hn : (fn.name == "runtime.NumGoroutine") = false) : HasBody Tryz.prog f := ⟨fn, _, hf, hb, hn⟩
structure Runs (p : Prop) : Prop where
  out : p
theorem fn_contract {M : Mc Un} {fns : FuncId → Option (FnC Un)} {fvs : FuncId → Option (FV Un)} {clo : FuncId → Option (List (List (DC Un)) → Option (FV Un))} {gns : FuncId → Option (List Bool × FnG Un)} {ups : FuncId → Option (FnU Un)} (hM : M = mach fns fvs clo gns ups) (hF : FnsOK Tryz.prog (mach fns fvs clo gns ups))
    {f : FuncId} {fn : Func} (hf : Tryz.prog.funcs[f]? = some fn) (hb : fn.body = some (bodyOf fn)) (N : Nat → NS) (x : Nat) (fm : List Kind) {args : List (D Un)} {rs : List (A Un)} {os : List (Ob Un)}
    (h : (∀ a ∈ args, DWf En a) → Runs (awp M N (bodyOf fn) (entry fn.ntmps x args) (retQ M fn.results.toList fm fun rs' os' => rs' = rs ∧ os' = os))) : Contract Tryz.prog En f args rs os := by
  subst hM
  exact contract_of (M := mach fns fvs clo gns ups) (tabOK fns fvs clo gns ups) hF mixed hf hb N x fm fun ha => (h ha).out
def dI (k : IntKind) : D Un → Option Int
  | .d (.v (.s (.int k' n))) => match decEq k' k with | .isTrue _ => some n | .isFalse _ => none
  | _ => none
def dB : D Un → Option Bool
  | .d (.v (.s (.bool b))) => some b
  | _ => none
def dStr : D Un → Option ByteArray
  | .d (.v (.s (.string b))) => some b
  | _ => none
def dL (τ : Ty) : D Un → Option (List (Den τ))
  | .d (.v (.dat τ' xs)) => match instDecidableEqTy τ' τ with | .isTrue h => some (h ▸ xs) | .isFalse _ => none
  | _ => none
def dS (τ : Ty) : D Un → Option (Den τ)
  | .d (.agg vs) => dec τ vs
  | _ => none
def dF : D Un → Option (FV Un)
  | .fn φ => some φ
  | _ => none
def fv_i_i64_to_b (p : Int → Bool) : FV Un := fun args => match args with
  | [x0] => (dI .i64 (.d x0)).bind fun a0 => some ([], [.v (cb (p a0))])
  | _ => none
def pf_i_i64_to_b (φ : FV Un) : Int → Bool := fun a0 => match φ [.v (.s (.int .i64 a0))] with
  | some (_, [.v (.s (.bool b))]) => b
  | _ => false
def fvo_S_val_to_b (o : Val → Prop) (p : Val → Bool) : FV Un := fun args => match args with
  | [x0] => (dS .val (.d x0)).bind fun a0 => some ([o a0], [.v (cb (p a0))])
  | _ => none
def po_S_val_to_b (φ : FV Un) : Val → Prop := fun a0 => match φ [.agg (enc Ty.val a0)] with
  | some ([q], _) => q
  | _ => False
def pf_S_val_to_b (φ : FV Un) : Val → Bool := fun a0 => match φ [.agg (enc Ty.val a0)] with
  | some (_, [.v (.s (.bool b))]) => b
  | _ => false
def fvo_L_val_L_val_to_b (o : (List Val) → (List Val) → Prop) (p : (List Val) → (List Val) → Bool) : FV Un := fun args => match args with
  | [x0, x1] => (dL .val (.d x0)).bind fun a0 => (dL .val (.d x1)).bind fun a1 => some ([o a0 a1], [.v (cb (p a0 a1))])
  | _ => none
def po_L_val_L_val_to_b (φ : FV Un) : (List Val) → (List Val) → Prop := fun a0 a1 => match φ [.v (.dat (U := Un) Ty.val a0), .v (.dat (U := Un) Ty.val a1)] with
  | some ([q], _) => q
  | _ => False
def pf_L_val_L_val_to_b (φ : FV Un) : (List Val) → (List Val) → Bool := fun a0 a1 => match φ [.v (.dat (U := Un) Ty.val a0), .v (.dat (U := Un) Ty.val a1)] with
  | some (_, [.v (.s (.bool b))]) => b
  | _ => false
def fv_i_i64_to_i_i64 (p : Int → Int) : FV Un := fun args => match args with
  | [x0] => (dI .i64 (.d x0)).bind fun a0 => some ([], [.v (.s (.int .i64 (p a0)))])
  | _ => none
def pf_i_i64_to_i_i64 (φ : FV Un) : Int → Int := fun a0 => match φ [.v (.s (.int .i64 a0))] with
  | some (_, [.v (.s (.int _ b))]) => b
  | _ => 0
def fvo_S_term_to_b (o : Term → Prop) (p : Term → Bool) : FV Un := fun args => match args with
  | [x0] => (dS .term (.d x0)).bind fun a0 => some ([o a0], [.v (cb (p a0))])
  | _ => none
def po_S_term_to_b (φ : FV Un) : Term → Prop := fun a0 => match φ [.agg (enc Ty.term a0)] with
  | some ([q], _) => q
  | _ => False
def pf_S_term_to_b (φ : FV Un) : Term → Bool := fun a0 => match φ [.agg (enc Ty.term a0)] with
  | some (_, [.v (.s (.bool b))]) => b
  | _ => false
def fvo_S_term_i_i64_to_S_term (o : Term → Int → Prop) (p : Term → Int → Term) : FV Un := fun args => match args with
  | [x0, x1] => (dS .term (.d x0)).bind fun a0 => (dI .i64 (.d x1)).bind fun a1 => some ([o a0 a1], [.agg (enc Ty.term (p a0 a1))])
  | _ => none
def po_S_term_i_i64_to_S_term (φ : FV Un) : Term → Int → Prop := fun a0 a1 => match φ [.agg (enc Ty.term a0), .v (.s (.int .i64 a1))] with
  | some ([q], _) => q
  | _ => False
def pf_S_term_i_i64_to_S_term (φ : FV Un) : Term → Int → Term := fun a0 a1 => match φ [.agg (enc Ty.term a0), .v (.s (.int .i64 a1))] with
  | some (_, [.agg b]) => ((dec .term b).getD (dflt .term))
  | _ => (dflt .term)
def fvo_S_term_S_term_to_b (o : Term → Term → Prop) (p : Term → Term → Bool) : FV Un := fun args => match args with
  | [x0, x1] => (dS .term (.d x0)).bind fun a0 => (dS .term (.d x1)).bind fun a1 => some ([o a0 a1], [.v (cb (p a0 a1))])
  | _ => none
def po_S_term_S_term_to_b (φ : FV Un) : Term → Term → Prop := fun a0 a1 => match φ [.agg (enc Ty.term a0), .agg (enc Ty.term a1)] with
  | some ([q], _) => q
  | _ => False
def pf_S_term_S_term_to_b (φ : FV Un) : Term → Term → Bool := fun a0 a1 => match φ [.agg (enc Ty.term a0), .agg (enc Ty.term a1)] with
  | some (_, [.v (.s (.bool b))]) => b
  | _ => false
def fvo_S_rel_S_rel_to_b (o : Rel → Rel → Prop) (p : Rel → Rel → Bool) : FV Un := fun args => match args with
  | [x0, x1] => (dS .rel (.d x0)).bind fun a0 => (dS .rel (.d x1)).bind fun a1 => some ([o a0 a1], [.v (cb (p a0 a1))])
  | _ => none
def po_S_rel_S_rel_to_b (φ : FV Un) : Rel → Rel → Prop := fun a0 a1 => match φ [.agg (enc Ty.rel a0), .agg (enc Ty.rel a1)] with
  | some ([q], _) => q
  | _ => False
def pf_S_rel_S_rel_to_b (φ : FV Un) : Rel → Rel → Bool := fun a0 a1 => match φ [.agg (enc Ty.rel a0), .agg (enc Ty.rel a1)] with
  | some (_, [.v (.s (.bool b))]) => b
  | _ => false
def fvo_S_agg_S_agg_to_b (o : Agg → Agg → Prop) (p : Agg → Agg → Bool) : FV Un := fun args => match args with
  | [x0, x1] => (dS .agg (.d x0)).bind fun a0 => (dS .agg (.d x1)).bind fun a1 => some ([o a0 a1], [.v (cb (p a0 a1))])
  | _ => none
def po_S_agg_S_agg_to_b (φ : FV Un) : Agg → Agg → Prop := fun a0 a1 => match φ [.agg (enc Ty.agg a0), .agg (enc Ty.agg a1)] with
  | some ([q], _) => q
  | _ => False
def pf_S_agg_S_agg_to_b (φ : FV Un) : Agg → Agg → Bool := fun a0 a1 => match φ [.agg (enc Ty.agg a0), .agg (enc Ty.agg a1)] with
  | some (_, [.v (.s (.bool b))]) => b
  | _ => false
def fvo_S_rel_to_b (o : Rel → Prop) (p : Rel → Bool) : FV Un := fun args => match args with
  | [x0] => (dS .rel (.d x0)).bind fun a0 => some ([o a0], [.v (cb (p a0))])
  | _ => none
def po_S_rel_to_b (φ : FV Un) : Rel → Prop := fun a0 => match φ [.agg (enc Ty.rel a0)] with
  | some ([q], _) => q
  | _ => False
def pf_S_rel_to_b (φ : FV Un) : Rel → Bool := fun a0 => match φ [.agg (enc Ty.rel a0)] with
  | some (_, [.v (.s (.bool b))]) => b
  | _ => false
def fvo_S_agg_to_b (o : Agg → Prop) (p : Agg → Bool) : FV Un := fun args => match args with
  | [x0] => (dS .agg (.d x0)).bind fun a0 => some ([o a0], [.v (cb (p a0))])
  | _ => none
def po_S_agg_to_b (φ : FV Un) : Agg → Prop := fun a0 => match φ [.agg (enc Ty.agg a0)] with
  | some ([q], _) => q
  | _ => False
def pf_S_agg_to_b (φ : FV Un) : Agg → Bool := fun a0 => match φ [.agg (enc Ty.agg a0)] with
  | some (_, [.v (.s (.bool b))]) => b
  | _ => false
def fvo_S_by__to_b (o : By → Prop) (p : By → Bool) : FV Un := fun args => match args with
  | [x0] => (dS .by_ (.d x0)).bind fun a0 => some ([o a0], [.v (cb (p a0))])
  | _ => none
def po_S_by__to_b (φ : FV Un) : By → Prop := fun a0 => match φ [.agg (enc Ty.by_ a0)] with
  | some ([q], _) => q
  | _ => False
def pf_S_by__to_b (φ : FV Un) : By → Bool := fun a0 => match φ [.agg (enc Ty.by_ a0)] with
  | some (_, [.v (.s (.bool b))]) => b
  | _ => false
def fvo_L_val_to_b (o : (List Val) → Prop) (p : (List Val) → Bool) : FV Un := fun args => match args with
  | [x0] => (dL .val (.d x0)).bind fun a0 => some ([o a0], [.v (cb (p a0))])
  | _ => none
def po_L_val_to_b (φ : FV Un) : (List Val) → Prop := fun a0 => match φ [.v (.dat (U := Un) Ty.val a0)] with
  | some ([q], _) => q
  | _ => False
def pf_L_val_to_b (φ : FV Un) : (List Val) → Bool := fun a0 => match φ [.v (.dat (U := Un) Ty.val a0)] with
  | some (_, [.v (.s (.bool b))]) => b
  | _ => false
def fvo_i_i64_i_i64_to_b (o : Int → Int → Prop) (p : Int → Int → Bool) : FV Un := fun args => match args with
  | [x0, x1] => (dI .i64 (.d x0)).bind fun a0 => (dI .i64 (.d x1)).bind fun a1 => some ([o a0 a1], [.v (cb (p a0 a1))])
  | _ => none
theorem dI_eq {k : IntKind} {a : D Un} {n : Int} (h : dI k a = some n) : a = .d (.v (.s (.int k n))) := by
  unfold dI at h; split at h
  · split at h
    · rename_i hh _; subst hh; simp at h; subst h; rfl
    · simp at h
  · simp at h
theorem dB_eq {a : D Un} {n : Bool} (h : dB a = some n) : a = .d (.v (cb n)) := by
  unfold dB at h; split at h
  · simp at h; subst h; rfl
  · simp at h
theorem dStr_eq {a : D Un} {n : ByteArray} (h : dStr a = some n) : a = .d (.v (cs n)) := by
  unfold dStr at h; split at h
  · simp at h; subst h; rfl
  · simp at h
theorem dL_eq {τ : Ty} {a : D Un} {l : List (Den τ)} (h : dL τ a = some l) : a = .d (.v (.dat (U := Un) τ l)) := by
  unfold dL at h; split at h
  · split at h
    · rename_i hh _; subst hh; simp at h; subst h; rfl
    · simp at h
  · simp at h
theorem dS_eq {τ : Ty} {a : D Un} {x : Den τ} (h : dS τ a = some x) : a = .d (.agg (enc τ x)) := by
  unfold dS at h; split at h
  · rw [enc_back _ _ _ h]
  · simp at h
theorem dF_eq {a : D Un} {φ : FV Un} (h : dF a = some φ) : a = .fn φ := by
  unfold dF at h; split at h
  · simp at h; subst h; rfl
  · simp at h
theorem dI_mk (k : IntKind) (n : Int) : dI k (.d (.v (.s (.int k n)))) = some n := by
  unfold dI; dsimp only; split
  · rfl
  · rename_i h _; exact absurd rfl h
theorem dL_mk (τ : Ty) (l : List (Den τ)) : dL τ (.d (.v (.dat (U := Un) τ l))) = some l := by
  unfold dL; dsimp only; split
  · rfl
  · rename_i h _; exact absurd rfl h
theorem dec_enc : ∀ (τ : Ty) (x : Den τ), dec τ (enc τ x) = some x := by
  intro τ x
  cases τ <;> first | rfl | (cases x; rfl)
theorem dSk_mk (τ : Ty) (x : Den τ) : dS τ (.d (.agg (enc τ x))) = some x := dec_enc τ x
theorem pfv_i_i64_to_b (p : Int → Bool) : pf_i_i64_to_b (fv_i_i64_to_b p) = p := by
  funext a0
  unfold pf_i_i64_to_b fv_i_i64_to_b
  simp only [dI_mk, Option.bind_some] <;> rfl
theorem pfv_i_i64_to_i_i64 (p : Int → Int) : pf_i_i64_to_i_i64 (fv_i_i64_to_i_i64 p) = p := by
  funext a0
  unfold pf_i_i64_to_i_i64 fv_i_i64_to_i_i64
  simp only [dI_mk, Option.bind_some] <;> rfl
theorem pffvo_S_val_to_b (o : Val → Prop) (p : Val → Bool) : pf_S_val_to_b (fvo_S_val_to_b o p) = p := by
  funext a0
  unfold pf_S_val_to_b fvo_S_val_to_b
  simp only [dSk_mk, Option.bind_some] <;> rfl
theorem pofvo_S_val_to_b (o : Val → Prop) (p : Val → Bool) : po_S_val_to_b (fvo_S_val_to_b o p) = o := by
  funext a0
  unfold po_S_val_to_b fvo_S_val_to_b
  simp only [dSk_mk, Option.bind_some] <;> rfl
theorem pffvo_L_val_L_val_to_b (o : (List Val) → (List Val) → Prop) (p : (List Val) → (List Val) → Bool) : pf_L_val_L_val_to_b (fvo_L_val_L_val_to_b o p) = p := by
  funext a0 a1
  unfold pf_L_val_L_val_to_b fvo_L_val_L_val_to_b
  simp only [dL_mk, Option.bind_some] <;> rfl
theorem pofvo_L_val_L_val_to_b (o : (List Val) → (List Val) → Prop) (p : (List Val) → (List Val) → Bool) : po_L_val_L_val_to_b (fvo_L_val_L_val_to_b o p) = o := by
  funext a0 a1
  unfold po_L_val_L_val_to_b fvo_L_val_L_val_to_b
  simp only [dL_mk, Option.bind_some] <;> rfl
theorem pffvo_S_term_to_b (o : Term → Prop) (p : Term → Bool) : pf_S_term_to_b (fvo_S_term_to_b o p) = p := by
  funext a0
  unfold pf_S_term_to_b fvo_S_term_to_b
  simp only [dSk_mk, Option.bind_some] <;> rfl
theorem pofvo_S_term_to_b (o : Term → Prop) (p : Term → Bool) : po_S_term_to_b (fvo_S_term_to_b o p) = o := by
  funext a0
  unfold po_S_term_to_b fvo_S_term_to_b
  simp only [dSk_mk, Option.bind_some] <;> rfl
theorem pffvo_S_term_i_i64_to_S_term (o : Term → Int → Prop) (p : Term → Int → Term) : pf_S_term_i_i64_to_S_term (fvo_S_term_i_i64_to_S_term o p) = p := by
  funext a0 a1
  unfold pf_S_term_i_i64_to_S_term fvo_S_term_i_i64_to_S_term
  simp only [dI_mk, dSk_mk, Option.bind_some, dec_enc, Option.getD_some] <;> rfl
theorem pofvo_S_term_i_i64_to_S_term (o : Term → Int → Prop) (p : Term → Int → Term) : po_S_term_i_i64_to_S_term (fvo_S_term_i_i64_to_S_term o p) = o := by
  funext a0 a1
  unfold po_S_term_i_i64_to_S_term fvo_S_term_i_i64_to_S_term
  simp only [dI_mk, dSk_mk, Option.bind_some] <;> rfl
theorem pffvo_S_term_S_term_to_b (o : Term → Term → Prop) (p : Term → Term → Bool) : pf_S_term_S_term_to_b (fvo_S_term_S_term_to_b o p) = p := by
  funext a0 a1
  unfold pf_S_term_S_term_to_b fvo_S_term_S_term_to_b
  simp only [dSk_mk, Option.bind_some] <;> rfl
theorem pofvo_S_term_S_term_to_b (o : Term → Term → Prop) (p : Term → Term → Bool) : po_S_term_S_term_to_b (fvo_S_term_S_term_to_b o p) = o := by
  funext a0 a1
  unfold po_S_term_S_term_to_b fvo_S_term_S_term_to_b
  simp only [dSk_mk, Option.bind_some] <;> rfl
theorem pffvo_S_rel_S_rel_to_b (o : Rel → Rel → Prop) (p : Rel → Rel → Bool) : pf_S_rel_S_rel_to_b (fvo_S_rel_S_rel_to_b o p) = p := by
  funext a0 a1
  unfold pf_S_rel_S_rel_to_b fvo_S_rel_S_rel_to_b
  simp only [dSk_mk, Option.bind_some] <;> rfl
theorem pofvo_S_rel_S_rel_to_b (o : Rel → Rel → Prop) (p : Rel → Rel → Bool) : po_S_rel_S_rel_to_b (fvo_S_rel_S_rel_to_b o p) = o := by
  funext a0 a1
  unfold po_S_rel_S_rel_to_b fvo_S_rel_S_rel_to_b
  simp only [dSk_mk, Option.bind_some] <;> rfl
theorem pffvo_S_agg_S_agg_to_b (o : Agg → Agg → Prop) (p : Agg → Agg → Bool) : pf_S_agg_S_agg_to_b (fvo_S_agg_S_agg_to_b o p) = p := by
  funext a0 a1
  unfold pf_S_agg_S_agg_to_b fvo_S_agg_S_agg_to_b
  simp only [dSk_mk, Option.bind_some] <;> rfl
theorem pofvo_S_agg_S_agg_to_b (o : Agg → Agg → Prop) (p : Agg → Agg → Bool) : po_S_agg_S_agg_to_b (fvo_S_agg_S_agg_to_b o p) = o := by
  funext a0 a1
  unfold po_S_agg_S_agg_to_b fvo_S_agg_S_agg_to_b
  simp only [dSk_mk, Option.bind_some] <;> rfl
theorem pffvo_S_rel_to_b (o : Rel → Prop) (p : Rel → Bool) : pf_S_rel_to_b (fvo_S_rel_to_b o p) = p := by
  funext a0
  unfold pf_S_rel_to_b fvo_S_rel_to_b
  simp only [dSk_mk, Option.bind_some] <;> rfl
theorem pofvo_S_rel_to_b (o : Rel → Prop) (p : Rel → Bool) : po_S_rel_to_b (fvo_S_rel_to_b o p) = o := by
  funext a0
  unfold po_S_rel_to_b fvo_S_rel_to_b
  simp only [dSk_mk, Option.bind_some] <;> rfl
theorem pffvo_S_agg_to_b (o : Agg → Prop) (p : Agg → Bool) : pf_S_agg_to_b (fvo_S_agg_to_b o p) = p := by
  funext a0
  unfold pf_S_agg_to_b fvo_S_agg_to_b
  simp only [dSk_mk, Option.bind_some] <;> rfl
theorem pofvo_S_agg_to_b (o : Agg → Prop) (p : Agg → Bool) : po_S_agg_to_b (fvo_S_agg_to_b o p) = o := by
  funext a0
  unfold po_S_agg_to_b fvo_S_agg_to_b
  simp only [dSk_mk, Option.bind_some] <;> rfl
theorem pffvo_S_by__to_b (o : By → Prop) (p : By → Bool) : pf_S_by__to_b (fvo_S_by__to_b o p) = p := by
  funext a0
  unfold pf_S_by__to_b fvo_S_by__to_b
  simp only [dSk_mk, Option.bind_some] <;> rfl
theorem pofvo_S_by__to_b (o : By → Prop) (p : By → Bool) : po_S_by__to_b (fvo_S_by__to_b o p) = o := by
  funext a0
  unfold po_S_by__to_b fvo_S_by__to_b
  simp only [dSk_mk, Option.bind_some] <;> rfl
theorem pffvo_L_val_to_b (o : (List Val) → Prop) (p : (List Val) → Bool) : pf_L_val_to_b (fvo_L_val_to_b o p) = p := by
  funext a0
  unfold pf_L_val_to_b fvo_L_val_to_b
  simp only [dL_mk, Option.bind_some] <;> rfl
theorem pofvo_L_val_to_b (o : (List Val) → Prop) (p : (List Val) → Bool) : po_L_val_to_b (fvo_L_val_to_b o p) = o := by
  funext a0
  unfold po_L_val_to_b fvo_L_val_to_b
  simp only [dL_mk, Option.bind_some] <;> rfl
class WArg (a : D Un) (P : outParam Prop) : Prop where
  of : DWf En a → P
instance {k : IntKind} {n : Int} : WArg (.d (.v (.s (.int k n)))) (WK k n) := ⟨fun h => by cases h with | s _ h => exact of_decide_eq_true h⟩
instance {s : ByteArray} : WArg (.d (.v (cs s))) (WStr s) := ⟨fun h => (vwf_cs s).1 h⟩
instance {τ : Ty} {l : List (Den τ)} : WArg (.d (.v (.dat (U := Un) τ l))) (WL τ l) := ⟨fun h => h⟩
instance {τ : Ty} {x : Den τ} : WArg (.d (.agg (enc τ x))) (WS τ x) := ⟨fun h => h⟩
theorem wfArg {args : List (D Un)} (h : ∀ a ∈ args, DWf En a) {a : D Un} {P : Prop} [w : WArg a P] (ha : a ∈ args) : P := w.of (h a ha)
noncomputable instance : DecidableEq (FV Un) := fun _ _ => Classical.propDecidable _
def bI (k : IntKind) : List (DC Un) → Option Int
  | [.v (.s (.int k' n))] => match decEq k' k with | .isTrue _ => some n | .isFalse _ => none
  | _ => none
def bB : List (DC Un) → Option Bool
  | [.v (.s (.bool b))] => some b
  | _ => none
def bL (τ : Ty) : List (DC Un) → Option (List (Den τ))
  | [.v (.dat τ' xs)] => match instDecidableEqTy τ' τ with | .isTrue h => some (h ▸ xs) | .isFalse _ => none
  | _ => none
def bVs : List (DC Un) → Option (List (V Un))
  | [] => some []
  | .v x :: r => match bVs r with | some l => some (x :: l) | none => none
  | _ => none
def bS (τ : Ty) (cs : List (DC Un)) : Option (Den τ) := (bVs cs).bind (dec τ)
def bF : List (DC Un) → Option (FV Un)
  | [.fn φ] => some φ
  | _ => none
theorem bI_eq {k : IntKind} {a : List (DC Un)} {n : Int} (h : bI k a = some n) : a = [.v (.s (.int k n))] := by
  unfold bI at h; split at h
  · split at h
    · rename_i hh _; subst hh; simp at h; subst h; rfl
    · simp at h
  · simp at h
theorem bB_eq {a : List (DC Un)} {n : Bool} (h : bB a = some n) : a = [.v (cb n)] := by
  unfold bB at h; split at h
  · simp at h; subst h; rfl
  · simp at h
theorem bL_eq {τ : Ty} {a : List (DC Un)} {l : List (Den τ)} (h : bL τ a = some l) : a = [.v (.dat (U := Un) τ l)] := by
  unfold bL at h; split at h
  · split at h
    · rename_i hh _; subst hh; simp at h; subst h; rfl
    · simp at h
  · simp at h
theorem bVs_eq : ∀ {cs : List (DC Un)} {vs : List (V Un)}, bVs cs = some vs → cs = vs.map .v
  | [], vs, h => by simp [bVs] at h; subst h; rfl
  | .v x :: r, vs, h => by
    simp only [bVs] at h
    split at h
    · rename_i l hl; simp at h; subst h; rw [bVs_eq hl]; rfl
    · simp at h
  | .fn _ :: _, vs, h => by simp [bVs] at h
theorem bS_eq {τ : Ty} {a : List (DC Un)} {x : Den τ} (h : bS τ a = some x) : a = (enc τ x).map .v := by
  unfold bS at h
  rw [Option.bind_eq_some_iff] at h
  obtain ⟨vs, h1, h2⟩ := h
  rw [bVs_eq h1, enc_back _ _ _ h2]
theorem bF_eq {a : List (DC Un)} {φ : FV Un} (h : bF a = some φ) : a = [.fn φ] := by
  unfold bF at h; split at h
  · simp at h; subst h; rfl
  · simp at h
instance {k : IntKind} {n : Int} : WArg (.box [.v (.s (.int k n))]) (WK k n) := ⟨fun h => by cases h _ (by simp : DC.v (.s (.int k n)) ∈ _) with | s _ h => exact of_decide_eq_true h⟩
instance {s : ByteArray} : WArg (.box [.v (cs s)]) (WStr s) := ⟨fun h => (vwf_cs s).1 (h _ (by simp : DC.v (cs s) ∈ _))⟩
instance {τ : Ty} {l : List (Den τ)} : WArg (.box [.v (.dat (U := Un) τ l)]) (WL τ l) := ⟨fun h => h _ (by simp : DC.v (V.dat (U := Un) τ l) ∈ _)⟩
instance {τ : Ty} {x : Den τ} : WArg (.box ((enc τ x).map .v)) (WS τ x) := ⟨fun h d hd => h _ (List.mem_map_of_mem hd : DC.v d ∈ _)⟩
def aI (k : IntKind) : A Un → Option Int
  | .c (.s (.int k' n)) => match decEq k' k with | .isTrue _ => some n | .isFalse _ => none
  | _ => none
def aL (τ : Ty) : A Un → Option (List (Den τ))
  | .c (.sl τ' xs false) => match instDecidableEqTy τ' τ with | .isTrue h => some (h ▸ xs) | .isFalse _ => none
  | _ => none
def cV0 : C Un → Option (V Un)
  | .s x => some (.s x)
  | .sl τ xs false => some (.dat τ xs)
  | _ => none
def cVs : List (C Un) → Option (List (V Un))
  | [] => some []
  | c :: cs => match cV0 c, cVs cs with | some v, some vs => some (v :: vs) | _, _ => none
def aS (τ : Ty) : A Un → Option (Den τ)
  | .agg cs => (cVs cs).bind (dec τ)
  | _ => none
def oL (τ : Ty) (o : Ob Un) : Option (List (Den τ)) :=
  match Nat.beq o.ver 0, o.live with
  | true, true => match instDecidableEqTy o.τ τ with | .isTrue h => some (h ▸ o.xs) | .isFalse _ => none
  | _, _ => none
def oM (τ : Ty) (o : Ob Un) : Option (List (Den τ)) :=
  match o.fr with
  | some 0 => oL τ o
  | _ => none
theorem aI_eq {k : IntKind} {a : A Un} {n : Int} (h : aI k a = some n) : a = .c (.s (.int k n)) := by
  unfold aI at h; split at h
  · split at h
    · rename_i hh _; subst hh; simp at h; subst h; rfl
    · simp at h
  · simp at h
theorem aL_eq {τ : Ty} {a : A Un} {l : List (Den τ)} (h : aL τ a = some l) : a = .c (.sl (U := Un) τ l false) := by
  unfold aL at h; split at h
  · split at h
    · rename_i hh _; subst hh; simp at h; subst h; rfl
    · simp at h
  · simp at h
theorem cVs_eq : ∀ {cs : List (C Un)} {vs : List (V Un)}, cVs cs = some vs → cs = vs.map C.ofV
  | [], vs, h => by simp [cVs] at h; subst h; rfl
  | c :: cs, vs, h => by
    simp only [cVs] at h
    split at h
    · rename_i v r h1 h2
      simp at h; subst h
      rw [cVs_eq h2]
      unfold cV0 at h1
      split at h1
      · simp at h1; subst h1; rfl
      · simp at h1; subst h1; rfl
      · simp at h1
    · simp at h
theorem aS_eq {τ : Ty} {a : A Un} {x : Den τ} (h : aS τ a = some x) : a = .agg (encC τ x) := by
  unfold aS at h; split at h
  · rw [Option.bind_eq_some_iff] at h
    obtain ⟨vs, h1, h2⟩ := h
    rw [cVs_eq h1, encC, enc_back _ _ _ h2]
  · simp at h
theorem oL_eq {τ : Ty} {o : Ob Un} {l : List (Den τ)} (h : oL τ o = some l) : o = ⟨0, τ, l, o.fr, true⟩ := by
  obtain ⟨ver, τ', xs, fr, live⟩ := o
  cases hv : Nat.beq ver 0 with
  | false => simp [oL, hv] at h
  | true =>
    cases live with
    | false => simp [oL, hv] at h
    | true =>
      simp only [oL, hv] at h
      have := Nat.eq_of_beq_eq_true hv
      subst this
      split at h
      · rename_i hh _; subst hh; simp at h; subst h; rfl
      · simp at h
theorem oM_eq {τ : Ty} {o : Ob Un} {l : List (Den τ)} (h : oM τ o = some l) : o = ⟨0, τ, l, some 0, true⟩ := by
  unfold oM at h
  split at h
  · rename_i hf
    have := oL_eq h
    rw [hf] at this; exact this
  · simp at h
class WArgA (a : A Un) (P : outParam Prop) : Prop where
  of : AWf En a → P
instance {k : IntKind} {n : Int} : WArgA (.c (.s (.int k n))) (WK k n) := ⟨fun h => of_decide_eq_true h⟩
instance {s : ByteArray} : WArgA (.c (.s (.string s))) (WStr s) := ⟨fun h => of_decide_eq_true h⟩
instance {τ : Ty} {l : List (Den τ)} {f : Bool} : WArgA (.c (.sl (U := Un) τ l f)) (WL τ l) := ⟨fun h => h⟩
instance {τ : Ty} {x : Den τ} : WArgA (.agg (encC τ x)) (WS τ x) := ⟨fun h d hd => by
  have := h (C.ofV d) (List.mem_map_of_mem hd)
  cases d with
  | s y => exact .s _ this
  | dat τ' xs => exact this⟩
theorem wfArgA {args : List (A Un)} (h : ∀ a ∈ args, AWf En a) {a : A Un} {P : Prop} [w : WArgA a P] (ha : a ∈ args) : P := w.of (h a ha)
def frz (fr : Option Nat) (n : Nat) : Nat := match fr with | none => n | some j => j
theorem wfObs {os : List (Ob Un)} (h : ∀ o ∈ os, VWf En (.dat o.τ o.xs) ∧ o.frozen ≤ o.xs.length) {τ : Ty} {l : List (Den τ)} {fr : Option Nat} (ho : (⟨0, τ, l, fr, true⟩ : Ob Un) ∈ os) : WL τ l := (h _ ho).1
theorem gn_contract {M : Mc Un} {fns : FuncId → Option (FnC Un)} {fvs : FuncId → Option (FV Un)} {clo : FuncId → Option (List (List (DC Un)) → Option (FV Un))} {gns : FuncId → Option (List Bool × FnG Un)} {ups : FuncId → Option (FnU Un)} (hM : M = mach fns fvs clo gns ups) {nb : Nat} {bs : List (Bool × List (C Un))} (hn : nb = bs.length) (hF : FnsOK Tryz.prog (mach fns fvs clo gns ups))
    {f : FuncId} {fn : Func} (hf : Tryz.prog.funcs[f]? = some fn) (hb : fn.body = some (bodyOf fn)) (N : Nat → NS) (x : Nat) (fm : List Kind) {args rs : List (A Un)} {bs' : List (Bool × List (C Un))} {os os' : List (Ob Un)}
    (h : (∀ a ∈ args, AWf En a) → (∀ b ∈ bs, ∀ c ∈ b.2, CWf En c) → (∀ o ∈ os, VWf En (.dat o.τ o.xs) ∧ o.frozen ≤ o.xs.length) → Runs (awp M N (bodyOf fn) (entryG fn.ntmps x args bs os) (retGQ M nb fn.results.toList fm fun r b o => r = rs ∧ b = bs' ∧ o = os'))) : GContract Tryz.prog En f args bs os rs bs' os' := by
  subst hM; subst hn
  exact contract_ofG (M := mach fns fvs clo gns ups) (tabOK fns fvs clo gns ups) hF mixed hf hb N x fm fun h1 h2 h3 => (h h1 h2 h3).out
theorem All2.weak {g : G} {ob : List (Option (Ob Un))} {w : World} : ∀ {vs : List Value} {cs : List (C Un)}, All2 (CRel Tryz.prog En g ob w) vs cs → All2 (CRel Tryz.prog En g ob w) vs (cs.map C.weak)
  | [], [], _ => trivial
  | v :: vs, c :: cs, h => ⟨by
      have h0 := h.1
      cases c with
      | sl τ xs f => exact ⟨h0.1, fun hf => by simp at hf⟩
      | _ => exact h0, All2.weak h.2⟩
theorem GContract.weak {f : FuncId} {args rs : List (A Un)} {bs bs' : List (Bool × List (C Un))} {os os' : List (Ob Un)} (h : GContract Tryz.prog En f args (bs.map fun b => (b.1, b.2.map C.weak)) os rs bs' os') : GContract Tryz.prog En f args bs os rs bs' os' := by
  intro w g vs hp hvs
  refine h w g vs ⟨fun k fz cells hk => ?_, fun k hk => by simpa using hp.lbs k hk, hp.obs, hp.own⟩ hvs
  rw [List.getElem?_map] at hk
  cases hb : bs[k]? with
  | none => rw [hb] at hk; simp at hk
  | some b =>
    rw [hb] at hk; simp at hk; obtain ⟨rfl, rfl⟩ := hk
    obtain ⟨h1, us, h2, h3⟩ := hp.bxs k b.1 b.2 hb
    exact ⟨h1, us, h2.weak, h3⟩
theorem itersK_mk {U : Uni} {n : NS} {body : S U → (Exit → S U → Prop) → Prop} {Q : Exit → S U → Prop} {s : S U} (k : Nat) (h : iterK n body Q k s) : itersK n body Q s := ⟨k, h⟩
theorem itersK_get {U : Uni} {n : NS} {body : S U → (Exit → S U → Prop) → Prop} {Q : Exit → S U → Prop} {s : S U} (h : itersK n body Q s) : ∃ k, iterK n body Q k s := h
theorem mpr {a b : Prop} (h : a = b) (x : b) : a := h ▸ x
theorem ite_some {α : Type} {c : Prop} [Decidable c] {x y : Option α} {r : α} (h : (if c then x else y) = some r) : (c ∧ x = some r) ∨ (¬ c ∧ y = some r) := by
  split at h
  · exact .inl ⟨by assumption, h⟩
  · exact .inr ⟨by assumption, h⟩
theorem ob_some {α : Type} {c : Prop} [Decidable c] {x : Option α} {r : α} (h : (if c then x else none) = some r) : c ∧ x = some r := by
  split at h
  · exact ⟨by assumption, h⟩
  · simp at h
theorem bind_some {α β : Type} {x : Option α} {f : α → Option β} {r : β} (h : (x >>= f) = some r) : ∃ o, x = some o ∧ f o = some r := by
  cases x with
  | none => simp at h
  | some o => exact ⟨o, rfl, h⟩
theorem bfalse {b : Bool} (h : ¬ b = true) : b = false := by cases b <;> simp_all
theorem cnd_t {b : Bool} {X Y : Prop} (h : b = true) (x : X) : cnd b X Y := by subst h; exact x
theorem cnd_f {b : Bool} {X Y : Prop} (h : b = false) (y : Y) : cnd b X Y := by subst h; exact y
theorem wrap_id {n : Int} (h : -9223372036854775808 ≤ n ∧ n ≤ 9223372036854775807) : IntKind.i64.wrap n = n := IntWalk.i64_in n h
theorem wrap_succ {i n : Nat} (h : i < n) (hn : n ≤ 9223372036854775807) : IntKind.i64.wrap ((i : Int) + 1) = ((i + 1 : Nat) : Int) := by
  rw [wrap_id (by omega)]; omega
theorem drop_cons {α : Type} {l r : List α} {x : α} {i : Nat} (h : l.drop i = x :: r) : i < l.length ∧ (∀ d, l.getD i d = x) ∧ l.drop (i + 1) = r ∧ x ∈ l := by
  have hi : i < l.length := by
    rcases Nat.lt_or_ge i l.length with h1 | h1
    · exact h1
    · rw [List.drop_of_length_le h1] at h; simp at h
  rw [List.drop_eq_getElem_cons hi] at h
  simp only [List.cons.injEq] at h
  obtain ⟨rfl, rfl⟩ := h
  exact ⟨hi, fun d => by rw [List.getD_eq_getElem?_getD, List.getElem?_eq_getElem hi]; rfl, rfl, List.getElem_mem hi⟩
theorem drop_len {α : Type} {l r : List α} {i : Nat} (h : l.drop i = r) : r.length = l.length - i := by rw [← h]; simp
def iterS {V R : Type} (step : V → Option (V ⊕ R)) : Nat → V → Option R
  | 0, _ => none
  | n + 1, v => match step v with
    | none => none
    | some (.inl v') => iterS step n v'
    | some (.inr r) => some r
open Classical in
noncomputable def loopO {V R : Type} (step : V → Option (V ⊕ R)) (v : V) : Option R :=
  if h : ∃ n r, iterS step n v = some r then some (Classical.choose (Classical.choose_spec h)) else none
theorem iterS_more {V R : Type} {step : V → Option (V ⊕ R)} : ∀ {n : Nat} {v : V} {r : R}, iterS step n v = some r → ∀ m, n ≤ m → iterS step m v = some r
  | 0, v, r, h, _, _ => by simp [iterS] at h
  | n + 1, v, r, h, m, hm => by
    obtain ⟨m', rfl⟩ : ∃ m', m = m' + 1 := ⟨m - 1, by omega⟩
    simp only [iterS] at h ⊢
    cases hs : step v with
    | none => rw [hs] at h; simp at h
    | some o =>
      rw [hs] at h
      cases o with
      | inl v' => exact iterS_more (n := n) h m' (by omega)
      | inr r' => exact h
theorem loopO_iff {V R : Type} {step : V → Option (V ⊕ R)} {v : V} {r : R} : loopO step v = some r ↔ ∃ n, iterS step n v = some r := by
  constructor
  · intro h
    unfold loopO at h
    split at h
    · rename_i hh
      have := Classical.choose_spec (Classical.choose_spec hh)
      simp only [Option.some.injEq] at h
      rw [h] at this
      exact ⟨_, this⟩
    · simp at h
  · rintro ⟨n, hn⟩
    have hh : ∃ n r, iterS step n v = some r := ⟨n, r, hn⟩
    unfold loopO
    rw [dif_pos hh]
    have h1 := Classical.choose_spec (Classical.choose_spec hh)
    have h2 := iterS_more h1 (max (Classical.choose hh) n) (Nat.le_max_left _ _)
    have h3 := iterS_more hn (max (Classical.choose hh) n) (Nat.le_max_right _ _)
    rw [h2] at h3
    exact h3
def stepB {V R : Type} (f : V → Option R) : Option (V ⊕ R) → Option R
  | none => none
  | some (.inl v) => f v
  | some (.inr r) => some r
@[simp] theorem stepB_none {V R : Type} (f : V → Option R) : stepB f (none : Option (V ⊕ R)) = none := rfl
@[simp] theorem stepB_inl {V R : Type} (f : V → Option R) (v : V) : stepB f (some (.inl v) : Option (V ⊕ R)) = f v := rfl
@[simp] theorem stepB_inr {V R : Type} (f : V → Option R) (r : R) : stepB f (some (.inr r) : Option (V ⊕ R)) = some r := rfl
theorem loopO_eq {V R : Type} (step : V → Option (V ⊕ R)) (v : V) : loopO step v = stepB (loopO step) (step v) := by
  have key : ∀ r, loopO step v = some r ↔ stepB (loopO step) (step v) = some r := by
    intro r
    rw [loopO_iff]
    cases hs : step v with
    | none =>
      refine ⟨fun ⟨n, hn⟩ => ?_, fun h => by simp at h⟩
      cases n with
      | zero => simp [iterS] at hn
      | succ n => simp [iterS, hs] at hn
    | some o =>
      cases o with
      | inl v' =>
        rw [stepB_inl, loopO_iff]
        refine ⟨fun ⟨n, hn⟩ => ?_, fun ⟨n, hn⟩ => ⟨n + 1, by simp only [iterS, hs]; exact hn⟩⟩
        cases n with
        | zero => simp [iterS] at hn
        | succ n => exact ⟨n, by simpa only [iterS, hs] using hn⟩
      | inr r' =>
        rw [stepB_inr]
        refine ⟨fun ⟨n, hn⟩ => ?_, fun h => ⟨1, by simp only [iterS, hs]; exact h⟩⟩
        cases n with
        | zero => simp [iterS] at hn
        | succ n => simpa only [iterS, hs] using hn
  cases h : loopO step v with
  | some r => exact ((key r).1 h).symm
  | none =>
    cases h2 : stepB (loopO step) (step v) with
    | none => rfl
    | some r => rw [(key r).2 h2] at h; simp at h
theorem loop_run {V R : Type} {step : V → Option (V ⊕ R)} {I : V → Prop} {J : R → Prop} (hstep : ∀ v o, step v = some o → (match o with | .inl v' => I v' | .inr r => J r) → I v) {v : V} {r : R} (h : loopO step v = some r) (hJ : J r) : I v := by
  obtain ⟨n, hn⟩ := loopO_iff.1 h
  clear h
  induction n generalizing v with
  | zero => simp [iterS] at hn
  | succ n ih =>
    simp only [iterS] at hn
    cases hs : step v with
    | none => rw [hs] at hn; simp at hn
    | some o =>
      rw [hs] at hn
      cases o with
      | inl v' => exact hstep v _ hs (ih hn)
      | inr r' => simp at hn; subst hn; exact hstep v _ hs hJ
end Go.Proofs.YtmpnompddfhkeaaGreat.B
namespace Go.Proofs.YtmpnompddfhkeaaGreat
open Go.RowKit Go.ChangeShapes
theorem trodAll_ext {H : Type} {enc : TypeId × Value → H} {P : Program} (hl : laidOutB P = true) {W W' : World} (hb : Ext W W') :
    ∀ {ts : List TypeId} {vs : List Value} {ds : List (DataW H)} {ps : List MemPlace}, (∀ t ∈ ts, P.readableRec t = true ∧ t < P.types.size) →
      DataW.TrodAll enc P W 0 (fun _ => true) true ts vs ds ps → (∀ x ∈ ps, x.block < W.heap.size) →
      DataW.TrodAll enc P W' 0 (fun b => decide (b < W.heap.size)) true ts vs ds ps := by
  intro ts
  induction ts with
  | nil =>
    intro vs ds ps _ h _
    cases vs <;> cases ds <;> first | exact h | exact h.elim
  | cons t ts ih =>
    intro vs ds ps hr h hlt
    cases vs with
    | nil => cases ds <;> exact h.elim
    | cons v vs =>
      cases ds with
      | nil => exact h.elim
      | cons d ds =>
        obtain ⟨p, q, hd, hrest, rfl⟩ := h
        have h0 := hr t (by simp)
        refine ⟨p, q, Below.trod hl h0.1 h0.2 hd hb (fun x hx => hlt x (by simp [hx])), ih (fun t ht => hr t (by simp [ht])) hrest (fun x hx => hlt x (by simp [hx])), rfl⟩
theorem trodAll_length {H : Type} {enc : TypeId × Value → H} {P : Program} {W : World} {b : Nat} {sp : Nat → Bool} {hd : Bool} :
    ∀ {ts : List TypeId} {vs : List Value} {ds : List (DataW H)} {ps : List MemPlace}, DataW.TrodAll enc P W b sp hd ts vs ds ps → ds.length = ts.length ∧ vs.length = ts.length := by
  intro ts
  induction ts with
  | nil => intro vs ds ps h; cases vs <;> cases ds <;> first | exact h.elim | simp
  | cons t ts ih =>
    intro vs ds ps h
    cases vs with
    | nil => cases ds <;> exact h.elim
    | cons v vs =>
      cases ds with
      | nil => exact h.elim
      | cons d ds => obtain ⟨p, q, _, hrest, _⟩ := h; have := ih hrest; simp [this]
theorem law_post {H : Type} {enc : TypeId × Value → H} {P : Program} {f : Func} {s : ChangeSpec} {tb : TypeId} {W W' : World} {args : Array Value} {ds gs : List (DataW H)} {before : List MemPlace}
    (hl : laidOutB P = true) (hr : f.params.toList.all (fun t => P.readableRec t && decide (t < P.types.size)) = true)
    (hres : f.resultTypes = #[tb]) (hub : P.underlying tb = some .bool) (hvars : s.vars = [])
    (hspec : ∀ l : List (DataW H), l.length = f.params.toList.length → (s.fn H l).results = [.lit (.bool true)] ∧ (s.fn H l).args = l ∧ (s.fn H l).vars = [])
    (hW : DataW.Whole enc P f.params.toList s.vars false W args.toList ds gs before) (hb : Ext W W') :
    s.post enc P f false true false false W args (.bool true) W' := by
  have hW0 := hW
  obtain ⟨p, q, hA, hV, rfl, hfz, hnd⟩ := hW
  rw [hvars] at hV
  have hgs : gs = [] ∧ q = [] := by
    cases gs with
    | nil => exact ⟨rfl, hV⟩
    | cons g gs => exact hV.elim
  obtain ⟨rfl, rfl⟩ := hgs
  have hlen := (trodAll_length hA).1
  obtain ⟨e1, e2, e3⟩ := hspec (ds ++ []) (by simpa using hlen)
  have hr' : ∀ t ∈ f.params.toList, P.readableRec t = true ∧ t < P.types.size := by
    intro t ht
    have := List.all_eq_true.1 hr t ht
    simpa using this
  refine ⟨ds, [], p ++ [], [], p, [], hW0, ?_, ?_, ?_, Below.frame hb _, fun h => by cases h⟩
  · rw [e1, hres]; exact trodAll_cons_mk (shut_bool hub _) trodAll_mk0
  · rw [e2, List.append_nil]; exact trodAll_ext hl hb hr' hA (fun x hx => by simpa using hW0.lt x (by simpa using hx))
  · rw [hvars, e3]; rfl
end Go.Proofs.YtmpnompddfhkeaaGreat
namespace Go.Proofs.YtmpnompddfhkeaaGreat.B
open Go Go.RowKit
inductive Fl
  | int | bool | str
  | num (k : IntKind)
  | sl (τ : Ty)
  deriving DecidableEq
def flOf : V Un → Option Fl
  | .s (.int .i64 _) => some .int
  | .s (.int k _) => some (.num k)
  | .s (.bool _) => some .bool
  | .s (.string _) => some .str
  | .dat τ _ => some (.sl τ)
  | _ => none
def fls (τ : Ty) : List Fl := (enc τ (dflt τ)).filterMap flOf
theorem fl_cons {vs : List (V Un)} {f : Fl} {fs : List Fl} (h : vs.map flOf = (f :: fs).map some) : ∃ v r, vs = v :: r ∧ flOf v = some f ∧ r.map flOf = fs.map some := by
  cases vs with
  | nil => simp at h
  | cons v r => simp at h; exact ⟨v, r, rfl, h.1, by simpa using h.2⟩
theorem fl_nil {vs : List (V Un)} (h : vs.map flOf = ([] : List Fl).map some) : vs = [] := by simpa using h
theorem fl_int {vs : List (V Un)} {fs : List Fl} (h : vs.map flOf = (Fl.int :: fs).map some) : ∃ n r, vs = ci n :: r ∧ r.map flOf = fs.map some := by
  obtain ⟨v, r, rfl, h1, h2⟩ := fl_cons h
  unfold flOf at h1; split at h1 <;> simp at h1
  exact ⟨_, r, rfl, h2⟩
theorem fl_bool {vs : List (V Un)} {fs : List Fl} (h : vs.map flOf = (Fl.bool :: fs).map some) : ∃ n r, vs = cb n :: r ∧ r.map flOf = fs.map some := by
  obtain ⟨v, r, rfl, h1, h2⟩ := fl_cons h
  unfold flOf at h1; split at h1 <;> simp at h1
  exact ⟨_, r, rfl, h2⟩
theorem fl_str {vs : List (V Un)} {fs : List Fl} (h : vs.map flOf = (Fl.str :: fs).map some) : ∃ n r, vs = cs n :: r ∧ r.map flOf = fs.map some := by
  obtain ⟨v, r, rfl, h1, h2⟩ := fl_cons h
  unfold flOf at h1; split at h1 <;> simp at h1
  exact ⟨_, r, rfl, h2⟩
theorem fl_sl {vs : List (V Un)} {τ : Ty} {fs : List Fl} (h : vs.map flOf = (Fl.sl τ :: fs).map some) : ∃ (l : List (Den τ)) (r : List (V Un)), vs = .dat (U := Un) τ l :: r ∧ r.map flOf = fs.map some := by
  obtain ⟨v, r, rfl, h1, h2⟩ := fl_cons h
  unfold flOf at h1; split at h1 <;> simp at h1
  subst h1
  exact ⟨_, r, rfl, h2⟩
section
variable {H : Type} {enc' : TypeId × Value → H} {P : Program} {w : World} {spare : Nat → Bool} {held : Bool}
def layFs (P : Program) (lay : TypeId → Option (List Fl)) : List Field → Nat → Option (List Fl)
  | [], _ => some []
  | f :: r, off => match lay f.type with
    | some l => if f.offset = off ∧ l.length = P.cellsOf f.type then (layFs P lay r (off + l.length)).map (l ++ ·) else none
    | none => none
def lay (P : Program) (tab : TypeId → TI Un) : Nat → TypeId → Option (List Fl)
  | 0, _ => none
  | k + 1, t => match P.underlying t with
    | some (.int .i64) => some [.int]
    | some (.int k) => some [.num k]
    | some (.array n e) => match lay P tab k e with
      | some l => if l.length = P.cellsOf e ∧ n * l.length = P.cellsOf t then some ((List.replicate n l).flatten) else none
      | none => none
    | some .bool => some [.bool]
    | some .string => some [.str]
    | some (.slice e) => match tab t with
      | .sl e' τ _ => if e' = e then some [.sl τ] else none
      | _ => none
    | some (.struct fs) => match layFs P (lay P tab k) fs.toList 0 with
      | some l => if l.length = P.cellsOf t then some l else none
      | none => none
    | _ => none
inductive VB (byt : Ty → Nat) : V Un → Prop
  | s (x : Value) : VB byt (.s x)
  | dat (τ : Ty) (xs : List (Den τ)) (h : xs.length * byt τ ≤ reachBytes) (h2 : ∀ x ∈ xs, ∀ d ∈ enc τ x, VB byt d) : VB byt (.dat (U := Un) τ xs)
mutual
inductive BK : V Un → Nat → Prop
  | s (x : Value) (n : Nat) : BK (.s x) n
  | dat (τ : Ty) (xs : List (Den τ)) (n : Nat) (h : BKL τ xs n) : BK (.dat (U := Un) τ xs) n
inductive BKL : (τ : Ty) → List (Den τ) → Nat → Prop
  | nil (τ : Ty) (n : Nat) : BKL τ [] n
  | cons (τ : Ty) (x : Den τ) (xs : List (Den τ)) (a b n : Nat) (h1 : BKS (enc τ x) a) (h2 : BKL τ xs b) (hn : a + 1 + b ≤ n) : BKL τ (x :: xs) n
inductive BKS : List (V Un) → Nat → Prop
  | nil (n : Nat) : BKS [] n
  | cons (v : V Un) (vs : List (V Un)) (a b n : Nat) (h1 : BK v a) (h2 : BKS vs b) (hn : a + b ≤ n) : BKS (v :: vs) n
end
theorem BKS.mono {vs : List (V Un)} {n m : Nat} (h : BKS vs n) (hm : n ≤ m) : BKS vs m := by
  cases h with
  | nil _ => exact .nil _
  | cons v vs a b _ h1 h2 hn => exact .cons v vs a b _ h1 h2 (by omega)
theorem BKL.mono {τ : Ty} {xs : List (Den τ)} {n m : Nat} (h : BKL τ xs n) (hm : n ≤ m) : BKL τ xs m := by
  cases h with
  | nil _ _ => exact .nil _ _
  | cons _ x xs a b _ h1 h2 hn => exact .cons _ x xs a b _ h1 h2 (by omega)
theorem BKS.append {us : List (V Un)} {n : Nat} (h : BKS us n) {vs : List (V Un)} {m : Nat} (h2 : BKS vs m) : BKS (us ++ vs) (n + m) := by
  induction us generalizing n with
  | nil => exact h2.mono (by omega)
  | cons u us ih =>
    cases h with
    | cons _ _ a b _ g1 g2 hn => exact .cons u _ a (b + m) _ g1 (ih g2) (by omega)
theorem BKS.one (x : Value) (n : Nat) : BKS [.s x] n := .cons _ _ 0 0 _ (.s _ _) (.nil _) (by omega)
theorem BKS.none (τ : Ty) (n : Nat) : BKS [.dat (U := Un) τ []] n := .cons _ _ 0 0 _ (.dat _ _ _ (.nil _ _)) (.nil _) (by omega)
theorem bulk_pos (d : DataW H) : 1 ≤ Rows.uptoBulk d := by
  cases d with
  | lit l => cases l <;> simp [Rows.uptoBulk]
  | nil => simp [Rows.uptoBulk]
  | ptr d => simp [Rows.uptoBulk]
  | slice elems spare => simp [Rows.uptoBulk]
  | agg parts => simp [Rows.uptoBulk]
  | iface t d => simp [Rows.uptoBulk]
  | map entries => simp [Rows.uptoBulk]
  | held h => simp [Rows.uptoBulk]
theorem BKL_of {τ : Ty} : ∀ (xs : List (Den τ)) (es : List (DataW H)), xs.length = es.length → (∀ (i : Nat) x e, xs[i]? = some x → es[i]? = some e → BKS (enc τ x) (Rows.uptoBulk e - 1)) → BKL τ xs (Rows.uptoBulkAll es)
  | [], [], _, _ => .nil _ _
  | x :: xs, e :: es, h, hh => .cons _ _ _ _ _ _ (hh 0 x e rfl rfl) (BKL_of xs es (by simpa using h) fun i x e hx he => hh (i + 1) x e (by simpa using hx) (by simpa using he)) (by have := bulk_pos e; simp only [Rows.uptoBulkAll]; omega)
  | [], _ :: _, h, _ => by simp at h
  | _ :: _, [], h, _ => by simp at h
theorem weightsAll_mem {d : DataW H} {e : TypeId} {k : Nat} : ∀ {l : List (DataW H)}, d ∈ l → k ∈ d.weights P e → k ∈ DataW.weightsAll P e l
  | x :: l, hd, hk => by
    rw [DataW.weightsAll]
    rcases List.mem_cons.1 hd with rfl | hd
    · exact List.mem_append.2 (.inl hk)
    · exact List.mem_append.2 (.inr (weightsAll_mem hd hk))
theorem all2_of_get {α β : Type} {R : α → β → Prop} : ∀ {l : List α} {r : List β}, l.length = r.length → (∀ (i : Nat) (x : α) (y : β), l[i]? = some x → r[i]? = some y → R x y) → All2 R l r
  | [], [], _, _ => trivial
  | x :: l, y :: r, h, hh => ⟨hh 0 x y rfl rfl, all2_of_get (by simpa using h) fun i a b ha hb => hh (i + 1) a b (by simpa using ha) (by simpa using hb)⟩
  | [], _ :: _, h, _ => by simp at h
  | _ :: _, [], h, _ => by simp at h
def StA (w : World) (b _o : Nat) : Prop := b < w.heap.size
def LayOK (P : Program) (tab : TypeId → TI Un) : Prop := ∀ t e τ b, tab t = .sl e τ b → ∃ k, lay P tab k e = some (fls τ)
def DecTot : Prop := ∀ (τ : Ty) (vs : List (V Un)), vs.map flOf = (fls τ).map some → ∃ x, dec τ vs = some x
theorem All2.at {α β : Type} {R : α → β → Prop} : ∀ {l : List α} {r : List β}, All2 R l r → ∀ (i : Nat) (x : α) (y : β), l[i]? = some x → r[i]? = some y → R x y
  | [], [], _, i, x, y, hx, _ => by simp at hx
  | a :: l, b :: r, h, i, x, y, hx, hy => by
    cases i with
    | zero => simp at hx hy; subst hx; subst hy; exact h.1
    | succ i => simp at hx hy; exact All2.at h.2 i x y hx hy
theorem fields_data {tab : TypeId → TI Un} {byt : Ty → Nat} {k n : Nat} {cs : List Value}
    (IH : ∀ t cs (x : DataW H × List MemPlace) fl, DataW.trod enc' P w 0 spare held n t cs = some x → lay P tab k t = some fl → ∃ vs, All2 (VRel En (StA w) w) cs vs ∧ vs.map flOf = fl.map some ∧ ((∀ q ∈ x.1.weights P t, q ≤ reachBytes) → ∀ v ∈ vs, VB byt v) ∧ BKS vs (Rows.uptoBulk x.1 - 1)) :
    ∀ (fs : List Field) (ys : List (DataW H × List MemPlace)) (off : Nat) (fl : List Fl), layFs P (lay P tab k) fs off = some fl → All2 (fun f y => DataW.trod enc' P w 0 spare held n f.type ((cs.drop f.offset).take (P.cellsOf f.type)) = some y) fs ys →
      off + fl.length = cs.length → ∃ vs, All2 (VRel En (StA w) w) (cs.drop off) vs ∧ vs.map flOf = fl.map some ∧ ((∀ q ∈ DataW.weightsEach P (fs.map (·.type)) (ys.map (·.1)), q ≤ reachBytes) → ∀ v ∈ vs, VB byt v) ∧ BKS vs (Rows.uptoBulkAll (ys.map (·.1)))
  | [], ys, off, fl, h, _, hl => by
    simp [layFs] at h; subst h
    refine ⟨[], ?_, rfl, fun _ v hv => by simp at hv, .nil _⟩
    rw [List.drop_of_length_le (by simp at hl; omega)]; trivial
  | f :: r, [], off, fl, h, hf, hl => hf.elim
  | f :: r, y :: ys, off, fl, h, hf, hl => by
    simp only [layFs] at h
    split at h
    · rename_i l hlf
      split at h
      · rename_i hc
        rw [Option.map_eq_some_iff] at h
        obtain ⟨fl', h1, rfl⟩ := h
        obtain ⟨hy, hf2⟩ := hf
        rw [hc.1, ← hc.2] at hy
        obtain ⟨vs1, a1, a2, a3, a4⟩ := IH _ _ _ _ hy hlf
        obtain ⟨vs2, b1, b2, b3, b4⟩ := fields_data IH r ys (off + l.length) fl' h1 hf2 (by simp at hl; omega)
        refine ⟨vs1 ++ vs2, ?_, by simp [a2, b2], fun hq v hv => ?_, (a4.append b4).mono (by simp only [List.map_cons, Rows.uptoBulkAll]; omega)⟩
        · rw [← List.take_append_drop l.length (cs.drop off), List.drop_drop]
          exact a1.append b1
        · simp only [List.map_cons] at hq
          rw [DataW.weightsEach] at hq
          rcases List.mem_append.1 hv with hv | hv
          · exact a3 (fun q hh => hq q (List.mem_append.2 (.inl hh))) v hv
          · exact b3 (fun q hh => hq q (List.mem_append.2 (.inr hh))) v hv
      · simp at h
    · simp at h
theorem array_data {byt : Ty → Nat} {n : Nat} {cs : List Value} {e : TypeId} {l : List Fl}
    (IH : ∀ cs (x : DataW H × List MemPlace), DataW.trod enc' P w 0 spare held n e cs = some x → ∃ vs, All2 (VRel En (StA w) w) cs vs ∧ vs.map flOf = l.map some ∧ ((∀ q ∈ x.1.weights P e, q ≤ reachBytes) → ∀ v ∈ vs, VB byt v) ∧ BKS vs (Rows.uptoBulk x.1 - 1)) (hle : l.length = P.cellsOf e) :
    ∀ (m : Nat) (ys : List (DataW H × List MemPlace)) (off : Nat), ys.length = m → (∀ i, i < m → DataW.trod enc' P w 0 spare held n e ((cs.drop (off + i * P.cellsOf e)).take (P.cellsOf e)) = ys[i]?) →
      off + m * l.length = cs.length → ∃ vs, All2 (VRel En (StA w) w) (cs.drop off) vs ∧ vs.map flOf = ((List.replicate m l).flatten).map some ∧ ((∀ q ∈ DataW.weightsAll P e (ys.map (·.1)), q ≤ reachBytes) → ∀ v ∈ vs, VB byt v) ∧ BKS vs (Rows.uptoBulkAll (ys.map (·.1)))
  | 0, ys, off, _, _, hl => by
    refine ⟨[], ?_, rfl, fun _ v hv => by simp at hv, .nil _⟩
    rw [List.drop_of_length_le (by omega)]; trivial
  | m + 1, [], off, h, _, _ => by simp at h
  | m + 1, y :: ys, off, hlen, hf, hl => by
    have h0 := hf 0 (by omega)
    simp only [Nat.zero_mul, Nat.add_zero, List.getElem?_cons_zero] at h0
    obtain ⟨vs1, a1, a2, a3, a4⟩ := IH _ _ h0
    obtain ⟨vs2, b1, b2, b3, b4⟩ := array_data IH hle m ys (off + l.length) (by simpa using hlen) (fun i hi => by
      have := hf (i + 1) (by omega)
      rw [List.getElem?_cons_succ] at this
      rw [← this, hle]; congr 3; rw [Nat.add_mul, Nat.one_mul]; omega) (by rw [Nat.add_mul, Nat.one_mul] at hl; omega)
    refine ⟨vs1 ++ vs2, ?_, by rw [List.replicate_succ, List.flatten_cons]; simp [a2, b2], fun hq v hv => ?_, (a4.append b4).mono (by simp only [List.map_cons, Rows.uptoBulkAll]; omega)⟩
    · have e1 := List.take_append_drop l.length (cs.drop off)
      rw [List.drop_drop] at e1
      rw [← e1]
      have a1' : All2 (VRel En (StA w) w) ((cs.drop off).take l.length) vs1 := by rw [hle]; exact a1
      exact a1'.append b1
    · simp only [List.map_cons] at hq
      rw [DataW.weightsAll] at hq
      rcases List.mem_append.1 hv with hv | hv
      · exact a3 (fun q hh => hq q (List.mem_append.2 (.inl hh))) v hv
      · exact b3 (fun q hh => hq q (List.mem_append.2 (.inr hh))) v hv
theorem cells_get {a : Addr} {n : Nat} {cs : List Value} (h : w.cells? 0 a n = some cs) : cs.length = n ∧ ∀ j, j < n → w.cell? (a.add j) = cs[j]? := by
  unfold World.cells? at h
  rw [if_pos (Nat.zero_le _)] at h
  refine ⟨by simpa using mapM_some_length h, fun j hj => ?_⟩
  exact mapM_some_get h j j (by simp [hj])
theorem trod_data {tab : TypeId → TI Un} {byt : Ty → Nat} (hbyt : ∀ t e τ b, tab t = .sl e τ b → P.bytesOf e = byt τ) (hlay : LayOK P tab) (hdec : DecTot) (hsz : ∀ τ, 0 < sz τ) (hcell : ∀ t e τ b, tab t = .sl e τ b → P.cellsOf e = sz τ) :
    ∀ (n : Nat) (t : TypeId) (cs : List Value) (x : DataW H × List MemPlace) (k : Nat) (fl : List Fl), DataW.trod enc' P w 0 spare held n t cs = some x → lay P tab k t = some fl →
      ∃ vs, All2 (VRel En (StA w) w) cs vs ∧ vs.map flOf = fl.map some ∧ ((∀ q ∈ x.1.weights P t, q ≤ reachBytes) → ∀ v ∈ vs, VB byt v) ∧ BKS vs (Rows.uptoBulk x.1 - 1) := by
  intro n
  induction n with
  | zero => intro t cs x k fl h; simp [DataW.trod] at h
  | succ n IH =>
    intro t cs x k fl h hl
    cases k with
    | zero => simp [lay] at hl
    | succ k =>
      simp only [lay] at hl
      split at hl
      · rename_i hu
        obtain ⟨m, rfl, -, hw⟩ := DataW.trod_int hu h
        simp at hl; subst hl
        refine ⟨[ci m], ⟨.s _ ?_, trivial⟩, rfl, fun _ v hv => by rw [List.mem_singleton] at hv; subst hv; exact .s _, .one _ _⟩
        simpa [Lit.wf, oneC] using hw
      · rename_i kd hne hu
        obtain ⟨m, rfl, -, hw⟩ := DataW.trod_int hu h
        simp at hl; subst hl
        refine ⟨[.s (.int kd m)], ⟨.s _ ?_, trivial⟩, ?_, fun _ v hv => by rw [List.mem_singleton] at hv; subst hv; exact .s _, .one _ _⟩
        · simpa [Lit.wf, oneC] using hw
        · cases kd <;> first | rfl | exact (hne rfl).elim
      · rename_i m e hu
        split at hl
        · rename_i l hle
          split at hl
          · rename_i hc
            simp only [Option.some.injEq] at hl; subst hl
            obtain ⟨xs, n', hn', hx0, g1, g2, g3⟩ := DataW.trod_array hu h
            obtain rfl : n' = n := by omega
            obtain ⟨vs, b1, b2, b3, b4⟩ := array_data (byt := byt) (cs := cs) (e := e) (l := l) (fun cs x hx => IH _ _ _ _ _ hx hle) hc.1 m xs 0 g2 (fun i hi => by rw [Nat.zero_add]; exact g3 i hi) (by rw [g1, ← hc.2]; omega)
            refine ⟨vs, by simpa using b1, b2, fun hq => b3 (fun q hh => hq q ?_), b4.mono (by rw [hx0]; simp only [Rows.uptoBulk]; omega)⟩
            rw [hx0]
            simp only [DataW.weights, hu]
            exact hh
          · simp at hl
        · simp at hl
      · rename_i hu
        simp at hl; subst hl
        obtain ⟨b, rfl⟩ : ∃ b, cs = [.bool b] := by
          unfold DataW.trod at h; rw [hu] at h
          split at h <;> first | exact ⟨_, rfl⟩ | simp_all
        exact ⟨[cb b], ⟨.s _ rfl, trivial⟩, rfl, fun _ v hv => by rw [List.mem_singleton] at hv; subst hv; exact .s _, .one _ _⟩
      · rename_i hu
        simp at hl; subst hl
        obtain ⟨s, rfl, hs⟩ : ∃ s : ByteArray, cs = [.string s] ∧ s.size ≤ maxLen := by
          unfold DataW.trod at h; rw [hu] at h
          split at h <;> first | (rename_i s _; simp at h; exact ⟨_, rfl, h.1⟩) | simp_all
        exact ⟨[B.cs s], ⟨.s _ (decide_eq_true hs), trivial⟩, rfl, fun _ v hv => by rw [List.mem_singleton] at hv; subst hv; exact .s _, .one _ _⟩
      · rename_i e hu
        split at hl
        · rename_i e' τ b ht
          split at hl
          · rename_i he; subst he
            simp at hl; subst hl
            rcases DataW.trod_slice hu h with ⟨rfl, -⟩ | ⟨a, len, cap, elems, rest, m, hm, rfl, hx0, -, h1, h2, h3, h4, -, -⟩
            · exact ⟨[.dat (U := Un) τ []], ⟨.nil _ _ _, trivial⟩, rfl, fun _ v hv => by rw [List.mem_singleton] at hv; subst hv; exact .dat τ [] (by simp) (by simp), .none _ _⟩
            · obtain rfl : m = n := by omega
              obtain ⟨ke, hke⟩ := hlay t e' τ b ht
              have hc := hcell t e' τ b ht
              have hz := hsz τ
              have key : ∀ i, i < len → ∃ (x' : Den τ) (cs : List Value), All2 (VRel En (StA w) w) cs (enc τ x') ∧ cs.length = sz τ ∧ (∀ j, j < sz τ → w.cell? ((a.add (i * sz τ)).add j) = cs[j]?) ∧ ((∀ q ∈ x.1.weights P t, q ≤ reachBytes) → ∀ d ∈ enc τ x', VB byt d) ∧ (∀ e, elems[i]? = some e → BKS (enc τ x') (Rows.uptoBulk e.1 - 1)) := by
                intro i hi
                have := h4 i hi
                rw [hc] at this
                have he : elems[i]? = some elems[i] := List.getElem?_eq_getElem (by omega)
                rw [he, Option.bind_eq_some_iff] at this
                obtain ⟨ci, g1, g2⟩ := this
                obtain ⟨vs, g3, g4, g8, g9⟩ := IH _ _ _ _ _ g2 hke
                obtain ⟨x', hx⟩ := hdec τ vs g4
                obtain ⟨g5, g6⟩ := cells_get g1
                have hbk := enc_back τ vs x' hx
                refine ⟨x', ci, by rw [hbk]; exact g3, g5, g6, fun hq d hd => ?_, fun e' he' => by rw [he] at he'; injection he' with he'; subst he'; rw [hbk]; exact g9⟩
                rw [hbk] at hd
                refine g8 (fun q hh => hq q ?_) d hd
                rw [hx0]
                simp only [DataW.weights, hu]
                refine List.mem_cons_of_mem _ (List.mem_append.2 (.inl (weightsAll_mem (List.mem_map.2 ⟨_, List.getElem_mem (by omega : i < elems.length), rfl⟩) hh)))
              cases len with
              | zero => exact ⟨[.dat (U := Un) τ []], ⟨.nil _ _ _, trivial⟩, rfl, fun _ v hv => by rw [List.mem_singleton] at hv; subst hv; exact .dat τ [] (by simp) (by simp), .none _ _⟩
              | succ len =>
                obtain ⟨blk, off, spot⟩ := a
                have hspot : spot = none := by
                  obtain ⟨x', cs, -, g1, g2, -, -⟩ := key 0 (by omega)
                  have := g2 0 hz
                  rw [List.getElem?_eq_getElem (by omega)] at this
                  simp [Addr.add, World.cell?] at this
                  split at this
                  · cases spot with
                    | none => rfl
                    | some _ => simp at this
                  · simp at this
                subst hspot
                have hadd : ∀ p q : Nat, ((⟨blk, off, none⟩ : Addr).add p).add q = ⟨blk, off + p + q, none⟩ := by
                  intro p q; unfold Addr.add
                  by_cases hp : p = 0 <;> by_cases hq : q = 0 <;> simp [hp, hq]
                let f : Nat → Den τ := fun i => if hi : i < len + 1 then Classical.choose (key i hi) else dflt τ
                let xs : List (Den τ) := (List.range (len + 1)).map f
                have hxl : xs.length = len + 1 := by simp [xs]
                have hVB : (∀ q ∈ x.1.weights P t, q ≤ reachBytes) → VB byt (.dat (U := Un) τ xs) := by
                  intro hq
                  refine .dat τ xs ?_ ?_
                  · have := hq ((elems.length + rest.length) * P.bytesOf e') (by rw [hx0]; simp only [DataW.weights, hu, List.length_map]; exact List.mem_cons_self)
                    rw [hbyt t e' τ b ht] at this
                    rw [hxl]
                    exact Nat.le_trans (Nat.mul_le_mul_right _ (by omega)) this
                  · intro y hy d hd
                    obtain ⟨i, hi, rfl⟩ := List.getElem_of_mem hy
                    have hi' : i < len + 1 := by omega
                    have hxi : xs[i] = Classical.choose (key i hi') := by
                      simp only [xs, List.getElem_map, List.getElem_range, f]
                      rw [dif_pos hi']
                    obtain ⟨cs, -, -, -, g3, -⟩ := Classical.choose_spec (key i hi')
                    rw [hxi] at hd
                    exact g3 hq d hd
                have hBK : BKL τ xs (Rows.uptoBulkAll (elems.map (·.1))) := by
                  refine BKL_of xs _ (by rw [hxl, List.length_map]; omega) fun i x' e hx' he => ?_
                  have hi' : i < len + 1 := by rw [← hxl]; exact (List.getElem?_eq_some_iff.1 hx').1
                  obtain ⟨cs, -, -, -, -, g4⟩ := Classical.choose_spec (key i hi')
                  have hxi : x' = Classical.choose (key i hi') := by
                    rw [List.getElem?_eq_getElem (by omega)] at hx'
                    injection hx' with hx'
                    rw [← hx']
                    simp only [xs, List.getElem_map, List.getElem_range, f]
                    rw [dif_pos hi']
                  rw [List.getElem?_map, Option.map_eq_some_iff] at he
                  obtain ⟨e0, h5, rfl⟩ := he
                  rw [hxi]
                  exact g4 e0 h5
                refine ⟨[.dat (U := Un) τ xs], ⟨?_, trivial⟩, rfl, fun hq v hv => by rw [List.mem_singleton] at hv; subst hv; exact hVB hq, .cons _ _ (Rows.uptoBulkAll (elems.map (·.1))) 0 _ (.dat _ _ _ hBK) (.nil _) (by rw [hx0]; simp only [Rows.uptoBulk]; omega)⟩
                have hrel : VRel En (StA w) w (.slice (some ⟨blk, off, none⟩) xs.length cap) (.dat (U := Un) τ xs) := by
                  refine .dat (U := Un) τ xs blk off cap (fun i j => (w.cell? ⟨blk, off + i * sz τ + j, none⟩).getD .nilIface) ⟨by omega, by rw [hxl]; exact Nat.le_trans h1 h2⟩ ?_ ?_
                  · intro i j hi hj
                    obtain ⟨cs, -, g1, g2, -, -⟩ := Classical.choose_spec (key i (by omega))
                    obtain ⟨v, hv⟩ : ∃ v, cs[j]? = some v := ⟨_, List.getElem?_eq_getElem (by rw [g1]; exact hj)⟩
                    have := g2 j hj
                    rw [hadd, hv] at this
                    have this' : w.cell? ⟨blk, off + i * sz τ + j, none⟩ = some v := this
                    refine ⟨?_, ?_⟩
                    · exact lt_of_cell this'
                    · show w.cell? ⟨blk, off + i * sz τ + j, none⟩ = some ((w.cell? ⟨blk, off + i * sz τ + j, none⟩).getD .nilIface)
                      rw [this']; rfl
                  · intro i hi j d hd
                    have hi' : i < len + 1 := by omega
                    have hxi : xs[i] = Classical.choose (key i hi') := by
                      simp only [xs, List.getElem_map, List.getElem_range, f]
                      rw [dif_pos hi']
                    obtain ⟨cs, g0, g1, g2, -, -⟩ := Classical.choose_spec (key i hi')
                    rw [hxi] at hd
                    have hj : j < sz τ := by
                      have := (List.getElem?_eq_some_iff.1 hd).1
                      have hh := enc_len τ (Classical.choose (key i hi'))
                      exact hh ▸ this
                    obtain ⟨v, hv⟩ : ∃ v, cs[j]? = some v := ⟨_, List.getElem?_eq_getElem (by rw [g1]; exact hj)⟩
                    have := g2 j hj
                    rw [hadd, hv] at this
                    have this' : w.cell? ⟨blk, off + i * sz τ + j, none⟩ = some v := this
                    show VRel En (StA w) w ((w.cell? ⟨blk, off + i * sz τ + j, none⟩).getD .nilIface) d
                    rw [this']
                    exact All2.at g0 j _ _ hv hd
                rw [hxl] at hrel
                exact hrel
          · simp at hl
        · simp at hl
      · rename_i fs hu
        split at hl
        · rename_i l hfs
          split at hl
          · rename_i hlen
            simp at hl; subst hl
            obtain ⟨xs, m, hm, hx0, g1, g2, g3⟩ := DataW.trod_struct hu h
            obtain rfl : m = n := by omega
            have := fields_data (tab := tab) (byt := byt) (k := k) (n := m) (cs := cs) (fun t cs x fl hx hy => IH t cs x k fl hx hy) fs.toList xs 0 l hfs (all2_of_get (by simpa using g2.symm) (fun i f y hi hy => by
              have := g3 i f (by simpa using hi)
              rw [hy] at this; exact this)) (by omega)
            obtain ⟨vs, b1, b2, b3, b4⟩ := this
            refine ⟨vs, by simpa using b1, b2, fun hq => b3 (fun q hh => hq q ?_), b4.mono (by rw [hx0]; simp only [Rows.uptoBulk]; omega)⟩
            rw [hx0]
            simp only [DataW.weights, hu]
            exact hh
          · simp at hl
        · simp at hl
      · simp at hl
end
end Go.Proofs.YtmpnompddfhkeaaGreat.B
