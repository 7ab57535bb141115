/- Closures; all operations together. -/
import Derived.Test.YtohpgnpjijpedaaBOps8
namespace Go.Proofs.Ytohpgnpjijpedaa.B
open Go Go.RowKit
variable {U : Uni} {P : Program} {M : Mc U} {fr : Fr} {w : World} {g : G} {s : S U} {a : Act} {o : Oper}

theorem frz_append (s : S U) : ∀ (x y : List Nat), s.frz (x ++ y) = s.frz x ++ s.frz y
  | [], _ => rfl
  | k :: x, y => by
    simp only [List.cons_append, S.frz, frz_append s x y]
    split <;> rfl

theorem capKeys_spec (hF : FnsOK P M) (h : Sim P M.E fr g s a w) : ∀ {xs : List Operand} {ks : List Nat}, capKeys s M xs = some ks → xs.map a.eval = ks.map (fun k => Value.pointer (some ⟨g.β k, 0, none⟩)) ∧ ∀ k ∈ ks, g.lb k
  | [], ks, hk => by simp [capKeys] at hk; subst hk; exact ⟨rfl, by simp⟩
  | x :: xs, ks, hk => by
    simp only [capKeys] at hk
    split at hk
    · rename_i k ks' hx hks
      simp at hk; subst hk
      obtain ⟨hl, hv⟩ : CRel P M.E g s.ob w (a.eval x) (.bx k 0) := h.ev hF hx
      obtain ⟨e1, e2⟩ := capKeys_spec hF h hks
      refine ⟨by simp [hv, e1], fun q hq => ?_⟩
      rcases List.mem_cons.1 hq with rfl | hq
      · exact hl
      · exact e2 q hq
    · simp at hk

theorem caps_obs : ∀ {ks : List Nat} {dl : List (List (DC U))} {bw : List (Nat × Option (Bool × List (C U)))} {ow : List (Nat × Option (Ob U))}, s.caps ks = some (dl, bw, ow) → ow = s.frz (s.boxObs ks)
  | [], dl, bw, ow, h => by simp [S.caps] at h; obtain ⟨rfl, rfl, rfl⟩ := h; rfl
  | k :: ks, dl, bw, ow, h => by
    simp only [S.caps] at h
    split at h
    · rename_i fz cells dl' bw' ow' hk hr
      split at h
      · rename_i dcs hd
        simp at h; obtain ⟨rfl, rfl, rfl⟩ := h
        simp only [S.boxObs, hk]
        rw [frz_append, caps_obs hr]
      · simp at h
    · simp at h

/-- The same boxes, some of them frozen. -/
def BxLe (bx bx' : List (Option (Bool × List (C U)))) : Prop := ∀ (k : Nat) (fz : Bool) (cells : List (C U)), bx[k]? = some (some (fz, cells)) → ∃ fz', bx'[k]? = some (some (fz', cells))

theorem Sim.frzBoxes {s0 : S U} : ∀ {ks : List Nat} {dl : List (List (DC U))} {bw : List (Nat × Option (Bool × List (C U)))} {ow : List (Nat × Option (Ob U))} {g : G} {s : S U}, s0.caps ks = some (dl, bw, ow) → Sim P M.E fr g s a w → BxLe s0.bx s.bx →
    ∃ g', Sim P M.E fr g' { s with bx := sets s.bx bw } a w ∧ GLe g s.ob w g' s.ob w ∧ dl.length = ks.length ∧
      (∀ (i k : Nat) dcs, ks[i]? = some k → dl[i]? = some dcs → ∃ fz cells, s0.bx[k]? = some (some (fz, cells)) ∧ s0.toDCs cells = some dcs ∧ (sets s.bx bw)[k]? = some (some (true, cells))) ∧
      (∀ (k : Nat) (cells : List (C U)), s.bx[k]? = some (some (true, cells)) → (∃ fz, s0.bx[k]? = some (some (fz, cells))) → (sets s.bx bw)[k]? = some (some (true, cells)))
  | [], dl, bw, ow, g, s, h, hs, _ => by
    simp [S.caps] at h; obtain ⟨rfl, rfl, rfl⟩ := h
    exact ⟨g, hs, GLe.refl _ _ _, rfl, fun i k dcs hk => by simp at hk, fun k cells hk _ => hk⟩
  | k :: ks, dl, bw, ow, g, s, h, hs, hle => by
    simp only [S.caps] at h
    split at h
    · rename_i fz cells dl' bw' ow' hk hr
      split at h
      · rename_i dcs hd
        simp at h; obtain ⟨rfl, rfl, rfl⟩ := h
        obtain ⟨fz', hk'⟩ := hle k fz cells hk
        obtain ⟨g1, h1, hg1⟩ := hs.frzBox hk'
        have hklt : k < s.bx.length := (List.getElem?_eq_some_iff.1 hk').1
        have hle1 : BxLe s0.bx (s.bx.set k (some (true, cells))) := by
          intro q fq cq hq
          by_cases e : q = k
          · subst e; rw [hk] at hq; simp at hq; obtain ⟨rfl, rfl⟩ := hq; exact ⟨true, List.getElem?_set_self hklt⟩
          · rw [List.getElem?_set_ne (Ne.symm e)]; exact hle q fq cq hq
        obtain ⟨g2, h2, hg2, hl2, hx2, hy2⟩ := Sim.frzBoxes hr h1 hle1
        refine ⟨g2, h2, hg1.trans hg2, by simp [hl2], fun i q dq hq hdq => ?_, fun q cq hq hq0 => ?_⟩
        · cases i with
          | zero =>
            simp at hq hdq; subst hq hdq
            exact ⟨fz, cells, hk, hd, hy2 k cells (List.getElem?_set_self hklt) ⟨fz, hk⟩⟩
          | succ i => exact hx2 i q dq (by simpa using hq) (by simpa using hdq)
        · refine hy2 q cq ?_ hq0
          show (s.bx.set k _)[q]? = _
          by_cases e : q = k
          · subst e
            obtain ⟨f0, h0⟩ := hq0
            rw [hk] at h0; simp at h0; obtain ⟨_, rfl⟩ := h0
            exact List.getElem?_set_self hklt
          · rw [List.getElem?_set_ne (Ne.symm e)]; exact hq
      · simp at h
    · simp at h

theorem DCRel.mono {E : Enc U} {St St' : Nat → Nat → Prop} {w w' : World} (hs : Keeps St w St' w') {v : Value} {d : DC U} (h : DCRel P E St w v d) : DCRel P E St' w' v d := by
  cases d with
  | v x => exact VRel.mono h hs
  | fn φ => exact FunRel.mono hs h

theorem boxObs_mem {s : S U} {k : Nat} {fz : Bool} {cells : List (C U)} (hk : s.bx[k]? = some (some (fz, cells))) {q : Nat} (hq : q ∈ Cs.obs cells) : ∀ {ks : List Nat}, k ∈ ks → q ∈ s.boxObs ks
  | [], h => by simp at h
  | k' :: ks, h => by
    simp only [S.boxObs, List.mem_append]
    rcases List.mem_cons.1 h with rfl | h
    · left; rw [hk]; exact hq
    · exact .inr (boxObs_mem hk hq h)

theorem makeFunc_sound (hF : FnsOK P M) (h : Sim P M.E fr g s a w) {f : FuncId} {first captured : Array Operand} {r : Res U} (ho : o.op = .makeFunc (.func f) first captured) (he : eff M s o = some r) : Done P o a w (Goal P M fr s o r) := by
  simp only [eff, ho] at he
  split at he
  · rename_i hfirst
    have hfe : first = #[] := by apply Array.ext'; simpa using hfirst
    unfold effFunc at he
    split at he
    · rename_i ks hks
      obtain ⟨hcv, hlb⟩ := capKeys_spec hF h hks
      have hce : captured.map a.eval = capPtrs g ks := by
        unfold capPtrs; rw [← hcv]; apply Array.ext'; simp
      have hrun : (execOp a.eval o).run P w = .ok (.value (.func (.func f) #[] (capPtrs g ks))) w := by
        simp [execOp, ho, Instr.makeFunc, hfe, hce]
      split at he
      · rw [ok_eq he]
        exact pure_sound h hrun ⟨rfl, hlb⟩
      · rename_i F hclo
        split at he
        · rename_i dl bw ow hcaps
          split at he
          · rename_i φ hφ
            simp only [Option.some.injEq] at he; subst he
            have how := caps_obs hcaps
            subst how
            obtain ⟨g1, hs1, hg1, hf1, hfz⟩ := Sim.frzs (s.boxObs ks) (s0 := s) rfl h (FrzLe.refl _)
            obtain ⟨g2, hs2, hg2, hl2, hx2, _⟩ := Sim.frzBoxes (s0 := s) hcaps hs1 (fun k fz cells hk => ⟨fz, hk⟩)
            refine done_value hrun ⟨g2, Sim.put' (s' := s) hs2 ?_⟩
            show FunRel P M.E g2.St w _ φ
            refine ⟨f, capPtrs g ks, rfl, hF.clb f F hclo, fun St' w' hkeep hbd args ob rs hφa hob vs hvs => ?_⟩
            have hcon := hF.clo f F dl φ args ob rs hclo hφ hφa hob
            have hbox : All2 (DRel P M.E St' w') (capPtrs g ks).toList (dl.map D.box) := by
              refine All2.of_get (by simp [capPtrs, hl2]) ?_
              intro i v d hv hd
              have hv' : (ks.map fun k => Value.pointer (some ⟨g.β k, 0, none⟩))[i]? = some v := by simpa [capPtrs] using hv
              rw [List.getElem?_map] at hv' hd
              cases hki : ks[i]? with
              | none => rw [hki] at hv'; simp at hv'
              | some k =>
                rw [hki] at hv'; simp at hv'; subst hv'
                cases hdi : dl[i]? with
                | none => rw [hdi] at hd; simp at hd
                | some dcs =>
                  rw [hdi] at hd; simp at hd; subst hd
                  obtain ⟨fz, cells, b1, b2, b3⟩ := hx2 i k dcs hki hdi
                  obtain ⟨hl, us, j1, j2⟩ := hs2.bxs k true cells b3
                  have hβ : g2.β k = g.β k := by
                    have hk0 := hlb k (List.mem_of_getElem? hki)
                    rw [(hg2.lb k (hg1.lb k hk0).1).2, (hg1.lb k hk0).2]
                  have hdc := hs2.frozenDCs (s0 := s) (fun k' => hf1 k') (fun q hq => hfz q (.inl (boxObs_mem b1 hq (List.mem_of_getElem? hki)))) b2 j1
                  refine ⟨g.β k, rfl, fun j c hc => ?_⟩
                  obtain ⟨u, hu, hur⟩ := hdc.get j hc
                  obtain ⟨c1, _, c3⟩ := j2 j u hu
                  rw [hβ] at c1 c3
                  obtain ⟨k1, k2⟩ := hkeep _ _ (c3 rfl)
                  exact ⟨k1, u, by rw [k2]; exact c1, DCRel.mono hkeep hur⟩
            have hall : All2 (DRel P M.E St' w') (vs ++ (capPtrs g ks).toList) (args.map D.d ++ dl.map D.box) := All2.append (All2.map_right D.d (fun _ _ hh => hh) hvs) hbox
            have := hcon w' St' _ hbd hall
            have e : (vs ++ (capPtrs g ks).toList).toArray = vs.toArray ++ capPtrs g ks := by apply Array.ext'; simp
            rw [e] at this
            exact this
          · simp at he
        · simp at he
    · simp at he
  · simp at he

/-- EVERY OPERATION: what the abstract machine says of it is so. -/
theorem eff_sound (hT : TabOK P M) (hF : FnsOK P M) (h : Sim P M.E fr g s a w) {r : Res U} (he : eff M s o = some r) (hob : ∀ p ∈ r.ob, p) : Done P o a w (Goal P M fr s o r) := by
  cases hop : o.op with
  | move x => exact move_sound hF h (.inl hop) (by simpa only [eff, hop] using he)
  | assign x => exact move_sound hF h (.inr hop) (by simpa only [eff, hop] using he)
  | pick c x y =>
    simp only [eff, hop] at he
    split at he
    · rename_i b hc; exact pick_sound hF h hop hc he
    · simp at he
  | alloc t => exact alloc_sound hT h hop he
  | box t x => exact box_sound hF h hop he
  | build t ps => exact build_sound hT hF h hop he
  | buildSlice t len ps => exact buildSlice_sound hT hF h hop he
  | load t x => exact load_sound hT hF h hop he
  | store t x y => exact store_sound hT hF h hop he hob
  | nilCheck x => exact nilCheck_sound hF h hop he
  | binOp op t x y t' => exact binOp_sound hT hF h hop he hob
  | unOp op t x => exact unOp_sound hF h hop he
  | convert src dst x => exact convert_sound hT hF h hop he
  | slice t x lo hi mx => exact slice_sound hT hF h hop he hob
  | fieldAddr t x f => exact fieldAddr_sound hT hF h hop he
  | field t x f => exact field_sound hT hF h hop he
  | indexAddr t x y => exact indexAddr_sound hT hF h hop he hob
  | index t x y => exact index_sound hT hF h hop he hob
  | extract x j => exact extract_sound hF h hop he
  | makeSlice t x y => exact makeSlice_sound hT hF h hop he hob
  | makeFunc fn first captured =>
    cases fn with
    | func f => exact makeFunc_sound hF h hop he
    | _ => simp [eff, hop] at he
  | call c =>
    simp only [eff, hop] at he
    have he' := he
    unfold effCall at he
    split at he
    · rename_i b hb
      cases b with
      | len => exact len_sound hT hF h hop hb he
      | append => exact append_sound hT hF h hop hb he hob
      | min => exact min_sound hF h hop hb he
      | max => exact max_sound hF h hop hb he
      | _ => simp [effBuiltin] at he
    · rename_i f hf; exact call_sound hF h hop hf he' hob
    · rename_i t ht; exact callv_sound hF h hop ht he' hob
    · simp at he
  | _ => simp [eff, hop] at he
end Go.Proofs.Ytohpgnpjijpedaa.B
