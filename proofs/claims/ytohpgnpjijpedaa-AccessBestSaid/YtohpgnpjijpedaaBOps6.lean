/- Literals: structs, arrays, slices. -/
import Derived.Test.YtohpgnpjijpedaaBOps5
namespace Go.Proofs.Ytohpgnpjijpedaa.B
open Go Go.RowKit
variable {U : Uni} {P : Program} {M : Mc U} {fr : Fr} {w : World} {g : G} {s : S U} {a : Act} {o : Oper}

theorem set_fold (off : Nat) : ∀ (l : List Value) (k : Nat) (cells : Array Value), off + k + l.length ≤ cells.size →
    ((l.zipIdx k).foldl (fun (cs : Array Value) (x : Value × Nat) => cs.setIfInBounds (off + x.2) x.1) cells).toList = cells.toList.take (off + k) ++ l ++ cells.toList.drop (off + k + l.length)
  | [], k, cells, _ => by simp
  | v :: l, k, cells, h => by
    simp only [List.zipIdx_cons, List.foldl_cons, List.length_cons] at h ⊢
    rw [set_fold off l (k + 1) _ (by simp; omega), toList_put]
    have hk : off + k < cells.toList.length := by simp; omega
    rw [show off + (k + 1) = off + k + 1 from by omega]
    rw [List.take_set, List.drop_set, if_pos (by omega), List.take_succ_eq_append_getElem hk]
    have : (cells.toList.take (off + k) ++ [cells.toList[off + k]]).set (off + k) v = cells.toList.take (off + k) ++ [v] := by
      have hl : (cells.toList.take (off + k)).length = off + k := by simp; omega
      rw [List.set_append_right _ _ (by omega), hl]; simp
    rw [this]
    simp only [List.append_assoc, List.singleton_append]
    rw [show off + k + 1 + l.length = off + k + (l.length + 1) from by omega]

theorem fill_rel {E : Enc U} {ob : List (Option (Ob U))} {place : Nat → Option (Nat × Nat)} : ∀ {ps : List (Nat × Value)} {qs : List (Nat × List (C U))} {cells : Array Value} {cs out : List (C U)},
    All2 (fun x y => x.1 = y.1 ∧ All2 (CRel P E g ob w) x.2.cells.toList y.2) ps qs → All2 (CRel P E g ob w) cells.toList cs → fillC place cs qs = some out →
    ∃ arr, Instr.fill place cells ps = some arr ∧ All2 (CRel P E g ob w) arr.toList out
  | [], [], cells, cs, out, _, hr, hf => by simp [fillC] at hf; subst hf; exact ⟨cells, rfl, hr⟩
  | (i, v) :: ps, (i', c) :: qs, cells, cs, out, hp, hr, hf => by
    obtain ⟨⟨rfl, hv⟩, hp'⟩ := hp
    simp only [fillC] at hf
    split at hf
    · simp at hf
    · rename_i off size hpl
      split at hf
      · rename_i hl
        have h1 := hv.length
        have h2 := hr.length
        have hsz : v.cells.size = size := by rw [← Array.length_toList, h1]; exact hl.1
        have hle : off + size ≤ cells.size := by rw [← Array.length_toList, h2]; exact hl.2
        have hsp := set_fold off v.cells.toList 0 cells (by simp; omega)
        have hcells : All2 (CRel P E g ob w) (v.cells.zipIdx.foldl (fun (cs : Array Value) (x : Value × Nat) => cs.setIfInBounds (off + x.2) x.1) cells).toList (cs.take off ++ c ++ cs.drop (off + size)) := by
          rw [← Array.foldl_toList, Array.toList_zipIdx, hsp, Nat.add_zero, Array.length_toList, hsz]
          exact ((hr.take off).append hv).append (hr.drop _)
        obtain ⟨arr, e1, e2⟩ := fill_rel hp' hcells hf
        refine ⟨arr, ?_, e2⟩
        unfold Instr.fill
        rw [hpl]
        dsimp only
        rw [if_neg (by simp; omega)]
        exact e1
      · simp at hf

theorem parts_rel (hF : FnsOK P M) (h : Sim P M.E fr g s a w) : ∀ {ps : List (Nat × Operand)} {qs : List (Nat × List (C U))}, partsC M s ps = some qs →
    All2 (fun x y => x.1 = y.1 ∧ All2 (CRel P M.E g s.ob w) x.2.cells.toList y.2) (ps.map fun x => (x.1, a.eval x.2)) qs
  | [], qs, hp => by simp [partsC] at hp; subst hp; trivial
  | (i, x) :: ps, qs, hp => by
    simp only [partsC] at hp
    split at hp
    · rename_i cs l hc hl
      simp at hp; subst hp
      cases hx : s.ev M x with
      | none => simp [hx] at hc
      | some v =>
        simp [hx] at hc
        exact ⟨⟨rfl, cells_rel hc (h.ev hF hx)⟩, parts_rel hF h hl⟩
    · simp at hp

theorem run_mapM_list {α β : Type} (f : α → Sem β) (G : α → β) (w : World) : ∀ (l : List α), (∀ x ∈ l, (f x).run P w = .ok (G x) w) → (l.mapM f).run P w = .ok (l.map G) w
  | [], _ => by simp
  | x :: l, h => by
    simp only [List.mapM_cons, Sem.run_bind, h x (by simp), Result.andThen_ok, run_mapM_list f G w l (fun y hy => h y (by simp [hy])), Sem.run_pure, List.map_cons]
theorem run_mapM {α β : Type} (f : α → Sem β) (G : α → β) (w : World) (l : Array α) (h : ∀ x ∈ l.toList, (f x).run P w = .ok (G x) w) : (l.mapM f).run P w = .ok (l.map G) w := by
  rw [Array.mapM_eq_mapM_toList, Sem.run_map, run_mapM_list f G w l.toList h]
  simp only [Result.andThen_ok]
  congr 1
  apply Array.ext'; simp

theorem build_sound (hT : TabOK P M) (hF : FnsOK P M) (h : Sim P M.E fr g s a w) {t : TypeId} {ps : Array (Nat × Operand)} {r : Res U} (ho : o.op = .build t ps) (he : eff M s o = some r) : Done P o a w (Goal P M fr s o r) := by
  simp only [eff, ho] at he
  split at he
  · rename_i z fs n l hz hti hp
    split at he
    · rename_i hzl
      split at he
      · rename_i cs hfill
        rw [ok_eq he]
        obtain ⟨i, zv, h1, h2, h3⟩ := hT.zero t z hz
        have hzr : All2 (CRel P M.E g s.ob w) zv.cells.toList z := h3.imp fun _ _ hh => hh _ _ _ _ _
        obtain ⟨fl, hu, hsz, hfl⟩ : ∃ fl, P.underlying t = some (.struct fl) ∧ fl.size = fs.length ∧ ∀ (f : Nat) d, fs[f]? = some d → ∃ fd, fl[f]? = some fd ∧ fd.offset = d.1 ∧ 0 < d.2.1 ∧ Shp P fd.type d.2.2 d.2.1 := by
          have := (hT.ti t).2; rw [hti] at this; exact this
        have hpr := parts_rel hF h hp
        obtain ⟨arr, e1, e2⟩ := fill_rel hpr hzr hfill
        have hin : ∀ fd ∈ fl.toList, ∃ (f : Nat) (d : Nat × Nat × Bool), fl[f]? = some fd ∧ fs[f]? = some d := by
          intro fd hfd
          obtain ⟨f, hf⟩ := List.getElem?_of_mem hfd
          rw [Array.getElem?_toList] at hf
          have hlt : f < fs.length := by rw [← hsz]; exact (Array.getElem?_eq_some_iff.1 hf).1
          exact ⟨f, fs[f], hf, List.getElem?_eq_getElem hlt⟩
        have hpl : (fl.mapM fun (f : Field) => (do pure (f.offset, ← Go.sizeOf f.type) : Sem (Nat × Nat))).run P w = .ok (fl.map fun (f : Field) => (f.offset, P.cellsOf f.type)) w := by
          refine run_mapM _ _ w fl fun fd hfd => ?_
          obtain ⟨f, d, i1, i2⟩ := hin fd hfd
          obtain ⟨fd', j1, j2, j3, j4⟩ := hfl f d i2
          rw [i1] at j1; simp at j1; subst j1
          obtain ⟨_, ii, _, _, k3, k4⟩ := j4
          simp [Go.sizeOf, typeInfo, k3, Program.cellsOf]
        have hplace : (fun (i : Nat) => (fl.map fun (f : Field) => (f.offset, P.cellsOf f.type))[i]?) = (fun (i : Nat) => (fs[i]?).map fun (f : Nat × Nat × Bool) => (f.1, f.2.1)) := by
          funext f
          rw [Array.getElem?_map]
          cases hf : fl[f]? with
          | none =>
            have : fs[f]? = none := List.getElem?_eq_none (by rw [← hsz]; exact Array.getElem?_eq_none_iff.1 hf)
            simp [this]
          | some fd =>
            have hlt : f < fs.length := by rw [← hsz]; exact (Array.getElem?_eq_some_iff.1 hf).1
            obtain ⟨fd', j1, j2, j3, j4⟩ := hfl f fs[f] (List.getElem?_eq_getElem hlt)
            rw [hf] at j1; simp at j1; subst j1
            obtain ⟨_, ii, _, _, k3, k4⟩ := j4
            simp [List.getElem?_eq_getElem hlt, j2, Program.cellsOf, k3, k4]
        refine pure_sound h (v := .agg arr) ?_ ⟨arr, rfl, e2⟩
        have e3 : Instr.fill (fun x => (fl.map fun (f : Field) => (f.offset, P.cellsOf f.type))[x]?) zv.cells (ps.map fun x => (x.1, a.eval x.2)).toList = some arr := by
          rw [hplace, Array.toList_map]; exact e1
        simp only [execOp, ho, Instr.build, zeroValue, typeInfo, Sem.run_bind, run_program, Result.andThen_ok, h1, h2, Sem.run_pure, run_underlying hu, hpl]
        rw [e3]
        rfl
      · simp at he
    · simp at he
  · rename_i z len esz eagg l hz hti hp
    split at he
    · rename_i hzl
      split at he
      · rename_i cs hfill
        rw [ok_eq he]
        obtain ⟨i, zv, h1, h2, h3⟩ := hT.zero t z hz
        have hzr : All2 (CRel P M.E g s.ob w) zv.cells.toList z := h3.imp fun _ _ hh => hh _ _ _ _ _
        obtain ⟨e, hu, hs⟩ : ∃ e, P.underlying t = some (.array len e) ∧ Shp P e eagg esz := by
          have := (hT.ti t).2; rw [hti] at this; exact this
        obtain ⟨arr, e1, e2⟩ := fill_rel (parts_rel hF h hp) hzr hfill
        refine pure_sound h (v := .agg arr) ?_ ⟨arr, rfl, e2⟩
        have e3 : Instr.fill (fun x => some (x * esz, esz)) zv.cells (ps.map fun x => (x.1, a.eval x.2)).toList = some arr := by
          rw [Array.toList_map]; exact e1
        simp only [execOp, ho, Instr.build, zeroValue, typeInfo, Sem.run_bind, run_program, Result.andThen_ok, h1, h2, Sem.run_pure, run_underlying hu, run_sizeOf hs]
        rw [e3]
        rfl
      · simp at he
    · simp at he
  · simp at he
theorem flat_get {α : Type} (l : List α) (hl : 0 < l.length) : ∀ (n q : Nat), q < n * l.length → ((List.replicate n l).flatten)[q]? = l[q % l.length]?
  | 0, q, h => by simp at h
  | n + 1, q, h => by
    rw [List.replicate_succ, List.flatten_cons]
    rcases Nat.lt_or_ge q l.length with h1 | h1
    · rw [List.getElem?_append_left h1, Nat.mod_eq_of_lt h1]
    · rw [List.getElem?_append_right h1, flat_get l hl n (q - l.length) (by rw [Nat.add_mul] at h; omega), Nat.mod_eq_sub_mod h1]
theorem flat_len {α : Type} (l : List α) (n : Nat) : ((List.replicate n l).flatten).length = n * l.length := by simp

theorem toVs_get : ∀ {cs : List (C U)} {ds : List (V U)} {j : Nat} {d : V U}, s.toVs cs = some ds → ds[j]? = some d → ∃ c, cs[j]? = some c ∧ s.toV c = some d
  | [], ds, j, d, h, hd => by simp [S.toVs] at h; subst h; simp at hd
  | c :: cs, ds, j, d, h, hd => by
    simp only [S.toVs] at h
    split at h
    · rename_i v vs h1 h2
      simp at h; subst h
      cases j with
      | zero => simp at hd; subst hd; exact ⟨c, rfl, h1⟩
      | succ j => simp only [List.getElem?_cons_succ] at hd ⊢; exact toVs_get h2 hd
    · simp at h

theorem dec_rows {τ : U.Ty} {z : Nat} (hz : z = U.sz τ) : ∀ (len : Nat) {cs : List (C U)} {xs : List (U.Den τ)}, decRows M s τ (chunks z len cs) = some xs → xs.length = len ∧
    ∀ i (hi : i < xs.length) j d, (M.E.enc τ xs[i])[j]? = some d → ∃ c, cs[i * z + j]? = some c ∧ s.toV c = some d
  | 0, cs, xs, h => by simp [chunks, decRows] at h; subst h; exact ⟨rfl, fun i hi => by simp at hi⟩
  | len + 1, cs, xs, h => by
    simp only [chunks, decRows] at h
    split at h
    · rename_i x r h1 h2
      simp at h; subst h
      obtain ⟨e1, e2⟩ := dec_rows hz len h2
      refine ⟨by simp [e1], fun i hi j d hd => ?_⟩
      cases hv : s.toVs (cs.take z) with
      | none => simp [hv] at h1
      | some ds =>
        simp [hv] at h1
        have hb := M.E.back τ ds x h1
        have hl := M.E.len τ x
        cases i with
        | zero =>
          simp only [List.getElem_cons_zero] at hd
          rw [hb] at hd
          obtain ⟨c, hc, hcv⟩ := toVs_get hv hd
          refine ⟨c, ?_, hcv⟩
          have hj : j < z := by
            have := (List.getElem?_eq_some_iff.1 hd).1
            rw [← hb, hl, ← hz] at this; exact this
          rw [List.getElem?_take_of_lt hj] at hc
          rw [Nat.zero_mul, Nat.zero_add]; exact hc
        | succ i =>
          simp only [List.getElem_cons_succ] at hd
          obtain ⟨c, hc, hcv⟩ := e2 i (by simpa using hi) j d hd
          refine ⟨c, ?_, hcv⟩
          rw [List.getElem?_drop] at hc
          rw [show (i + 1) * z + j = z + (i * z + j) from by rw [Nat.add_mul]; omega]; exact hc
    · simp at h

end Go.Proofs.Ytohpgnpjijpedaa.B
