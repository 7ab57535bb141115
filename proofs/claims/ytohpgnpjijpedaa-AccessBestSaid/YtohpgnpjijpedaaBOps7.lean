/- Literals of slices, make. -/
import Derived.Test.YtohpgnpjijpedaaBOps6
import Derived.Laws.MakeOwn
namespace Go.Proofs.Ytohpgnpjijpedaa.B
open Go Go.RowKit
variable {U : Uni} {P : Program} {M : Mc U} {fr : Fr} {w : World} {g : G} {s : S U} {a : Act} {o : Oper}

theorem partsK_rel (hT : TabOK P M) (hF : FnsOK P M) (h : Sim P M.E fr g s a w) {e : TypeId} : ∀ {ps : List (Nat × Operand)} {qs : List (Nat × List (C U))}, partsK M s e ps = some qs →
    All2 (fun x y => x.1 = y.1 ∧ All2 (CRel P M.E g s.ob w) x.2.cells.toList y.2) (ps.map fun x => (x.1, a.eval x.2)) qs
  | [], qs, hp => by simp [partsK] at hp; subst hp; trivial
  | (i, x) :: ps, qs, hp => by
    simp only [partsK] at hp
    split at hp
    · rename_i cs l hc hl
      simp at hp; subst hp
      refine ⟨⟨rfl, ?_⟩, partsK_rel hT hF h hl⟩
      unfold partK at hc
      split at hc
      · rename_i arr
        split at hc
        · rename_i z hz
          split at hc
          · rename_i hzs
            simp only [Option.some.injEq] at hc; subst hc
            exact (zs_of hzs).imp fun _ _ hh => hh _ _ _ _ _
          · cases hc
        · cases hc
      · cases hx : s.evT M e x with
        | none => simp [hx] at hc
        | some v =>
          simp [hx] at hc
          exact cells_rel hc (h.evT hF hx)
    · simp at hp

theorem sets_len {α : Type} : ∀ (x : List (Nat × α)) (l : List α), (sets l x).length = l.length
  | [], _ => rfl
  | (k, y) :: r, l => by simp only [sets]; rw [sets_len r]; simp

theorem frz_ver {s0 : S U} {ob' : List (Option (Ob U))} (hf : FrzLe s0.ob ob') {q ver : Nat} (h : ∀ o0, s0.ob[q]? = some (some o0) → o0.ver < ver) : ∀ o0, ob'[q]? = some (some o0) → o0.ver < ver := by
  intro o0 h0
  cases hq : s0.ob[q]? with
  | none => have := (hf q).2 (by rw [hq]; simp); rw [this, hq] at h0; simp at h0
  | some x =>
    cases x with
    | none => have := (hf q).2 (by rw [hq]; simp); rw [this, hq] at h0; simp at h0
    | some o1 =>
      obtain ⟨o2, h2, h3⟩ := (hf q).1 o1 hq
      rw [h2] at h0; simp at h0; subst h0
      rcases h3 with rfl | rfl
      · exact h _ hq
      · exact h o1 hq

theorem obs_mem {c : C U} {k : Nat} (h : k ∈ c.obs) : ∀ {cs : List (C U)} {i : Nat}, cs[i]? = some c → k ∈ Cs.obs cs
  | [], i, hc => by simp at hc
  | d :: cs, 0, hc => by simp at hc; subst hc; simp [Cs.obs, h]
  | d :: cs, i + 1, hc => by simp only [Cs.obs, List.mem_append]; exact .inr (obs_mem h (i := i) (by simpa using hc))

theorem buildSlice_sound (hT : TabOK P M) (hF : FnsOK P M) (h : Sim P M.E fr g s a w) {t : TypeId} {len : Nat} {ps : Array (Nat × Operand)} {r : Res U} (ho : o.op = .buildSlice t len ps) (he : eff M s o = some r) : Done P o a w (Goal P M fr s o r) := by
  simp only [eff, ho] at he
  split at he
  · rename_i e τ bytes d hti hd
    obtain ⟨hu, ⟨hz, _⟩, i, zv, hi, his, _, hiz, hzs⟩ := sl_ti hT hti
    split at he
    · rename_i zc l ver hze hp hver
      obtain ⟨hq, hvr⟩ := nver_spec hver
      split at he
      · rename_i hl
        obtain ⟨hzl, hlen, _⟩ := hl
        split at he
        · rename_i cs hfill
          split at he
          · rename_i xs hdec
            simp only [Option.some.injEq] at he; subst he
            obtain ⟨i', zv', h1, h2, h3⟩ := hT.zero e zc hze
            rw [hi] at h1; simp at h1; subst h1
            rw [hiz] at h2; simp at h2; subst h2
            have hzr : All2 (CRel P M.E g s.ob w) zv.cells.toList zc := h3.imp fun _ _ hh => hh _ _ _ _ _
            let zero : Array Value := if len * U.sz τ = 0 then #[] else zv.cells
            let rows : Array Value := (Array.range (len * U.sz τ)).map (fun q => zero[q % zero.size]!)
            have hrows : All2 (CRel P M.E g s.ob w) rows.toList ((List.replicate len zc).flatten) := by
              refine All2.of_get (by simp [rows, hzl]) ?_
              intro q v c hv hc
              have hq : q < len * U.sz τ := by
                have := (List.getElem?_eq_some_iff.1 hv).1
                simpa [rows] using this
              have hpos : 0 < zc.length := by rw [hzl]; exact hz
              rw [flat_get zc hpos len q (by rw [hzl]; exact hq), hzl] at hc
              have hzz : zero = zv.cells := by show (if _ then _ else _) = _; rw [if_neg (by omega)]
              have hv' : rows.toList[q]? = some (zv.cells[q % U.sz τ]!) := by
                simp only [rows, hzz, hzs, Array.toList_map, Array.toList_range, List.getElem?_map, List.getElem?_range hq, Option.map_some]
              rw [hv'] at hv
              simp only [Option.some.injEq] at hv; subst hv
              obtain ⟨u, hu1, hu2⟩ := hzr.get (q % U.sz τ) hc
              have hlt : q % U.sz τ < zv.cells.size := by rw [hzs]; exact Nat.mod_lt _ hz
              rw [Array.getElem?_toList, Array.getElem?_eq_getElem hlt] at hu1
              simp only [Option.some.injEq] at hu1
              rw [getElem!_pos zv.cells _ hlt, hu1]; exact hu2
            obtain ⟨arr, e1, e2⟩ := fill_rel (place := fun i => some (i * U.sz τ, U.sz τ)) (partsK_rel hT hF h hp) hrows hfill
            obtain ⟨x1, x2⟩ := dec_rows (M := M) (s := s) rfl len hdec
            have hal : arr.toList.length = len * U.sz τ := by
              rw [e2.length]
              have : ∀ (qs : List (Nat × List (C U))) (cs out : List (C U)), fillC (fun i => some (i * U.sz τ, U.sz τ)) cs qs = some out → out.length = cs.length := by
                intro qs
                induction qs with
                | nil => intro cs out hh; simp [fillC] at hh; rw [hh]
                | cons y qs ih =>
                  intro cs out hh
                  obtain ⟨k, ccs⟩ := y
                  simp only [fillC] at hh
                  split at hh
                  · rename_i hh2
                    rw [ih _ _ hh]; simp; omega
                  · simp at hh
              rw [this _ _ _ hfill]; simp [hzl]
            obtain ⟨g1, hs1, hg1, hf1, hfz⟩ := Sim.frzs (Cs.obs cs) (s0 := s) rfl h (FrzLe.refl _)
            obtain ⟨g2, hs2, hc2⟩ := hs1.newObj (q := s.okey d) (o := ⟨ver, τ, xs, some 0, true⟩) (by show _ < (sets s.ob _).length; rw [sets_len]; exact hq) (frz_ver hf1 hvr) e (arr := arr.toList) (cap := len) (f := 0) rfl (Nat.zero_le _) (by show xs.length ≤ len ∧ xs.length ≤ 9223372036854775807; have : len ≤ len * U.sz τ := Nat.le_mul_of_pos_right _ (by omega); omega) hal (fun i hi j d' hd' => by
              obtain ⟨c, hc, hcv⟩ := x2 i hi j d' hd'
              obtain ⟨u, hu1, hu2⟩ := e2.get _ hc
              exact ⟨u, hu1, hs1.frozenV (s0 := s) hf1 (fun q hq => hfz q (.inl (obs_mem hq hc))) hcv (CRel.mono hg1 hu2)⟩)
            have harr : arr.toList.toArray = arr := Array.toArray_toList
            rw [harr] at hs2 hc2
            refine done_value (v := .slice (some ⟨w.heap.size, 0, none⟩) len len) (w' := w.alloc (.cells arr e)) ?_ ⟨g2, Sim.put' (s' := s) ?_ ?_⟩
            · have e3 : Instr.fill (fun i => some (i * U.sz τ, U.sz τ)) rows (ps.map fun x => (x.1, a.eval x.2)).toList = some arr := by
                rw [Array.toList_map]; exact e1
              have hnb : ¬ (len * U.sz τ > 2 ^ 24) := by omega
              simp only [execOp, ho, Instr.buildSlice, Sem.run_bind, run_underlying hu, Result.andThen_ok, run_sizeOf_info hi, his]
              rw [if_neg hnb]
              simp only [Sem.run_bind, Sem.run_pure, Result.andThen_ok]
              by_cases h0 : len * U.sz τ = 0
              · have hz0 : zero = #[] := if_pos h0
                have e4 := e3
                simp only [rows, hz0] at e4
                rw [if_pos h0]
                simp only [Sem.run_bind, Sem.run_pure, Result.andThen_ok]
                rw [e4]
                simp [newRow]
              · have hz0 : zero = zv.cells := if_neg h0
                have e4 := e3
                simp only [rows, hz0] at e4
                rw [if_neg h0]
                simp only [Sem.run_bind, Sem.run_pure, Result.andThen_ok, zeroValue, typeInfo, run_program, hi, hiz]
                rw [e4]
                simp [newRow]
            · show Sim P M.E fr g2 { s with bx := s.bx, ob := sets s.ob (s.frz (Cs.obs cs) ++ [(s.okey d, some ⟨ver, τ, xs, some 0, true⟩)]) } a (w.alloc (.cells arr e))
              rw [sets_append]; exact hs2
            · show CRel P M.E g2 (sets s.ob (s.frz (Cs.obs cs) ++ [(s.okey d, some ⟨ver, τ, xs, some 0, true⟩)])) (w.alloc (.cells arr e)) (.slice (some ⟨w.heap.size, 0, none⟩) len len) (.ob (s.okey d) ver)
              rw [sets_append]
              have hc3 : CRel P M.E g2 ((sets s.ob (s.frz (Cs.obs cs))).set (s.okey d) (some ⟨ver, τ, xs, some 0, true⟩)) (w.alloc (.cells arr e)) (.slice (some ⟨w.heap.size, 0, none⟩) xs.length len) (.ob (s.okey d) ver) := hc2
              rw [x1] at hc3; exact hc3
          · simp at he
        · simp at he
      · simp at he
    · simp at he
  · simp at he

theorem toVs_get' : ∀ {cs : List (C U)} {ds : List (V U)}, s.toVs cs = some ds → ds.length = cs.length
  | [], ds, h => by simp [S.toVs] at h; subst h; rfl
  | c :: cs, ds, h => by
    simp only [S.toVs] at h
    split at h
    · rename_i v vs h1 h2; simp at h; subst h; simp [toVs_get' h2]
    · simp at h

theorem makeSlice_sound (hT : TabOK P M) (hF : FnsOK P M) (h : Sim P M.E fr g s a w) {t : TypeId} {x y : Operand} {r : Res U} (ho : o.op = .makeSlice t x y) (he : eff M s o = some r) (hob : ∀ p ∈ r.ob, p) : Done P o a w (Goal P M fr s o r) := by
  simp only [eff, ho] at he
  split at he
  · rename_i vl vc d hx hy hd
    unfold effMake at he
    split at he
    · rename_i n c e τ bytes hti
      obtain ⟨hu, ⟨hz, _⟩, i, zv, hi, his, hib, hiz, hzs⟩ := sl_ti hT hti
      split at he
      · rename_i zc ver hze hver
        obtain ⟨hq, hvr⟩ := nver_spec hver
        split at he
        · rename_i hzl
          split at he
          · rename_i x0 hx0
            simp only [Option.some.injEq] at he; subst he
            obtain ⟨q1, q2, q3⟩ := hob _ (List.mem_singleton.2 rfl)
            have hxv : a.eval x = .int .i64 n := (h.ev hF hx).1
            have hyv : a.eval y = .int .i64 c := (h.ev hF hy).1
            obtain ⟨i', zv', h1, h2, h3⟩ := hT.zero e zc hze
            rw [hi] at h1; simp at h1; subst h1
            rw [hiz] at h2; simp at h2; subst h2
            cases hds : s.toVs zc with
            | none => simp [hds] at hx0
            | some ds =>
              simp [hds] at hx0
              have hback := M.E.back _ _ _ hx0
              have hnc : n.toNat ≤ c.toNat := by omega
              have hcc : c ≤ 35184372088832 := by
                unfold roomB at q3
                have : c.toNat ≤ c.toNat * bytes := Nat.le_mul_of_pos_right _ (by assumption)
                omega
              have hw1 : IntKind.i64.wrap n = n := IntWalk.i64_in n (by omega)
              have hw2 : IntKind.i64.wrap c = c := IntWalk.i64_in c (by omega)
              generalize harrd : madeCells zv.cells (c.toNat * U.sz τ) = arr
              have hal : arr.toList.length = c.toNat * U.sz τ := by rw [← harrd, Array.length_toList, size_madeCells]
              have hag : ∀ q, q < c.toNat * U.sz τ → arr.toList[q]? = zv.cells.toList[q % U.sz τ]? := by
                intro q hqq
                have hlt : q % U.sz τ < zv.cells.size := by rw [hzs]; exact Nat.mod_lt _ hz
                rw [← harrd]
                simp only [madeCells, hzs, Array.toList_map, Array.toList_range, List.getElem?_map, List.getElem?_range hqq, Option.map_some, Array.getElem?_toList]
                rw [Array.getElem?_eq_getElem hlt, getElem!_pos zv.cells _ hlt]
              have hzr : ∀ (g' : G) (ob : List (Option (Ob U))) (w' : World), All2 (CRel P M.E g' ob w') zv.cells.toList zc := fun g' ob w' => h3.imp fun _ _ hh => hh _ _ _ _ _
              obtain ⟨g2, hs2, hc2⟩ := h.newObj (q := s.okey d) (o := ⟨ver, τ, List.replicate n.toNat x0, some 0, true⟩) hq hvr e (arr := arr.toList) (cap := c.toNat) (f := 0) rfl (Nat.zero_le _) (by simp; omega) hal (fun i1 hi1 j d' hd' => by
                have hi2 : i1 < n.toNat := by simpa using hi1
                have hd2 : (M.E.enc τ x0)[j]? = some d' := by
                  have : (List.replicate n.toNat x0)[i1]'(by simpa using hi2) = x0 := List.getElem_replicate _
                  rw [← this]; exact hd'
                rw [hback] at hd2
                have hj : j < U.sz τ := by
                  have := (List.getElem?_eq_some_iff.1 hd2).1
                  rw [toVs_get' hds, hzl] at this; exact this
                obtain ⟨cc, hc, hcv⟩ := toVs_get hds hd2
                obtain ⟨u, hu1, hu2⟩ := (hzr g s.ob w).get j hc
                refine ⟨u, ?_, ?_⟩
                · rw [hag _ (idx_lt (by omega) hj), show (i1 * U.sz τ + j) % U.sz τ = j from by rw [Nat.mul_comm, Nat.mul_add_mod, Nat.mod_eq_of_lt hj]]
                  exact hu1
                · obtain ⟨c2, hc2, hzz⟩ := h3.get' j hu1
                  rw [hc] at hc2; simp at hc2; subst hc2
                  cases cc with
                  | s x => simp [S.toV] at hcv; subst hcv; obtain ⟨rfl, hh⟩ := hu2; exact .s _ hh
                  | sl τ' xs f => simp [S.toV] at hcv; subst hcv; exact hu2.1
                  | ob k v =>
                    obtain ⟨_, o1, ho1, _⟩ := hzz P M.E g [] w
                    simp at ho1
                  | _ => simp [S.toV] at hcv)
              have harr : arr.toList.toArray = arr := Array.toArray_toList
              rw [harr] at hs2 hc2
              refine done_value (v := .slice (some ⟨w.heap.size, 0, none⟩) n.toNat c.toNat) (w' := w.alloc (.cells arr e)) ?_ ⟨g2, Sim.put' (s' := s) hs2 ?_⟩
              · have hprod : ((i.bytes : Int) * c) = ((c.toNat * i.bytes : Nat) : Int) := by
                  rw [Int.natCast_mul, Int.toNat_of_nonneg (by omega), Int.mul_comm]
                have hle : ((c.toNat * i.bytes : Nat) : Int) ≤ ((roomB : Nat) : Int) := Int.ofNat_le.2 (by rw [hib]; exact q3)
                have hr := run_make (P := P) w t e i zv hu hi hiz .i64 .i64 n c q1 q2 (by rw [hprod]; unfold roomB at hle; omega) (by omega)
                rw [his, harrd] at hr
                simp only [execOp, ho, hxv, hyv, Sem.run_bind, hr, Result.andThen_ok, Sem.run_pure]
              · have hc3 : CRel P M.E g2 (s.ob.set (s.okey d) (some ⟨ver, τ, List.replicate n.toNat x0, some 0, true⟩)) (w.alloc (.cells arr e)) (.slice (some ⟨w.heap.size, 0, none⟩) (List.replicate n.toNat x0).length c.toNat) (.ob (s.okey d) ver) := hc2
                rw [List.length_replicate] at hc3; exact hc3
          · simp at he
        · simp at he
      · simp at he
    · simp at he
  · simp at he
end Go.Proofs.Ytohpgnpjijpedaa.B
