/- Each operation: what the abstract machine says of it is so in the model. -/
import Derived.Test.YtohpgnpjijpedaaBSim6
namespace Go.Proofs.Ytohpgnpjijpedaa.B
open Go Go.RowKit Go.ChangeShapes Go.WideShapes
variable {U : Uni} {P : Program} {M : Mc U} {fr : Fr} {w : World} {g : G} {s : S U} {a : Act} {o : Oper}

theorem oneC_int {k : IntKind} {n : Int} : oneC (.int k n) = true ↔ k.min ≤ n ∧ n ≤ k.max := by simp [oneC]
theorem oneC_wrap (k : IntKind) (n : Int) : oneC (.int k (k.wrap n)) = true := oneC_int.2 (wrap_within k n)
theorem oneC_i64 {n : Int} : oneC (.int .i64 n) = true ↔ -9223372036854775808 ≤ n ∧ n ≤ 9223372036854775807 := by
  rw [oneC_int]; exact Iff.rfl
theorem oneC_str {b : ByteArray} : oneC (.string b) = true ↔ b.size ≤ 9223372036854775807 := by simp only [oneC, decide_eq_true_eq]; exact Iff.rfl

/-- The operation is carried out, and leaves what 'post' says, whatever else is asked. -/
def Done (P : Program) (o : Oper) (a : Act) (w : World) (post : Act → World → Prop) : Prop := ∀ Q, o.wp P a w post Q

theorem done_value {v : Value} {w' : World} {post : Act → World → Prop} (h : (execOp a.eval o).run P w = .ok (.value v) w') (hp : post (a.put o.dst v) w') : Done P o a w post := by
  intro Q; unfold Oper.wp; rw [h]; exact hp
theorem done_skip {w' : World} {post : Act → World → Prop} (h : (execOp a.eval o).run P w = .ok .skip w') (hp : post (a.put o.dst undef) w') : Done P o a w post := by
  intro Q; unfold Oper.wp; rw [h]; exact hp

/-- What is to be shown of an operation's effect. -/
def Goal (P : Program) (M : Mc U) (fr : Fr) (s : S U) (o : Oper) (r : Res U) (a' : Act) (w' : World) : Prop := ∃ g', Sim P M.E fr g' (s.upd o.dst r) a' w'

theorem pure_sound (h : Sim P M.E fr g s a w) {v : Value} {x : AV U} {ob : List Prop} (hrun : (execOp a.eval o).run P w = .ok (.value v) w) (hv : AVRel P M.E g s.ob w v x) :
    Done P o a w (Goal P M fr s o ⟨ob, x, [], []⟩) := done_value hrun ⟨g, h.put hv rfl rfl⟩

theorem ok_eq {x : AV U} {r : Res U} (h : ok x = some r) : r = ⟨[], x, [], []⟩ := by simp [ok] at h; exact h.symm
theorem okR_eq {x : Option (AV U)} {r : Res U} (h : okR x = some r) : ∃ y, x = some y ∧ r = ⟨[], y, [], []⟩ := by
  unfold okR at h
  split at h
  · exact ⟨_, rfl, ok_eq h⟩
  · simp at h

theorem fv_rel (hF : FnsOK P M) {St : Nat → Nat → Prop} {f : FuncId} {φ : FV U} (hf : M.fvs f = some φ) : FunRel P M.E St w (.func (.func f) #[] #[]) φ := by
  refine ⟨f, #[], rfl, hF.fvb f φ hf, fun St' w' hk hb args ob rs hφ hob vs hvs => ?_⟩
  have hc := hF.fvs f φ args ob rs hf hφ hob w' St' vs hb (by
    have : All2 (DRel P M.E St' w') vs (args.map D.d) := All2.map_right D.d (fun _ _ h => h) hvs
    exact this)
  rw [Array.append_empty]; exact hc

theorem Sim.ev (hF : FnsOK P M) (h : Sim P M.E fr g s a w) {x : Operand} {v : AV U} (hx : s.ev M x = some v) : AVRel P M.E g s.ob w (a.eval x) v := by
  cases x with
  | tmp t => exact h.slot hx
  | const c =>
    simp only [S.ev] at hx
    cases c <;> simp only [evC] at hx <;> first
      | (simp at hx; done)
      | (split at hx <;> first | (simp at hx; done) | (rename_i h1; simp at hx; subst hx; exact ⟨rfl, h1⟩))
      | (simp at hx; subst hx; exact ⟨rfl, rfl⟩)
  | global n => simp [S.ev] at hx
  | func f =>
    simp only [S.ev] at hx
    split at hx
    · rename_i φ hφ
      simp at hx; subst hx
      exact fv_rel hF hφ
    · simp at hx; subst hx
      exact ⟨rfl, by simp⟩

theorem nil_slice {x : Operand} (h : isNilSlice x = true) : x = .const (.slice none 0 0) := by
  unfold isNilSlice at h
  split at h
  · rfl
  · simp at h
theorem Sim.evT (hF : FnsOK P M) (h : Sim P M.E fr g s a w) {t : TypeId} {x : Operand} {v : AV U} (hx : s.evT M t x = some v) : AVRel P M.E g s.ob w (a.eval x) v := by
  unfold S.evT at hx
  split at hx
  · rename_i hn
    have := nil_slice hn; subst this
    split at hx
    · simp at hx; subst hx
      exact ⟨.nil _ _ _, fun _ => ⟨_, _, rfl⟩⟩
    · simp at hx
  · exact h.ev hF hx

theorem move_sound (hF : FnsOK P M) (h : Sim P M.E fr g s a w) {x : Operand} {r : Res U} (ho : o.op = .move x ∨ o.op = .assign x) (he : okR (s.evT M o.type x) = some r) : Done P o a w (Goal P M fr s o r) := by
  obtain ⟨y, hy, rfl⟩ := okR_eq he
  refine pure_sound h (v := a.eval x) ?_ (h.evT hF hy)
  rcases ho with ho | ho <;> simp [execOp, ho]

theorem pick_sound (hF : FnsOK P M) (h : Sim P M.E fr g s a w) {c x y : Operand} {r : Res U} (ho : o.op = .pick c x y) {b : Bool} (hc : s.ev M c = some (.one (.c (.s (.bool b)))))
    (he : okR (match b with | true => s.evT M o.type x | false => s.evT M o.type y) = some r) : Done P o a w (Goal P M fr s o r) := by
  have hcv : a.eval c = .bool b := (h.ev hF hc).1
  obtain ⟨z, hz, rfl⟩ := okR_eq he
  cases b with
  | true => exact pure_sound h (v := a.eval x) (by simp [execOp, ho, hcv, asBool]) (h.evT hF hz)
  | false => exact pure_sound h (v := a.eval y) (by simp [execOp, ho, hcv, asBool]) (h.evT hF hz)

theorem cells_rel {E : Enc U} {ob : List (Option (Ob U))} {v : Value} {x : AV U} {cs : List (C U)} (hc : x.cells = some cs) (h : AVRel P E g ob w v x) : All2 (CRel P E g ob w) v.cells.toList cs := by
  cases x with
  | one y =>
    cases y with
    | c z =>
      simp [AV.cells] at hc; subst hc
      have h1 := CRel.one h
      have : v.cells = #[v] := by cases v <;> first | rfl | simp [oneC] at h1
      rw [this]; exact ⟨h, trivial⟩
    | agg zs => simp [AV.cells] at hc; subst hc; obtain ⟨arr, rfl, h2⟩ := h; exact h2
    | top => simp [AV.cells] at hc
  | tup al => simp [AV.cells] at hc
  | undef => simp [AV.cells] at hc

theorem mkAV_rel {E : Enc U} {ob : List (Option (Ob U))} {vs : List Value} {cs : List (C U)} {agg : Bool} {x : AV U} (hm : mkAV agg cs = some x) (h : All2 (CRel P E g ob w) vs cs) :
    (agg = true → AVRel P E g ob w (.agg vs.toArray) x) ∧ (agg = false → ∃ v, vs = [v] ∧ AVRel P E g ob w v x) := by
  cases agg with
  | true => simp [mkAV] at hm; subst hm; exact ⟨fun _ => ⟨vs.toArray, rfl, by simpa using h⟩, by simp⟩
  | false =>
    refine ⟨by simp, fun _ => ?_⟩
    match cs, vs, hm, h with
    | [c], [v], hm, h => simp [mkAV] at hm; subst hm; exact ⟨v, rfl, h.1⟩
    | [], _, hm, _ => simp [mkAV] at hm
    | _ :: _ :: _, _, hm, _ => simp [mkAV] at hm
    | [_], [], _, h => exact h.elim
    | [_], _ :: _ :: _, _, h => exact h.2.elim

theorem run_isAgg {t : TypeId} {agg : Bool} {n : Nat} (h : Shp P t agg n) (w : World) : (isAgg t).run P w = .ok agg w := by
  obtain ⟨d, i, h1, h2, _, _⟩ := h
  unfold isAgg
  rw [Sem.run_bind, run_underlying h1]
  cases d <;> simp_all [aggD]
theorem run_sizeOf {t : TypeId} {agg : Bool} {n : Nat} (h : Shp P t agg n) (w : World) : (Go.sizeOf t).run P w = .ok n w := by
  obtain ⟨d, i, _, _, h3, h4⟩ := h
  simp [Go.sizeOf, typeInfo, h3, h4]
theorem run_sizeOf_info {t : TypeId} {i : TypeInfo} (h : P.info? t = some i) (w : World) : (Go.sizeOf t).run P w = .ok i.size w := by
  simp [Go.sizeOf, typeInfo, h]

/-- Some cells of an element. -/
theorem enc_cells {E : Enc U} {ob : List (Option (Ob U))} {τ : U.Ty} {xs : List (U.Den τ)} {i off n b o' : Nat} {cv : Nat → Nat → Value} (hi : i < xs.length) (hlen : off + n ≤ U.sz τ)
    (h1 : ∀ j, j < U.sz τ → w.cell? ⟨b, o' + i * U.sz τ + j, none⟩ = some (cv i j)) (h2 : ∀ j d, (E.enc τ xs[i])[j]? = some d → VRel E g.St w (cv i j) d) :
    ∃ vs : List Value, vs.length = n ∧ (∀ (j : Nat) v, vs[j]? = some v → w.cell? ⟨b, o' + i * U.sz τ + off + j, none⟩ = some v) ∧ All2 (CRel P E g ob w) vs ((((E.enc τ (xs.getD i (U.dflt τ))).drop off).take n).map C.ofV) := by
  have hx : xs.getD i (U.dflt τ) = xs[i] := by rw [List.getD_eq_getElem?_getD, List.getElem?_eq_getElem hi]; rfl
  rw [hx]
  have hel := E.len τ xs[i]
  refine ⟨(List.range n).map (fun j => cv i (off + j)), by simp, ?_, ?_⟩
  · intro j v hv
    obtain ⟨hj, rfl⟩ := get_map_range hv
    have := h1 (off + j) (by omega)
    rw [show o' + i * U.sz τ + off + j = o' + i * U.sz τ + (off + j) from by omega]; exact this
  · refine All2.of_get (by simp; omega) ?_
    intro j v d hv hd
    obtain ⟨hj, rfl⟩ := get_map_range hv
    rw [List.getElem?_map, List.getElem?_take_of_lt hj, List.getElem?_drop] at hd
    cases he : (E.enc τ xs[i])[off + j]? with
    | none => simp [he] at hd
    | some e =>
      simp [he] at hd; subst hd
      exact vrel_c rfl (h2 (off + j) e he)

/-- The cells at an address. -/
theorem Sim.cellsAt (h : Sim P M.E fr g s a w) {p : C U} {n : Nat} {cs : List (C U)} {pv : Value} (hp : CRel P M.E g s.ob w pv p) (hc : s.at M p n = some cs) :
    ∃ b o vs, pv = .pointer (some ⟨b, o, none⟩) ∧ vs.length = n ∧ (∀ (j : Nat) v, vs[j]? = some v → w.cell? ⟨b, o + j, none⟩ = some v) ∧ All2 (CRel P M.E g s.ob w) vs cs := by
  cases p with
  | bx k off =>
    obtain ⟨hl, hp⟩ := hp
    simp only [S.at] at hc
    split at hc
    · rename_i fz cells hk
      split at hc
      · rename_i hlen
        simp at hc; subst hc
        obtain ⟨_, vs, h1, h2⟩ := h.bxs k fz cells hk
        refine ⟨g.β k, off, (vs.drop off).take n, hp, ?_, ?_, (h1.drop off).take n⟩
        · have := h1.length; simp; omega
        · intro j v hv
          have hj : j < n := by
            rcases Nat.lt_or_ge j n with hj | hj
            · exact hj
            · rw [List.getElem?_take_eq_none hj] at hv; simp at hv
          rw [List.getElem?_take_of_lt hj, List.getElem?_drop] at hv
          exact (h2 (off + j) v hv).1
      · simp at hc
    · simp at hc
  | el τ xs i off =>
    obtain ⟨hi, b, o', cap, hp, hr⟩ := hp
    simp only [S.at] at hc
    split at hc
    · rename_i hlen
      simp only [Option.some.injEq] at hc; subst hc
      rcases hr.inv with ⟨rfl, _⟩ | ⟨b', o'', cap', cv, hv', hcap, h1, h2⟩
      · simp at hi
      · simp at hv'
        obtain ⟨⟨rfl, rfl⟩, rfl⟩ := hv'
        obtain ⟨vs, i1, i2, i3⟩ := enc_cells (P := P) (ob := s.ob) (E := M.E) hi hlen (fun j hj => (h1 i j hi hj).2) (h2 i hi)
        exact ⟨b, _, vs, hp, i1, i2, i3⟩
    · simp at hc
  | em k ver i off =>
    simp only [S.at] at hc
    split at hc
    · rename_i o' ho
      split at hc
      · rename_i hlen
        simp only [Option.some.injEq] at hc; subst hc
        obtain ⟨h1, h2⟩ := obAt_eq ho
        obtain ⟨_, o2, h3, _, h5⟩ := hp
        rw [h1] at h3; simp at h3; subst h3
        obtain ⟨hi, b, off', e, hv⟩ := h5 h2.symm
        have hoR := h.obs k o' h1
        obtain ⟨b2, off2, cv, e2, hA⟩ := hoR.2 (by have := hoR.1.1; omega)
        rw [e] at e2; simp at e2; obtain ⟨rfl, rfl⟩ := e2
        obtain ⟨vs, i1, i2, i3⟩ := enc_cells (P := P) (ob := s.ob) (E := M.E) (g := g) hi hlen (fun j hj => (hA.cell i j hi hj).1) (hA.rel i hi)
        exact ⟨b, _, vs, hv, i1, i2, i3⟩
      · simp at hc
    · simp at hc
  | _ => simp [S.at] at hc

theorem load_sound (hT : TabOK P M) (hF : FnsOK P M) (h : Sim P M.E fr g s a w) {t : TypeId} {x : Operand} {r : Res U} (ho : o.op = .load t x) (he : eff M s o = some r) : Done P o a w (Goal P M fr s o r) := by
  simp only [eff, ho] at he
  split at he
  · rename_i p hx
    split at he
    · rename_i agg n hsh
      split at he
      · rename_i cs hat
        obtain ⟨y, hm, rfl⟩ := okR_eq he
        have hp : CRel P M.E g s.ob w (a.eval x) p := h.ev hF hx
        obtain ⟨b, off, vs, e1, e2, e3, e4⟩ := h.cellsAt hp hat
        have hshp := (hT.ti t).1 agg n hsh
        have hmk := mkAV_rel hm e4
        cases agg with
        | true =>
          refine pure_sound h (v := .agg vs.toArray) ?_ (hmk.1 rfl)
          simp only [execOp, ho, e1, Instr.loadAt, Instr.sureAddr, loadVar, Sem.run_bind, Sem.run_pure, Result.andThen_ok, run_isAgg hshp, run_sizeOf hshp, if_true]
          rw [← e2, run_loadCells w b off vs e3]; rfl
        | false =>
          obtain ⟨v, rfl, hv⟩ := hmk.2 rfl
          refine pure_sound h (v := v) ?_ hv
          have hc := e3 0 v rfl
          simp only [Nat.add_zero] at hc
          simp only [execOp, ho, e1, Instr.loadAt, Instr.sureAddr, loadVar, Sem.run_bind, Sem.run_pure, Result.andThen_ok, run_isAgg hshp, Bool.false_eq_true, if_false, run_load, hc]
      · simp at he
    · simp at he
  · simp at he

theorem upd_none (s : S U) (r : Res U) : s.upd none r = { s with bx := sets s.bx r.bw, ob := sets s.ob r.ow } := rfl

theorem store_sound (hT : TabOK P M) (hF : FnsOK P M) (h : Sim P M.E fr g s a w) {t : TypeId} {x y : Operand} {r : Res U} (ho : o.op = .store t x y) (he : eff M s o = some r) (hob : ∀ p ∈ r.ob, p) : Done P o a w (Goal P M fr s o r) := by
  simp only [eff, ho] at he
  split at he
  · rename_i p cs hx hy hd
    split at he
    · rename_i agg n hsh
      split at he
      · rename_i hl
        cases hyv : s.evT M t y with
        | none => simp [hyv] at hy
        | some yv =>
          simp [hyv] at hy
          have hcs := cells_rel hy (h.evT hF hyv)
          have hp : CRel P M.E g s.ob w (a.eval x) p := h.ev hF hx
          have hshp := (hT.ti t).1 agg n hsh
          have hlen := hcs.length
          have hsz : (a.eval y).cells.size = n := by rw [← Array.length_toList, hlen]; exact hl
          have hone : ∀ v ∈ (a.eval y).cells.toList, oneC v = true := fun v hv => by
            obtain ⟨j, hj⟩ := List.getElem?_of_mem hv
            obtain ⟨c, _, hc⟩ := hcs.get' j hj
            exact hc.one
          cases p with
          | bx k off =>
            simp only [effStore] at he
            split at he
            · rename_i cells hk
              split at he
              · rename_i hfit
                obtain ⟨hlb, hxv⟩ := hp
                obtain ⟨_, vs0, i1, i2⟩ := h.bxs k false cells hk
                obtain ⟨w', hrun, hst⟩ := run_storeCells (P := P) (a.eval y).cells.toList w (g.β k) off 0 hone (fun j hj => by
                    have hlt : off + 0 + j < vs0.length := by rw [i1.length]; omega
                    obtain ⟨g1, g2, _⟩ := i2 (off + 0 + j) _ (List.getElem?_eq_getElem hlt)
                    exact ⟨⟨_, g1⟩, (g2 rfl).1⟩)
                have hrunS : (execOp a.eval o).run P w = .ok .skip w' := by
                  simp only [execOp, ho, hxv, Instr.storeAt, Instr.sureAddr, storeVar, Sem.run_bind, Sem.run_pure, Result.andThen_ok, run_sizeOf hshp, hsz, ne_eq, not_true, if_false, hrun]
                split at he
                · simp only [Option.some.injEq] at he; subst he
                  refine done_skip (w' := w') hrunS ⟨g, ?_⟩
                  rw [hd, upd_none]
                  have := h.store hk hfit hcs hst
                  exact this
                · split at he
                  · rename_i vs hvs
                    simp only [Option.some.injEq] at he; subst he
                    obtain ⟨g1, hs1, hg1, hf1, hfz⟩ := Sim.frzs (Cs.obs cs) (s0 := s) rfl h (FrzLe.refl _)
                    have hvr := hs1.frozenVs (s0 := s) hf1 (fun q hq => hfz q (.inl hq)) hvs (hcs.imp fun _ _ => CRel.mono hg1)
                    have hc1 := All2.map_right (R' := CRel P M.E g1 (sets s.ob (s.frz (Cs.obs cs))) w) C.ofV (fun _ _ hh => vrel_c rfl hh) hvr
                    have hvl : (vs.map C.ofV).length = cs.length := by rw [← hc1.length, hlen]
                    refine done_skip (w' := w') hrunS ⟨g1, ?_⟩
                    rw [hd, upd_none]
                    have hβ : g1.β k = g.β k := (hg1.lb k hlb).2
                    have hst1 : Stored w w' (g1.β k) off (a.eval y).cells.toList := by rw [hβ]; exact hst
                    have := hs1.store (k := k) hk (by rw [hvl]; exact hfit) hc1 hst1
                    rw [hvl] at this
                    exact this
                  · simp at he
              · simp at he
            · simp at he
          | em k ver i off =>
            simp only [effStore] at he
            split at he
            · rename_i o' vs ho' hvs
              split at he
              · rename_i f hfr
                split at he
                · rename_i hfit
                  split at he
                  · rename_i z hz
                    simp at he; subst he
                    have hfi : f ≤ i := hob _ (List.mem_singleton.2 rfl)
                    obtain ⟨h1, h2⟩ := obAt_eq ho'
                    obtain ⟨_, o2, h3, _, h5⟩ := hp
                    rw [h1] at h3; simp at h3; subst h3
                    obtain ⟨hi, b, off', e, hv⟩ := h5 h2.symm
                    obtain ⟨g1, hs1, hg1, hf1, hfz⟩ := Sim.frzs (Cs.obs cs) (s0 := s) rfl h (FrzLe.refl _)
                    -- k itself is not frozen
                    have hk1 : (sets s.ob (s.frz (Cs.obs cs)))[k]? = some (some o') := by
                      have hnk : ∀ (ks : List Nat) (l : List (Option (Ob U))), k ∉ ks → (sets l (s.frz ks))[k]? = l[k]? := by
                        intro ks
                        induction ks with
                        | nil => intro l _; rfl
                        | cons q ks ih =>
                          intro l hn
                          simp only [List.mem_cons, not_or] at hn
                          simp only [S.frz]
                          split
                          · simp only [sets]; rw [ih _ hn.2, List.getElem?_set_ne (Ne.symm hn.1)]
                          · exact ih _ hn.2
                      rw [hnk _ _ hfit.2]; exact h1
                    have hvr := hs1.frozenVs (s0 := s) hf1 (fun q hq => hfz q (.inl hq)) hvs (hcs.imp fun _ _ => CRel.mono hg1)
                    have htk1 : (g1.tk k).1 = some ⟨b, off', none⟩ := by
                      obtain ⟨o3, j1, j2, j3⟩ := hg1.ob k o' h1
                      rw [hk1] at j1; simp at j1; subst j1
                      rw [(j3 rfl).2.2]; exact e
                    have hoR := hs1.obs k o' hk1
                    obtain ⟨b2, off2, cv, e2, hA⟩ := hoR.2 (by have := hoR.1.1; omega)
                    rw [htk1] at e2; simp at e2; obtain ⟨rfl, rfl⟩ := e2
                    have hul := hvr.length
                    obtain ⟨w', hrun, hst⟩ := run_storeCells (P := P) (a.eval y).cells.toList w b (off' + i * U.sz o'.τ + off) 0 hone (fun j hj => by
                        obtain ⟨c1, c2⟩ := hA.cell i (off + j) hi (by omega)
                        unfold Mode at c2; rw [hfr] at c2
                        rw [show off' + i * U.sz o'.τ + off + 0 + j = off' + i * U.sz o'.τ + (off + j) from by omega]
                        exact ⟨⟨_, c1⟩, (c2.2 hfi).2⟩)
                    refine done_skip (w' := w') ?_ ⟨g1, ?_⟩
                    · simp only [execOp, ho, hv, Instr.storeAt, Instr.sureAddr, storeVar, Sem.run_bind, Sem.run_pure, Result.andThen_ok, run_sizeOf hshp, hsz, ne_eq, not_true, if_false, hrun]
                    · rw [hd, upd_none]
                      have hgetD : o'.xs.getD i (U.dflt o'.τ) = o'.xs[i] := by rw [List.getD_eq_getElem?_getD, List.getElem?_eq_getElem hi]; rfl
                      rw [hgetD] at hz
                      have := hs1.storeObj (k := k) (i := i) (off := off) (y := z) (vs := vs) hk1 hfr hfi hi htk1 hst hfit.1 hvr (M.E.back _ _ _ hz)
                      show Sim P M.E fr g1 { s with bx := s.bx, ob := sets s.ob (s.frz (Cs.obs cs) ++ [(k, some _)]) } a w'
                      rw [sets_append]
                      exact this
                  · simp at he
                · simp at he
              · simp at he
            · simp at he
          | _ => simp [effStore] at he
      · simp at he
    · simp at he
  · simp at he

theorem new_sound (h : Sim P M.E fr g s a w) {t : TypeId} {d : Nat} {cs : List (C U)} {vs : Array Value} (hd : o.dst = some d) (hk : s.bx[s.key d]? = some none) (hcs : All2 (CRel P M.E g s.ob w) vs.toList cs)
    (hrun : (execOp a.eval o).run P w = .ok (.value (.pointer (some ⟨w.heap.size, 0, none⟩))) (w.alloc (.cells vs t))) :
    Done P o a w (Goal P M fr s o ⟨[], .one (.c (.bx (s.key d) 0)), [(s.key d, some (false, cs))], []⟩) := by
  refine done_value hrun ?_
  obtain ⟨g', h1, h2⟩ := h.newBox (k := s.key d) t hk (Nat.le_add_right _ _) hcs
  refine ⟨g', ?_⟩
  simp only [Array.toArray_toList] at h1 h2
  exact Sim.put' (s' := s) (r := ⟨[], .one (.c (.bx (s.key d) 0)), [(s.key d, some (false, cs))], []⟩) h1 h2

theorem box_sound (hF : FnsOK P M) (h : Sim P M.E fr g s a w) {t : TypeId} {x : Operand} {r : Res U} (ho : o.op = .box t x) (he : eff M s o = some r) : Done P o a w (Goal P M fr s o r) := by
  simp only [eff, ho] at he
  split at he
  · rename_i cs d hx hd
    split at he
    · rename_i hk
      simp at he; subst he
      cases hxv : s.evT M t x with
      | none => simp [hxv] at hx
      | some xv =>
        simp [hxv] at hx
        refine new_sound (t := t) (vs := (a.eval x).cells) h hd hk (cells_rel hx (h.evT hF hxv)) ?_
        simp [execOp, ho, Instr.box, newVar, newRow]
    · simp at he
  · simp at he

theorem alloc_sound (hT : TabOK P M) (h : Sim P M.E fr g s a w) {t : TypeId} {r : Res U} (ho : o.op = .alloc t) (he : eff M s o = some r) : Done P o a w (Goal P M fr s o r) := by
  simp only [eff, ho] at he
  split at he
  · rename_i cs d hx hd
    split at he
    · rename_i hk
      simp at he; subst he
      obtain ⟨i, z, h1, h2, h3⟩ := hT.zero t cs hx
      refine new_sound (t := t) (vs := z.cells) h hd hk (h3.imp fun _ _ hz => hz _ _ _ _ _) ?_
      simp [execOp, ho, Instr.alloc, newVar, newRow, zeroValue, typeInfo, h1, h2]
    · simp at he
  · simp at he
end Go.Proofs.Ytohpgnpjijpedaa.B
