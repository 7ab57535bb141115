/- append. -/
import Derived.Test.YtohpgnpjijpedaaBOps4
namespace Go.Proofs.Ytohpgnpjijpedaa.B
open Go Go.RowKit
variable {U : Uni} {P : Program} {M : Mc U} {fr : Fr} {w : World} {g : G} {s : S U} {a : Act} {o : Oper}

theorem rows_append {E : Enc U} {St : Nat → Nat → Prop} {τ : U.Ty} {xs ys : List (U.Den τ)} {vs us : List Value} (hl : vs.length = xs.length * U.sz τ)
    (h1 : ∀ i (hi : i < xs.length) j d, (E.enc τ xs[i])[j]? = some d → ∃ u, vs[i * U.sz τ + j]? = some u ∧ VRel E St w u d)
    (h2 : ∀ i (hi : i < ys.length) j d, (E.enc τ ys[i])[j]? = some d → ∃ u, us[i * U.sz τ + j]? = some u ∧ VRel E St w u d) :
    ∀ i (hi : i < (xs ++ ys).length) j d, (E.enc τ (xs ++ ys)[i])[j]? = some d → ∃ u, (vs ++ us)[i * U.sz τ + j]? = some u ∧ VRel E St w u d := by
  intro i hi j d hd
  rcases Nat.lt_or_ge i xs.length with h | h
  · rw [List.getElem_append_left h] at hd
    obtain ⟨u, hu, hr⟩ := h1 i h j d hd
    exact ⟨u, by rw [List.getElem?_append_left (List.getElem?_eq_some_iff.1 hu).1]; exact hu, hr⟩
  · rw [List.getElem_append_right h] at hd
    obtain ⟨u, hu, hr⟩ := h2 (i - xs.length) (by simp at hi; omega) j d hd
    refine ⟨u, ?_, hr⟩
    have e : i * U.sz τ = xs.length * U.sz τ + (i - xs.length) * U.sz τ := by rw [← Nat.add_mul]; congr 1; omega
    rw [List.getElem?_append_right (by rw [hl]; omega), hl]
    rw [show i * U.sz τ + j - xs.length * U.sz τ = (i - xs.length) * U.sz τ + j from by omega]
    exact hu

theorem run_app_fit {tx ty T e e' : TypeId} {i : TypeInfo} (ht : P.underlying tx = some (.slice e)) (ht' : P.underlying ty = some (.slice e')) (hi : P.info? e = some i) (p q : Option Addr) (n cap m c : Nat) (us : List Value) (w w' : World)
    (hf : (Builtin.firstCells i.size m (.slice q m c)).run P w = .ok us.toArray w) (hroom : n + m ≤ cap) (hst : (match p with | some x => storeCells (x.add (n * i.size)) us | none => pure ()).run P w = .ok () w') :
    (Builtin.append_ #[tx, ty] T #[.slice p n cap, .slice q m c]).run P w = .ok (.slice p (n + m) cap) w' := by
  cases p with
  | none => simp at hst; subst hst; simp [Builtin.append_, run_underlying ht, run_underlying ht', Go.sizeOf, typeInfo, hi, Builtin.lenOf, hroom, hf]
  | some x => simp [Builtin.append_, run_underlying ht, run_underlying ht', Go.sizeOf, typeInfo, hi, Builtin.lenOf, hroom, hf, hst]

theorem run_app_grow {tx ty T e e' : TypeId} {i : TypeInfo} {z : Value} (ht : P.underlying tx = some (.slice e)) (ht' : P.underlying ty = some (.slice e')) (hi : P.info? e = some i) (hz : i.zero = some z) (p q : Option Addr) (n cap m c : Nat) (olds us : List Value) (w : World)
    (hfo : (Builtin.firstCells i.size n (.slice p n cap)).run P w.drew = .ok olds.toArray w.drew) (hf : (Builtin.firstCells i.size m (.slice q m c)).run P w.drew = .ok us.toArray w.drew) (hroom : cap < n + m)
    (h63 : ((n + m : Nat) : Int) ≤ 9223372036854775807) (hfit : Builtin.nextslicecap (n + m) cap * i.bytes ≤ 281474976710656) :
    (Builtin.append_ #[tx, ty] T #[.slice p n cap, .slice q m c]).run P w =
      .ok (.slice (some ⟨w.heap.size, 0, none⟩) (n + m) (grownCap w (n + m) cap e)) (w.drew.alloc (.cells (olds ++ us ++ (Builtin.zeroCells z.cells (grownCap w (n + m) cap e - (n + m))).toList).toArray e)) := by
  have hn : ¬ (n + m ≤ cap) := by omega
  have h63' : ¬ (9223372036854775807 < ((n : Int) + (m : Int))) := by omega
  have h48' : ¬ (281474976710656 < Builtin.nextslicecap (n + m) cap * i.bytes) := by omega
  simp [Builtin.append_, run_underlying ht, run_underlying ht', Go.sizeOf, typeInfo, zeroValue, hi, hz, Builtin.lenOf, hn, h63', h48', Question.forced, hf, hfo, newRow, grownCap]
  congr 2
  apply Array.ext'
  simp [List.append_assoc]

theorem run_first {p : Option Addr} {n z cap : Nat} {vs : List Value} (hl : vs.length = n * z) (h : 0 < n → ∃ b o, p = some ⟨b, o, none⟩ ∧ ∀ (q : Nat) v, vs[q]? = some v → w.cell? ⟨b, o + q, none⟩ = some v) :
    (Builtin.firstCells z n (.slice p n cap)).run P w = .ok vs.toArray w := by
  rcases Nat.eq_zero_or_pos n with rfl | hn
  · have : vs = [] := List.eq_nil_of_length_eq_zero (by simpa using hl)
    subst this
    cases p <;> simp [Builtin.firstCells, loadCells, loadCellsFrom]
  · obtain ⟨b, o, rfl, hc⟩ := h hn
    simp only [Builtin.firstCells]
    rw [← hl]; exact run_loadCells w b o vs hc

/-- A slice without room, as an object. -/
theorem Sim.adopt {E : Enc U} (h : Sim P E fr g s a w) {q ver : Nat} {τ : U.Ty} {xs : List (U.Den τ)} {p : Option Addr} (hq : q < s.ob.length) (hver : ∀ o0, s.ob[q]? = some (some o0) → o0.ver < ver) (hv : VRel E g.St w (.slice p xs.length xs.length) (.dat τ xs)) (hmx : xs.length ≤ 9223372036854775807) :
    ∃ g', Sim P E fr g' { s with ob := s.ob.set q (some ⟨ver, τ, xs, some xs.length, true⟩) } a w ∧ CRel P E g' (s.ob.set q (some ⟨ver, τ, xs, some xs.length, true⟩)) w (.slice p xs.length xs.length) (.ob q ver) ∧ g'.β = g.β ∧ g'.ω = g.ω := by
  let g' : G := { g with tk := fun k => if k = q then (p, xs.length) else g.tk k }
  have htq : g'.tk q = (p, xs.length) := by show (if q = q then _ else _) = _; rw [if_pos rfl]
  have htn : ∀ k, k ≠ q → g'.tk k = g.tk k := fun k e => by show (if k = q then _ else _) = _; rw [if_neg e]
  have hg : GLe g s.ob w g' (s.ob.set q (some ⟨ver, τ, xs, some xs.length, true⟩)) w := ob_set_le hq hver (Keeps.refl _ _) (fun k hl => ⟨hl, rfl⟩) htn
  have hs : ∀ x, Same g w g' w x := fun x b i hx => ⟨hx, rfl, rfl⟩
  refine ⟨g', ?_, ⟨rfl, _, List.getElem?_set_self hq, Nat.le_refl _, fun _ => by rw [htq]⟩, rfl, rfl⟩
  refine { ext := h.ext, tms := h.tms.imp fun _ _ => AVRel.mono hg, bxs := fun k fz cells hk => ?_, lbs := h.lbs, obs := ?_, own := h.own, dfr := h.dfr, fix := h.fix, bas := h.bas }
  · obtain ⟨hl, hb⟩ := h.bxs k fz cells hk
    exact ⟨hl, hb.keep hl hg (hs _)⟩
  · intro k o' hk
    have hk' : (s.ob.set q (some (⟨ver, τ, xs, some xs.length, true⟩ : Ob U)))[k]? = some (some o') := hk
    by_cases e : k = q
    · subst e
      rw [List.getElem?_set_self hq] at hk'
      simp at hk'; subst hk'
      refine ⟨⟨by rw [htq]; exact ⟨Nat.le_refl _, hmx⟩, fun f hf => by simp at hf; subst hf; exact Nat.le_refl _⟩, fun hc => ?_⟩
      rw [htq] at hc ⊢
      rcases hv.inv with ⟨rfl, _⟩ | ⟨b, o2, cap', cv, hv', hcap, g1, g2⟩
      · simp at hc
      · simp at hv'; obtain ⟨rfl, _⟩ := hv'
        refine ⟨b, o2, cv, rfl, ⟨fun i j hi hj => ⟨(g1 i j hi hj).2, fun _ => (g1 i j hi hj).1, fun hh => ?_⟩, g2, fun _ x hx hx' => ?_⟩⟩
        · have h1 : xs.length ≤ i := hh
          have h2 : i < xs.length := hi
          omega
        · have h1 : xs.length * U.sz τ ≤ x := hx
          have h2 : x < xs.length * U.sz τ := hx'
          omega
    · rw [List.getElem?_set_ne (Ne.symm e)] at hk'
      exact (h.obs k o' hk').keep hg.st (hs _) (htn k e)

theorem nver_spec {q ver : Nat} (h : s.nver q = some ver) : q < s.ob.length ∧ ∀ o0, s.ob[q]? = some (some o0) → o0.ver < ver := by
  unfold S.nver at h
  split at h
  · rename_i o0 ho
    simp at h; subst h
    exact ⟨(List.getElem?_eq_some_iff.1 ho).1, fun o1 h1 => by rw [ho] at h1; simp at h1; subst h1; omega⟩
  · rename_i ho
    simp at h; subst h
    exact ⟨(List.getElem?_eq_some_iff.1 ho).1, fun o1 h1 => by rw [ho] at h1; simp at h1⟩
  · simp at h

theorem row_one {E : Enc U} {St : Nat → Nat → Prop} {τ : U.Ty} {ys : List (U.Den τ)} {p : Option Addr} {us : List Value} (hz : 0 < U.sz τ) (hr : RowAt E St w τ ys p us) : ∀ v ∈ us, oneC v = true := by
  obtain ⟨hul, _, r2⟩ := hr
  intro v hv'
  obtain ⟨jj, hj⟩ := List.getElem?_of_mem hv'
  have hj2 : jj < ys.length * U.sz τ := by rw [← hul]; exact (List.getElem?_eq_some_iff.1 hj).1
  have hd1 : jj / U.sz τ < ys.length := (Nat.div_lt_iff_lt_mul hz).2 hj2
  have hd2 : jj % U.sz τ < (E.enc τ ys[jj / U.sz τ]).length := by rw [E.len]; exact Nat.mod_lt _ hz
  obtain ⟨u, hu1, hu2⟩ := r2 (jj / U.sz τ) hd1 (jj % U.sz τ) _ (List.getElem?_eq_getElem hd2)
  rw [show jj / U.sz τ * U.sz τ + jj % U.sz τ = jj from by rw [Nat.mul_comm]; exact Nat.div_add_mod jj _, hj] at hu1
  simp at hu1; subst hu1; exact hu2.one

theorem first_of {E : Enc U} {St : Nat → Nat → Prop} {τ : U.Ty} {ys : List (U.Den τ)} {p : Option Addr} {us : List Value} {cap z : Nat} (hzz : z = U.sz τ) (hr : RowAt E St w τ ys p us) :
    (Builtin.firstCells z ys.length (.slice p ys.length cap)).run P w = .ok us.toArray w ∧ (Builtin.firstCells z ys.length (.slice p ys.length cap)).run P w.drew = .ok us.toArray w.drew := by
  obtain ⟨h1, h2, _⟩ := hr
  refine ⟨run_first (by rw [h1, hzz]) fun hn => ?_, run_first (by rw [h1, hzz]) fun hn => ?_⟩
  · exact h2 (by rintro rfl; simp at hn)
  · exact h2 (by rintro rfl; simp at hn)

theorem append_sound (hT : TabOK P M) (hF : FnsOK P M) (h : Sim P M.E fr g s a w) {c : Call} {r : Res U} (ho : o.op = .call c) (hc : c.callee = .builtin .append) (he : effBuiltin s M o .append c = some r) (hob : ∀ p ∈ r.ob, p) : Done P o a w (Goal P M fr s o r) := by
  unfold effBuiltin at he
  dsimp only at he
  split at he
  · rename_i x y tx ty d hx ht hd
    have ex := arr_of hx
    have et := arr_of ht
    split at he
    · rename_i vx vy e' τ₁ bytes' hxv hyv hti'
      obtain ⟨hu', _⟩ := sl_ti hT hti'
      unfold effAppend at he
      split at he
      · rename_i cy
        split at he
        · rename_i e τ₀ bytes τ' ys ver hti hly hver
          obtain ⟨hu, ⟨hz0, hby⟩, i, zv, hi, his, hib, hiz, hzs⟩ := sl_ti hT hti
          obtain ⟨hq, hvr⟩ := nver_spec hver
          have hyr : CRel P M.E g s.ob w (a.eval y) cy := h.evT hF hyv
          obtain ⟨q2, c2, ey, hc2⟩ := h.len hly hyr
          have hlen : ∀ n : Nat, n * bytes ≤ roomB → n ≤ roomB := fun n hn => Nat.le_trans (Nat.le_mul_of_pos_right n hby) hn
          have hrunp : ∀ (p : Option Addr) (n cap : Nat) (v : Value) (w' : World), a.eval x = .slice p n cap → (Builtin.append_ #[tx, ty] o.type #[.slice p n cap, .slice q2 ys.length c2]).run P w = .ok v w' → (execOp a.eval o).run P w = .ok (.value v) w' := by
            intro p n cap v w' ep hr
            simp [execOp, ho, resolve, hc, invoke, builtin, ex, et, ep, ey, hr]
          split at he
          · -- a slice without room
            rename_i τ xs
            split at he
            · rename_i h1 h2 hq1 hq2
              cases h1; cases h2
              simp at he; subst he
              have hroom := hob _ (List.mem_singleton.2 rfl)
              rw [ey] at hyr
              obtain ⟨_, _, us, hus⟩ := h.row hz0 hly hyr
              obtain ⟨hv, hfull⟩ : CRel P M.E g s.ob w (a.eval x) (.sl _ xs true) := h.evT hF hxv
              obtain ⟨p, n, ep⟩ := hfull rfl
              rw [ep] at hv
              have hn : n = xs.length := by
                rcases hv.inv with ⟨rfl, _, _, e⟩ | ⟨_, _, _, _, e, _⟩
                · simp at e; exact e.2.1
                · simp at e; exact e.2.1
              subst hn
              obtain ⟨_, _, vs, hvs⟩ := h.row (c := .sl _ xs true) hz0 rfl ⟨hv, fun _ => ⟨_, _, rfl⟩⟩
              rcases Nat.eq_zero_or_pos ys.length with hm | hm
              · have hys : ys = [] := List.eq_nil_of_length_eq_zero hm
                subst hys
                have hr := run_app_fit (P := P) (T := o.type) hu hu' hi p q2 xs.length xs.length 0 c2 [] w w (by have := (first_of (P := P) (cap := c2) his hus).1; have e0 : us = [] := List.eq_nil_of_length_eq_zero (by simpa using hus.1); subst e0; exact this) (by simp) (by cases p <;> simp [storeCells])
                obtain ⟨g1, hs1, hc1, _, _⟩ := h.adopt (q := s.okey d) (ver := ver) hq hvr hv (by have := hlen _ hroom; unfold roomB at this; simp at this; omega)
                refine done_value (hrunp _ _ _ _ _ ep hr) ⟨g1, ?_⟩
                have e2 : xs ++ [] = xs := List.append_nil _
                refine Sim.put' (s' := s) ?_ ?_
                · show Sim P M.E fr g1 { s with bx := s.bx, ob := s.ob.set (s.okey d) (some ⟨ver, τ₀, xs ++ [], some xs.length, true⟩) } a w
                  rw [e2]; exact hs1
                · show CRel P M.E g1 (s.ob.set (s.okey d) (some ⟨ver, τ₀, xs ++ [], some xs.length, true⟩)) w _ (.ob (s.okey d) ver)
                  rw [e2, Nat.add_zero]; exact hc1
              · have hgrow : xs.length < xs.length + ys.length := by omega
                have hcapg := grownCap_ge w (xs.length + ys.length) xs.length e
                have hr := run_app_grow (P := P) (T := o.type) hu hu' hi hiz p q2 xs.length xs.length ys.length c2 vs us w (first_of (P := P) (cap := xs.length) his hvs).2 (first_of (P := P) (cap := c2) his hus).2 hgrow (by have := hlen _ hroom; unfold roomB at this; omega) (growslice_fits hgrow (by rw [hib]; unfold roomB at hroom; omega))
                generalize hcc : grownCap w (xs.length + ys.length) xs.length e = cc at hcapg hr
                generalize hzz : (Builtin.zeroCells zv.cells (cc - (xs.length + ys.length))).toList = zz at hr
                have hzl : zz.length = (cc - (xs.length + ys.length)) * U.sz τ₀ := by rw [← hzz, Array.length_toList, size_zeroCells, hzs]
                have hll : (vs ++ us).length = (xs.length + ys.length) * U.sz τ₀ := by rw [List.length_append, hvs.1, hus.1, Nat.add_mul]
                have htot : (vs ++ us ++ zz).length = cc * U.sz τ₀ := by rw [List.length_append, hll, hzl, ← Nat.add_mul]; congr 1; omega
                have hd0 := h.later ((Ext.refl w).drew)
                have hnew := hd0.newObj (q := s.okey d) (o := ⟨ver, τ₀, xs ++ ys, some xs.length, true⟩) hq hvr e (arr := vs ++ us ++ zz) (cap := cc) (f := xs.length) rfl (by simp) (by have := hlen _ hroom; unfold roomB at this; simp; omega) htot (fun i' hi' j d' hd' => by
                  obtain ⟨u, hu1, hu2⟩ := rows_append (E := M.E) (St := g.St) (w := w) hvs.1 hvs.2.2 hus.2.2 i' hi' j d' hd'
                  refine ⟨u, by rw [List.getElem?_append_left (List.getElem?_eq_some_iff.1 hu1).1]; exact hu1, hu2.mono ?_⟩
                  exact fun b o' hs => ⟨hs, rfl⟩)
                obtain ⟨g1, hs1, hc1⟩ := hnew
                refine done_value (hrunp _ _ _ _ _ ep hr) ⟨g1, ?_⟩
                refine Sim.put' (s' := s) hs1 ?_
                have e1 : (xs ++ ys).length = xs.length + ys.length := List.length_append
                have hc2 : CRel P M.E g1 (s.ob.set (s.okey d) (some ⟨ver, τ₀, xs ++ ys, some xs.length, true⟩)) (w.drew.alloc (.cells (vs ++ us ++ zz).toArray e)) (.slice (some ⟨w.drew.heap.size, 0, none⟩) (xs ++ ys).length cc) (.ob (s.okey d) ver) := hc1
                rw [e1] at hc2; exact hc2
            · simp at he
          · -- an object
            rename_i k v
            split at he
            · rename_i o' ho'
              split at he
              · rename_i hlive
                split at he
                · rename_i h1 h2 hq1 hq2
                  have hz1 : 0 < U.sz o'.τ := by rw [← h2]; exact hz0
                  have hsz1 : i.size = U.sz o'.τ := by rw [his, h2]
                  have hzs1 : zv.cells.size = U.sz o'.τ := by rw [hzs, h2]
                  clear hq1 hq2
                  subst h1
                  simp only [Option.some.injEq] at he; subst he
                  have hroom : (o'.xs.length + ys.length) * bytes ≤ roomB := hob _ (List.mem_singleton.2 rfl)
                  rw [ey] at hyr
                  obtain ⟨_, _, us, hus⟩ := h.row hz1 hly hyr
                  have hxr : CRel P M.E g s.ob w (a.eval x) (.ob k v) := h.evT hF hxv
                  obtain ⟨ep, hoR⟩ := h.obval ho' hxr
                  obtain ⟨hk, hkv⟩ := obAt_eq ho'
                  have hxl : s.lst (.ob k v) = some ⟨o'.τ, o'.xs⟩ := by simp only [S.lst, ho']
                  rw [ep] at hxr
                  obtain ⟨_, hcap, vs, hvs⟩ := h.row hz1 hxl hxr
                  have hcast : castDen rfl ys = ys := rfl
                  rcases Nat.lt_or_ge (g.tk k).2 (o'.xs.length + ys.length) with hgrow | hfit
                  · have hcapg := grownCap_ge w (o'.xs.length + ys.length) (g.tk k).2 e
                    have hr := run_app_grow (P := P) (T := o.type) hu hu' hi hiz (g.tk k).1 q2 o'.xs.length (g.tk k).2 ys.length c2 vs us w (first_of (P := P) (cap := (g.tk k).2) hsz1 hvs).2 (first_of (P := P) (cap := c2) hsz1 hus).2 hgrow (by have := hlen _ hroom; unfold roomB at this; omega) (growslice_fits hgrow (by rw [hib]; unfold roomB at hroom; omega))
                    generalize hcc : grownCap w (o'.xs.length + ys.length) (g.tk k).2 e = cc at hcapg hr
                    generalize hzz : (Builtin.zeroCells zv.cells (cc - (o'.xs.length + ys.length))).toList = zz at hr
                    have hzl : zz.length = (cc - (o'.xs.length + ys.length)) * U.sz o'.τ := by rw [← hzz, Array.length_toList, size_zeroCells, hzs1]
                    have hll : (vs ++ us).length = (o'.xs.length + ys.length) * U.sz o'.τ := by rw [List.length_append, hvs.1, hus.1, Nat.add_mul]
                    have htot : (vs ++ us ++ zz).length = cc * U.sz o'.τ := by rw [List.length_append, hll, hzl, ← Nat.add_mul]; congr 1; omega
                    obtain ⟨hsp, hgsp⟩ := h.spend hk
                    have hd0 := hsp.later ((Ext.refl w).drew)
                    have hfroz : o'.frozen ≤ o'.xs.length := by
                      unfold Ob.frozen; split
                      · exact Nat.le_refl _
                      · rename_i f hf; exact hoR.1.2 f hf
                    have hrel : ∀ i' (hi' : i' < (o'.xs ++ ys).length) j d', (M.E.enc o'.τ (o'.xs ++ ys)[i'])[j]? = some d' → ∃ u, (vs ++ us ++ zz)[i' * U.sz o'.τ + j]? = some u ∧ VRel M.E g.St w.drew u d' := fun i' hi' j d' hd' => by
                      obtain ⟨u, hu1, hu2⟩ := rows_append (E := M.E) (St := g.St) (w := w) hvs.1 hvs.2.2 hus.2.2 i' hi' j d' hd'
                      refine ⟨u, by rw [List.getElem?_append_left (List.getElem?_eq_some_iff.1 hu1).1]; exact hu1, hu2.mono ?_⟩
                      exact fun b o' hs => ⟨hs, rfl⟩
                    have e1 : (o'.xs ++ ys).length = o'.xs.length + ys.length := List.length_append
                    have hfin : ∃ g1, Sim P M.E fr g1 { s with ob := (s.ob.set k (some o'.spent)).set (s.okey d) (some ⟨ver, o'.τ, o'.xs ++ ys, some o'.frozen, true⟩) } a (w.drew.alloc (.cells (vs ++ us ++ zz).toArray e)) ∧
                        CRel P M.E g1 ((s.ob.set k (some o'.spent)).set (s.okey d) (some ⟨ver, o'.τ, o'.xs ++ ys, some o'.frozen, true⟩)) (w.drew.alloc (.cells (vs ++ us ++ zz).toArray e)) (.slice (some ⟨w.drew.heap.size, 0, none⟩) (o'.xs ++ ys).length cc) (.ob (s.okey d) ver) := by
                      by_cases e0 : k = s.okey d
                      · subst e0
                        have hd1 := h.later ((Ext.refl w).drew)
                        rw [List.set_set]
                        exact hd1.newObj (q := s.okey d) (o := ⟨ver, o'.τ, o'.xs ++ ys, some o'.frozen, true⟩) hq hvr e (arr := vs ++ us ++ zz) (cap := cc) (f := o'.frozen) rfl (by simp; omega) (by have := hlen _ hroom; unfold roomB at this; simp; omega) htot hrel
                      · exact hd0.newObj (q := s.okey d) (o := ⟨ver, o'.τ, o'.xs ++ ys, some o'.frozen, true⟩) (by simpa using hq) (fun o0 h0 => by
                          have h0' : (s.ob.set k (some o'.spent))[s.okey d]? = some (some o0) := h0
                          rw [List.getElem?_set_ne e0] at h0'; exact hvr o0 h0') e (arr := vs ++ us ++ zz) (cap := cc) (f := o'.frozen) rfl (by simp; omega) (by have := hlen _ hroom; unfold roomB at this; simp; omega) htot hrel
                    obtain ⟨g1, hs1, hc1⟩ := hfin
                    refine done_value (hrunp _ _ _ _ _ ep hr) ⟨g1, ?_⟩
                    refine Sim.put' (s' := s) hs1 ?_
                    rw [e1] at hc1; exact hc1
                  · have hstore : ∃ w', (match (g.tk k).1 with | some x => storeCells (x.add (o'.xs.length * i.size)) us | none => pure ()).run P w = .ok () w' ∧ (us = [] ∧ w' = w ∨ ∃ b off, (g.tk k).1 = some ⟨b, off, none⟩ ∧ Stored w w' b (off + o'.xs.length * U.sz o'.τ) us) := by
                      by_cases hus0 : us = []
                      · subst hus0
                        refine ⟨w, ?_, .inl ⟨rfl, rfl⟩⟩
                        cases (g.tk k).1 <;> simp [storeCells]
                      · have hul : 0 < us.length := List.length_pos_iff.2 hus0
                        have hml : us.length = ys.length * U.sz o'.τ := hus.1
                        have hm : 0 < ys.length := by
                          rcases Nat.eq_zero_or_pos ys.length with h0 | h0
                          · rw [h0, Nat.zero_mul] at hml; omega
                          · exact h0
                        obtain ⟨b, off, cv, e2, hA⟩ := hoR.2 (by have := hfit; omega)
                        have h3 : (o'.xs.length + ys.length) * U.sz o'.τ ≤ (g.tk k).2 * U.sz o'.τ := Nat.mul_le_mul_right _ hfit
                        rw [Nat.add_mul] at h3
                        obtain ⟨w', hrun, hst⟩ := run_storeCells (P := P) us w b (off + o'.xs.length * U.sz o'.τ) 0 (row_one hz1 hus) (fun j hj => by
                          obtain ⟨_, d2, d3⟩ := hA.spare hlive (o'.xs.length * U.sz o'.τ + j) (by omega) (by omega)
                          rw [show off + o'.xs.length * U.sz o'.τ + 0 + j = off + (o'.xs.length * U.sz o'.τ + j) from by omega]
                          exact ⟨d2, d3⟩)
                        refine ⟨w', ?_, .inr ⟨b, off, e2, by rw [Nat.add_zero] at hst; exact hst⟩⟩
                        rw [e2]; simp only [add_none, hsz1]; exact hrun
                    obtain ⟨w', hrun, hst⟩ := hstore
                    have hr := run_app_fit (P := P) (T := o.type) hu hu' hi (g.tk k).1 q2 o'.xs.length (g.tk k).2 ys.length c2 us w w' (first_of (P := P) (cap := c2) hsz1 hus).1 hfit hrun
                    obtain ⟨g1, hs1, hc1⟩ := h.appIn (q := s.okey d) (ver := ver) (ys := ys) hz1 hk hlive hq hvr hfit (by have := hlen _ hroom; unfold roomB at this; omega) hus.1 hst hus.2.2
                    refine done_value (hrunp _ _ _ _ _ ep hr) ⟨g1, ?_⟩
                    exact Sim.put' (s' := s) hs1 hc1
                · simp at he
              · simp at he
            · simp at he
          · simp at he
        · simp at he
      · simp at he
    · simp at he
  · simp at he
end Go.Proofs.Ytohpgnpjijpedaa.B
