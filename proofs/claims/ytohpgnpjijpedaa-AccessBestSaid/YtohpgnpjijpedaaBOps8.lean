/- Calls and closures; all operations together. -/
import Derived.Test.YtohpgnpjijpedaaBOps7
namespace Go.Proofs.Ytohpgnpjijpedaa.B
open Go Go.RowKit
variable {U : Uni} {P : Program} {M : Mc U} {fr : Fr} {w : World} {g : G} {s : S U} {a : Act} {o : Oper}

theorem frz_nver {s0 s1 : S U} (hf : FrzLe s0.ob s1.ob) (q : Nat) : s1.nver q = s0.nver q := by
  unfold S.nver
  cases hq : s0.ob[q]? with
  | none => rw [(hf q).2 (by rw [hq]; simp), hq]
  | some x =>
    cases x with
    | none => rw [(hf q).2 (by rw [hq]; simp), hq]
    | some o1 =>
      obtain ⟨o2, h2, h3⟩ := (hf q).1 o1 hq
      rw [h2]
      rcases h3 with rfl | rfl <;> rfl
theorem frz_vers {s0 s1 : S U} (hf : FrzLe s0.ob s1.ob) : ∀ (os : List (Ob U)) (q : Nat), s1.vers q os = s0.vers q os
  | [], q => rfl
  | _ :: r, q => by simp only [S.vers, frz_nver hf, frz_vers hf r]

theorem run_enter {c : Call} {f : FuncId} {caps : Array Value} {w : World} (hb : HasBody P f) (ho : o.op = .call c) {x : Operand} (hc : c.callee = .value x) (hv : a.eval x = .func (.func f) #[] caps) :
    (execOp a.eval o).run P w = .ok (.enter f (c.args.map a.eval ++ caps)) w := by
  obtain ⟨fn, body, hfn, hbody, hname⟩ := hb
  have hn : fn.name ≠ "runtime.NumGoroutine" := by simpa using hname
  simp [execOp, ho, resolve, hc, hv, Deferred.ofValue, invoke, callFunc, hfn, hn, hbody]

/-- The results are numbers, truths, texts. -/
theorem scal_rel {E : Enc U} {gr g' : G} {ob ob' : List (Option (Ob U))} {w w' : World} {v : Value} {rs : List (A U)} (hs : rs.all A.scal = true) (h : RetRel (ARel P E gr ob w) v rs) : RetRel (ARel P E g' ob' w') v rs := by
  have hc : ∀ {u : Value} {c : C U}, c.scal = true → CRel P E gr ob w u c → CRel P E g' ob' w' u c := by
    intro u c hh hu
    cases c with
    | s x => exact hu
    | _ => simp [C.scal] at hh
  have hcs : ∀ {us : List Value} {cs : List (C U)}, cs.all C.scal = true → All2 (CRel P E gr ob w) us cs → All2 (CRel P E g' ob' w') us cs := by
    intro us cs
    induction cs generalizing us with
    | nil => intro _ hu; cases us with | nil => trivial | cons _ _ => exact hu.elim
    | cons c cs ih =>
      intro hh hu
      simp only [List.all_cons, Bool.and_eq_true] at hh
      cases us with
      | nil => exact hu.elim
      | cons u us => exact ⟨hc hh.1 hu.1, ih hh.2 hu.2⟩
  have ha : ∀ {u : Value} {x : A U}, x.scal = true → ARel P E gr ob w u x → ARel P E g' ob' w' u x := by
    intro u x hh hu
    cases x with
    | c y => exact hc hh hu
    | agg cs => obtain ⟨arr, e, h2⟩ := hu; exact ⟨arr, e, hcs hh h2⟩
    | top => trivial
  have has : ∀ {us : List Value} {al : List (A U)}, al.all A.scal = true → All2 (ARel P E gr ob w) us al → All2 (ARel P E g' ob' w') us al := by
    intro us al
    induction al generalizing us with
    | nil => intro _ hu; cases us with | nil => trivial | cons _ _ => exact hu.elim
    | cons c cs ih =>
      intro hh hu
      simp only [List.all_cons, Bool.and_eq_true] at hh
      cases us with
      | nil => exact hu.elim
      | cons u us => exact ⟨ha hh.1 hu.1, ih hh.2 hu.2⟩
  match rs, hs, h with
  | [], hs, h => obtain ⟨arr, e, h2⟩ := h; exact ⟨arr, e, has hs h2⟩
  | [x], hs, h => simp at hs; exact ha hs h
  | _ :: _ :: _, hs, h => obtain ⟨arr, e, h2⟩ := h; exact ⟨arr, e, has hs h2⟩

theorem scal_ret {q : Nat} {vers : List Nat} : ∀ {rs rs' : List (A U)}, rs.all A.scal = true → As.ret q vers rs = some rs' → rs' = rs
  | [], rs', _, h => by simp [As.ret] at h; exact h
  | x :: rs, rs', hs, h => by
    simp only [List.all_cons, Bool.and_eq_true] at hs
    simp only [As.ret] at h
    split at h
    · rename_i y ys h1 h2
      simp at h; subst h
      rw [scal_ret hs.2 h2]
      congr 1
      cases x with
      | c c =>
        cases c with
        | s v => simp [A.ret, C.ret] at h1; exact h1.symm
        | _ => simp [A.scal, C.scal] at hs
      | agg cs =>
        simp only [A.ret] at h1
        split at h1
        · rename_i z hz
          simp at h1; subst h1
          congr 1
          have : ∀ {cs zs : List (C U)}, cs.all C.scal = true → Cs.ret q vers cs = some zs → zs = cs := by
            intro cs
            induction cs with
            | nil => intro zs _ h; simp [Cs.ret] at h; exact h
            | cons c cs ih =>
              intro zs hh h
              simp only [List.all_cons, Bool.and_eq_true] at hh
              simp only [Cs.ret] at h
              split at h
              · rename_i x xs h1 h2
                simp at h; subst h
                rw [ih hh.2 h2]
                congr 1
                cases c with
                | s v => simp [C.ret] at h1; exact h1.symm
                | _ => simp [C.scal] at hh
              · simp at h
          exact this hs.1 hz
        · simp at h1
      | top => simp [A.scal] at hs
    · simp at h

theorem frz_get_ne {k : Nat} : ∀ {ks : List Nat} {l : List (Option (Ob U))}, k ∉ ks → (sets l (s.frz ks))[k]? = l[k]?
  | [], _, _ => rfl
  | q :: ks, l, hn => by
    simp only [List.mem_cons, not_or] at hn
    simp only [S.frz]
    split
    · simp only [sets]; rw [frz_get_ne hn.2, List.getElem?_set_ne (Ne.symm hn.1)]
    · exact frz_get_ne hn.2
theorem boxesAt_view {s' : S U} : ∀ {ks : List Nat}, (∀ k ∈ ks, s'.bx[k]? = s.bx[k]?) → s'.boxesAt ks = s.boxesAt ks
  | [], _ => rfl
  | k :: ks, h => by simp only [S.boxesAt, h k (List.mem_cons_self ..), boxesAt_view (ks := ks) (fun q hq => h q (List.mem_cons_of_mem _ hq))]
theorem passed_view {s' : S U} : ∀ {ks : List Nat}, (∀ k ∈ ks, s'.ob[k]? = s.ob[k]?) → s'.passed ks = s.passed ks
  | [], _ => rfl
  | k :: ks, h => by simp only [S.passed, h k (List.mem_cons_self ..), passed_view (ks := ks) (fun q hq => h q (List.mem_cons_of_mem _ hq))]
theorem spents_view {s' : S U} : ∀ {ks : List Nat}, (∀ k ∈ ks, s'.ob[k]? = s.ob[k]?) → s'.spents ks = s.spents ks
  | [], _ => rfl
  | k :: ks, h => by simp only [S.spents, h k (List.mem_cons_self ..), spents_view (ks := ks) (fun q hq => h q (List.mem_cons_of_mem _ hq))]
theorem frz_some {s0 s1 : S U} (hf : FrzLe s0.ob s1.ob) (k v : Nat) : (s1.obAt k v).isSome = (s0.obAt k v).isSome := by
  unfold S.obAt
  cases hq : s0.ob[k]? with
  | none => rw [(hf k).2 (by rw [hq]; simp), hq]
  | some x =>
    cases x with
    | none => rw [(hf k).2 (by rw [hq]; simp), hq]
    | some o1 =>
      obtain ⟨o2, h2, h3⟩ := (hf k).1 o1 hq
      rw [h2]
      rcases h3 with rfl | rfl
      · rfl
      · dsimp only; cases Nat.beq o1.ver v <;> rfl
theorem pass_frz {s0 s1 : S U} (hf : FrzLe s0.ob s1.ob) (ks oks : List Nat) (c : C U) : c.pass s1 ks oks = c.pass s0 ks oks := by
  cases c with
  | ob k v =>
    have := frz_some hf k v
    simp only [C.pass]
    cases h1 : s1.obAt k v <;> cases h0 : s0.obAt k v <;> rw [h1, h0] at this <;> first | rfl | (cases idx k oks 0 <;> rfl) | simp at this
  | em k v i off =>
    have := frz_some hf k v
    simp only [C.pass]
    cases h1 : s1.obAt k v <;> cases h0 : s0.obAt k v <;> rw [h1, h0] at this <;> first | rfl | (cases idx k oks 0 <;> rfl) | simp at this
  | _ => rfl
theorem meets_false : ∀ {l r : List Nat}, meets l r = false → ∀ k ∈ l, k ∉ r
  | [], _, _, k, hk => by simp at hk
  | x :: l, r, h, k, hk => by
    simp only [meets, Bool.or_eq_false_iff] at h
    rcases List.mem_cons.1 hk with rfl | hk
    · intro hr
      have := List.any_eq_false.1 h.1 k hr
      simp at this
    · exact meets_false h.2 k hk

theorem argG_rel {E : Enc U} {s1 : S U} {g1 : G} (hs1 : Sim P E fr g1 s1 a w) (hf : FrzLe s.ob s1.ob) {ks oks : List Nat} {os : List (Ob U)} (hos : s1.passed oks = some os) {m : Bool} {v : Value} {x y : A U}
    (hfz : ∀ k ∈ argOb s false m x, ∀ o, s1.ob[k]? = some (some o) → o.fr = none) (he : argG s ks oks m x = some y) (hx : ARel P E g1 s1.ob w v x) : ARel P E (g1.sub ks oks) (os.map some) w v y := by
  have hbx : ∀ {k off : Nat}, x = .c (.bx k off) → ARel P E (g1.sub ks oks) (os.map some) w v y := by
    rintro k off rfl
    have he' : (match idx k ks 0 with | some i => some (A.c (C.bx (U := U) i off)) | none => none) = some y := by cases m <;> exact he
    cases hi : idx k ks 0 with
    | none => rw [hi] at he'; simp at he'
    | some i =>
      rw [hi] at he'; simp at he'; subst he'
      have := pass_rel (ks := ks) hs1 hos (c := .bx k off) hx
      simp only [C.pass, hi] at this
      exact this
  have hdat : ∀ {c : C U}, x = .c c → (∀ k ∈ c.obs, ∀ o, s1.ob[k]? = some (some o) → o.fr = none) → (match s.toV c with | some d => some (A.c (C.ofV d)) | none => none) = some y → ARel P E (g1.sub ks oks) (os.map some) w v y := by
    rintro c rfl hk he'
    cases hd : s.toV c with
    | none => rw [hd] at he'; simp at he'
    | some d =>
      rw [hd] at he'; simp at he'; subst he'
      exact vrel_c rfl ((hs1.frozenV (s0 := s) hf hk hd hx).mono sub_keeps)
  have hpass : ∀ {c : C U}, x = .c c → some (A.c (c.pass s ks oks)) = some y → ARel P E (g1.sub ks oks) (os.map some) w v y := by
    rintro c rfl he'
    simp at he'; subst he'
    rw [← pass_frz hf]
    exact pass_rel hs1 hos hx
  cases x with
  | top => simp [argG] at he
  | agg cs =>
    simp only [argG] at he
    split at he
    · rename_i ds hds
      simp at he; subst he
      obtain ⟨arr, e, hh⟩ := hx
      have hk : ∀ k ∈ Cs.obs cs, ∀ o, s1.ob[k]? = some (some o) → o.fr = none := fun k hk => hfz k (by cases m <;> exact hk)
      exact ⟨arr, e, all_map C.ofV (fun _ _ hv => vrel_c rfl (hv.mono sub_keeps)) (hs1.frozenVs (s0 := s) hf hk hds hh)⟩
    · simp at he
  | c c =>
    cases c with
    | bx k off => exact hbx rfl
    | fv φ =>
      have he' : some (A.c (C.fv φ)) = some y := by cases m <;> exact he
      simp at he'; subst he'
      exact FunRel.mono sub_keeps hx
    | _ =>
      cases m with
      | true => exact hpass rfl he
      | false => exact hdat rfl hfz he
theorem argGs_rel {E : Enc U} {s1 : S U} {g1 : G} (hs1 : Sim P E fr g1 s1 a w) (hf : FrzLe s.ob s1.ob) {ks oks : List Nat} {os : List (Ob U)} (hos : s1.passed oks = some os) : ∀ {ms : List Bool} {vs : List Value} {al al' : List (A U)},
    (∀ k ∈ argObs s false ms al, ∀ o, s1.ob[k]? = some (some o) → o.fr = none) → argGs s ks oks ms al = some al' → All2 (ARel P E g1 s1.ob w) vs al → All2 (ARel P E (g1.sub ks oks) (os.map some) w) vs al'
  | ms, [], [], al', _, he, _ => by simp [argGs] at he; subst he; trivial
  | ms, v :: vs, x :: al, al', hfz, he, hx => by
    simp only [argGs] at he
    split at he
    · rename_i y ys h1 h2
      simp at he; subst he
      exact ⟨argG_rel hs1 hf hos (fun k hk => hfz k (by simp only [argObs]; exact List.mem_append_left _ hk)) h1 hx.1, argGs_rel hs1 hf hos (fun k hk => hfz k (by simp only [argObs]; exact List.mem_append_right _ hk)) h2 hx.2⟩
    · simp at he

theorem g_sound (hF : FnsOK P M) (h : Sim P M.E fr g s a w) {f : FuncId} {ms : List Bool} {F : FnG U} {al : List (A U)} {vs : List Value} {d : Nat} {r : Res U} (hg : M.gns f = some (ms, F)) (he : effG s d F ms al = some r) (hob : ∀ p ∈ r.ob, p)
    (hal : All2 (ARel P M.E g s.ob w) vs al) (hrun : HasBody P f → (execOp a.eval o).run P w = .ok (.enter f vs.toArray) w) : Done P o a w (Goal P M fr s o r) := by
  unfold effG at he
  split at he
  · rename_i bs hbs
    split at he
    · rename_i hchk
      simp only [Bool.and_eq_true, Bool.not_eq_true'] at hchk
      obtain ⟨⟨hu, huo⟩, hmt⟩ := hchk
      split at he
      · rename_i os al' hos hargs
        split at he
        · rename_i ob rs bs' os' hFd
          split at he
          · rename_i hlen
            split at he
            · rename_i vers hvers
              simp at he; subst he
              generalize hoks : argObs s true ms al ++ s.cursB bs = oks at *
              generalize hdks : argObs s false ms al = dks at *
              generalize hks : As.bxs al = ks at *
              obtain ⟨hcon, hbody⟩ := hF.gns f ms F _ _ _ ob rs bs' os' hg hFd hob
              obtain ⟨g1, hs1, hg1, hf1, hfz⟩ := Sim.frzs dks (s0 := s) rfl h (FrzLe.refl _)
              have hne : ∀ k ∈ oks, (sets s.ob (s.frz dks))[k]? = s.ob[k]? := fun k hk => frz_get_ne (meets_false hmt k hk)
              have hos1 : ({ s with ob := sets s.ob (s.frz dks) } : S U).passed oks = some os := (passed_view (s := s) (s' := { s with ob := sets s.ob (s.frz dks) }) hne).trans hos
              have hbs1 : ({ s with ob := sets s.ob (s.frz dks) } : S U).boxesAt ks = some bs := (boxesAt_view (s := s) (s' := { s with ob := sets s.ob (s.frz dks) }) (fun _ _ => rfl)).trans hbs
              have hpart := hs1.part hu huo hbs1 hos1
              have hpe : (fun b : Bool × List (C U) => (b.1, b.2.map (C.pass ({ s with ob := sets s.ob (s.frz dks) } : S U) ks oks))) = fun b => (b.1, b.2.map (C.pass s ks oks)) := by
                funext b
                congr 2
                funext c
                exact pass_frz hf1 ks oks c
              rw [hpe] at hpart
              have hD := argGs_rel hs1 hf1 (ks := ks) hos1 (fun k hk => hfz k (.inl (by rw [← hdks]; exact hk))) hargs (hal.imp fun _ _ => ARel.mono hg1)
              intro Q
              unfold Oper.wp
              rw [hrun hbody]
              simp only [Oper.upon]
              refine Calls.mono (hcon w _ vs hpart hD) ?_
              rintro e w' ⟨v, rfl, hR⟩
              show Goal P M fr s o _ (a.put o.dst v) w'
              obtain ⟨g2, hs2, hv2⟩ := hs1.gcall hu huo hbs1 hos1 hlen.1 (by rw [frz_vers hf1]; exact hvers) hR
              rw [spents_view (s := s) (s' := { s with ob := sets s.ob (s.frz dks) }) hne] at hs2 hv2
              refine ⟨g2, Sim.put' (s' := s) ?_ ?_⟩
              · show Sim P M.E fr g2 { s with bx := sets s.bx (backB ks (s.okey d) vers ks bs'), ob := sets s.ob (s.frz dks ++ (s.spents oks ++ placed (s.okey d) os' vers)) } a w'
                rw [sets_append]; exact hs2
              · show AVRel P M.E g2 (sets s.ob (s.frz dks ++ (s.spents oks ++ placed (s.okey d) os' vers))) w' v _
                rw [sets_append]; exact hv2
            · simp at he
          · simp at he
        · simp at he
      · simp at he
    · simp at he
  · simp at he

theorem call_sound (hF : FnsOK P M) (h : Sim P M.E fr g s a w) {c : Call} {f : FuncId} {r : Res U} (ho : o.op = .call c) (hc : c.callee = .value (.func f)) (he : effCall M s o c = some r) (hob : ∀ p ∈ r.ob, p) : Done P o a w (Goal P M fr s o r) := by
  unfold effCall at he
  rw [hc] at he
  dsimp only at he
  split at he
  · rename_i F al d hf hev hd
    unfold effPure at he
    split at he
    · rename_i ds hds
      split at he
      · rename_i ob rs os hFd
        split at he
        · rename_i hosl
          split at he
          · rename_i vers hvers
            split at he
            · rename_i rs' hret
              have hargs := evArgs_rel hF h hev
              obtain ⟨g1, hs1, hg1, hf1, hfz⟩ := Sim.frzs (As.obs al) (s0 := s) rfl h (FrzLe.refl _)
              have hD := hs1.frozenDs (s0 := s) hf1 (fun q hq => hfz q (.inl hq)) hds (hargs.imp fun _ _ => ARel.mono hg1)
              have hobr : r.ob = ob ∧ r.v = retAV rs' := by
                split at he
                · simp at he; subst he; exact ⟨rfl, rfl⟩
                · simp at he; subst he; exact ⟨rfl, rfl⟩
              obtain ⟨hcon, hbody⟩ := hF.fns f F ds ob rs os hf hFd (by rw [← hobr.1]; exact hob)
              have hrun := run_enter (P := P) (o := o) (a := a) (w := w) hbody ho hc (caps := #[]) rfl
              rw [Array.append_empty] at hrun
              intro Q
              unfold Oper.wp
              rw [hrun]
              simp only [Oper.upon]
              have hcall := hcon w g1.St ((c.args.map a.eval).toList) (fun b i hi => (hs1.own b i _ hi).1) (by simpa using hD)
              rw [Array.toArray_toList] at hcall
              refine Calls.mono hcall ?_
              rintro e w' ⟨v, rfl, hR⟩
              show Goal P M fr s o r (a.put o.dst v) w'
              split at he
              · rename_i hsc
                simp at he; subst he
                obtain ⟨hext, gr, _, _, _, hrel, _⟩ := hR
                refine ⟨g, Sim.put (h.later hext) ?_ rfl rfl⟩
                show AVRel P M.E g s.ob w' v (retAV rs')
                rw [scal_ret hsc hret, retAV_rel]
                exact scal_rel hsc hrel
              · simp at he; subst he
                obtain ⟨g2, hs2, hv2⟩ := hs1.returned hR (by rw [frz_vers hf1]; exact hvers) hret
                refine ⟨g2, Sim.put' (s' := s) ?_ ?_⟩
                · show Sim P M.E fr g2 { s with bx := s.bx, ob := sets s.ob (s.frz (As.obs al) ++ placed (s.okey d) _ vers) } a w'
                  rw [sets_append]; exact hs2
                · show AVRel P M.E g2 (sets s.ob (s.frz (As.obs al) ++ placed (s.okey d) _ vers)) w' v (retAV rs')
                  rw [sets_append]; exact hv2
            · simp at he
          · simp at he
        · simp at he
      · simp at he
    · simp at he
  · rename_i al d hf hev hd
    split at he
    · rename_i ms F hg
      refine g_sound hF h hg he hob (evArgs_rel hF h hev) (fun hb => ?_)
      have hrun := run_enter (P := P) (o := o) (a := a) (w := w) hb ho hc (caps := #[]) rfl
      rw [Array.append_empty] at hrun
      rw [hrun]; congr 2; rw [← Array.toList_map, Array.toArray_toList]
    · simp at he
  · simp at he

theorem d0_rel {E : Enc U} {ob : List (Option (Ob U))} {St : Nat → Nat → Prop} (hs : St = g.St) {v : Value} {d : D0 U} (h : D0Rel E St w v d) : ARel P E g ob w v d.toA := by
  cases d with
  | v x => exact vrel_c hs h
  | agg xs => obtain ⟨arr, e, h2⟩ := h; exact ⟨arr, e, All2.map_right C.ofV (fun _ _ hh => vrel_c hs hh) h2⟩
theorem d0_ret {E : Enc U} {ob : List (Option (Ob U))} {St : Nat → Nat → Prop} (hs : St = g.St) {v : Value} {ds : List (D0 U)} (h : RetRel (D0Rel E St w) v ds) : RetRel (ARel P E g ob w) v (ds.map D0.toA) := by
  match ds, h with
  | [], h => obtain ⟨arr, e, h2⟩ := h; exact ⟨arr, e, All2.map_right D0.toA (fun _ _ hh => d0_rel hs hh) h2⟩
  | [d], h => exact d0_rel hs h
  | d :: d' :: r, h => obtain ⟨arr, e, h2⟩ := h; exact ⟨arr, e, All2.map_right D0.toA (fun _ _ hh => d0_rel hs hh) h2⟩

/-- Data that comes back from a call: more stands still. -/
theorem Sim.more (h : Sim P M.E fr g s a w) {w' : World} (hext : Ext w w') {St : Nat → Nat → Prop} (h2 : ∀ b o, b < w.heap.size → St b o → g.St b o) (h3 : ∀ b o, St b o → b < w'.heap.size) :
    ∃ g', Sim P M.E fr g' s a w' ∧ (∀ b o, St b o → g'.St b o) ∧ GLe g s.ob w g' s.ob w' := by
  classical
  let g' : G := { g with ω := fun b i => if b < w.heap.size then g.ω b i else if St b i then some .st else none }
  have hωo : ∀ b i, b < w.heap.size → g'.ω b i = g.ω b i := fun b i hb => by show (if _ then _ else _) = _; rw [if_pos hb]
  have hωn : ∀ b i, ¬ b < w.heap.size → g'.ω b i = if St b i then some .st else none := fun b i hb => by show (if _ then _ else _) = _; rw [if_neg hb]
  have hs : ∀ x, Same g w g' w' x := fun x b i hx => ⟨by rw [hωo b i (h.own b i x hx).1]; exact hx, hext.cell (p := ⟨b, i, none⟩) (h.own b i x hx).1, hext.frozen (p := ⟨b, i, none⟩) (h.own b i x hx).1⟩
  have hg : GLe g s.ob w g' s.ob w' := ⟨(hs .st).keeps, fun k hl => ⟨hl, rfl⟩, fun q o hq => ⟨o, hq, Nat.le_refl _, fun _ => ⟨rfl, rfl, rfl⟩⟩⟩
  refine ⟨g', ?_, ?_, hg⟩
  · refine { ext := h.ext.later hext, tms := h.tms.imp fun _ _ => AVRel.mono hg, bxs := fun k fz cells hk => ?_, lbs := h.lbs, obs := fun q o hq => (h.obs q o hq).keep hg.st (hs _) rfl, own := ?_, dfr := h.dfr, fix := h.fix, bas := h.bas }
    · obtain ⟨hl, hb⟩ := h.bxs k fz cells hk
      exact ⟨hl, hb.keep hl hg (hs _)⟩
    · intro b i x hx
      by_cases hb : b < w.heap.size
      · rw [hωo b i hb] at hx
        exact ⟨Nat.lt_of_lt_of_le hb hext.le, (h.own b i x hx).2⟩
      · rw [hωn b i hb] at hx
        split at hx
        · rename_i hst; simp at hx; subst hx; exact ⟨h3 b i hst, .inl (by have := h.ext.size; omega)⟩
        · simp at hx
  · intro b i hst
    show g'.ω b i = _
    by_cases hb : b < w.heap.size
    · rw [hωo b i hb]; exact h2 b i hb hst
    · rw [hωn b i hb, if_pos hst]

theorem d0_scal {E : Enc U} {St St' : Nat → Nat → Prop} {w' : World} {v : Value} {ds : List (D0 U)} (hs : ds.all D0.scal = true) (h : RetRel (D0Rel E St w) v ds) : RetRel (D0Rel E St' w') v ds := by
  have hv : ∀ {u : Value} {x : V U}, (match x with | .s _ => true | .dat _ _ => false) = true → VRel E St w u x → VRel E St' w' u x := by
    intro u x hh hu
    cases x with
    | s y => cases hu; rename_i hone; exact .s _ hone
    | dat τ xs => simp at hh
  have hd : ∀ {u : Value} {d : D0 U}, d.scal = true → D0Rel E St w u d → D0Rel E St' w' u d := by
    intro u d hh hu
    cases d with
    | v x =>
      cases x with
      | s y => exact hv rfl hu
      | dat τ xs => simp [D0.scal] at hh
    | agg xs =>
      obtain ⟨arr, e, h2⟩ := hu
      refine ⟨arr, e, ?_⟩
      simp only [D0.scal] at hh
      generalize arr.toList = us at h2
      induction xs generalizing us with
      | nil => cases us with | nil => trivial | cons _ _ => exact h2.elim
      | cons x xs ih =>
        simp only [List.all_cons, Bool.and_eq_true] at hh
        cases us with
        | nil => exact h2.elim
        | cons u us => exact ⟨hv (by cases x with | s _ => rfl | dat _ _ => simp at hh) h2.1, ih hh.2 us h2.2⟩
  have hds : ∀ {us : List Value} {ds : List (D0 U)}, ds.all D0.scal = true → All2 (D0Rel E St w) us ds → All2 (D0Rel E St' w') us ds := by
    intro us ds
    induction ds generalizing us with
    | nil => intro _ hu; cases us with | nil => trivial | cons _ _ => exact hu.elim
    | cons c cs ih =>
      intro hh hu
      simp only [List.all_cons, Bool.and_eq_true] at hh
      cases us with
      | nil => exact hu.elim
      | cons u us => exact ⟨hd hh.1 hu.1, ih hh.2 hu.2⟩
  match ds, hs, h with
  | [], hs, h => obtain ⟨arr, e, h2⟩ := h; exact ⟨arr, e, hds hs h2⟩
  | [x], hs, h => simp at hs; exact hd hs h
  | _ :: _ :: _, hs, h => obtain ⟨arr, e, h2⟩ := h; exact ⟨arr, e, hds hs h2⟩

theorem callv_sound (hF : FnsOK P M) (h : Sim P M.E fr g s a w) {c : Call} {t : Tmp} {r : Res U} (ho : o.op = .call c) (hc : c.callee = .value (.tmp t)) (he : effCall M s o c = some r) (hob : ∀ p ∈ r.ob, p) : Done P o a w (Goal P M fr s o r) := by
  unfold effCall at he
  rw [hc] at he
  dsimp only at he
  split at he
  · rename_i φ al htm hev
    unfold effFv at he
    split at he
    · rename_i ds hds
      split at he
      · rename_i ob rs hφ
        simp only [Option.some.injEq] at he; subst he
        obtain ⟨f, caps, hfv, hbody, hgives⟩ : FunRel P M.E g.St w (a.eval (.tmp t)) φ := h.slot htm
        have hargs := evArgs_rel hF h hev
        obtain ⟨g1, hs1, hg1, hf1, hfz⟩ := Sim.frzs (As.obs al) (s0 := s) rfl h (FrzLe.refl _)
        have hD := hs1.frozenD0s (s0 := s) hf1 (fun q hq => hfz q (.inl hq)) hds (hargs.imp fun _ _ => ARel.mono hg1)
        have hrun := run_enter (P := P) (o := o) (a := a) (w := w) hbody ho hc hfv
        intro Q
        unfold Oper.wp
        rw [hrun]
        simp only [Oper.upon]
        have hcall := hgives g1.St w hg1.st (fun b i hi => (hs1.own b i _ hi).1) ds ob rs hφ hob ((c.args.map a.eval).toList) (by simpa using hD)
        rw [Array.toArray_toList] at hcall
        refine Calls.mono hcall ?_
        rintro e w' ⟨v, rfl, hext, St', i2, i3, hrel⟩
        show Goal P M fr s o _ (a.put o.dst v) w'
        cases hsc : rs.all D0.scal with
        | true =>
          refine ⟨g, Sim.put (h.later hext) ?_ rfl rfl⟩
          show AVRel P M.E g s.ob w' v (retAV (rs.map D0.toA))
          rw [retAV_rel]
          exact d0_ret rfl (d0_scal hsc hrel)
        | false =>
          obtain ⟨g2, hs2, hst2, hg2⟩ := hs1.more hext i2 i3
          refine ⟨g2, Sim.put' (s' := s) hs2 ?_⟩
          show AVRel P M.E g2 (sets s.ob (s.frz (As.obs al))) w' v (retAV (rs.map D0.toA))
          rw [retAV_rel]
          exact d0_ret rfl (hrel.imp fun _ _ hh => D0Rel.mono (fun b o hs => ⟨hst2 b o hs, rfl⟩) hh)
      · simp at he
    · simp at he
  · rename_i f ks al htm hev
    split at he
    · rename_i ms F d hg hd
      obtain ⟨hfv, hlb⟩ : CRel P M.E g s.ob w (a.eval (.tmp t)) (.fc f ks) := h.slot htm
      refine g_sound hF h hg he hob (vs := c.args.toList.map a.eval ++ ks.map fun k => Value.pointer (some ⟨g.β k, 0, none⟩)) (All2.append (evArgs_rel hF h hev) ?_) (fun hb => ?_)
      · clear hfv htm he
        induction ks with
        | nil => trivial
        | cons k ks ih => exact ⟨⟨hlb k (by simp), rfl⟩, ih (fun q hq => hlb q (by simp [hq]))⟩
      · have hrun := run_enter (P := P) (o := o) (a := a) (w := w) hb ho hc hfv
        rw [hrun]
        congr 2
        unfold capPtrs
        simp
    · simp at he
  · simp at he
end Go.Proofs.Ytohpgnpjijpedaa.B
