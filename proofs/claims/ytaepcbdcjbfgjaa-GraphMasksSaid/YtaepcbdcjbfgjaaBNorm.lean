/- A loop's states, brought into one form. -/
import Derived.Test.YtaepcbdcjbfgjaaBRegion
namespace Go.Proofs.Ytaepcbdcjbfgjaa.B
open Go Go.RowKit
variable {U : Uni} {P : Program} {E : Enc U} {fr : Fr} {w : World} {g : G} {s : S U} {a : Act}

theorem look_mem' {α : Type} {t : Nat} {x : α} : ∀ {l : List (Nat × α)}, look t l = some x → (t, x) ∈ l := fun h => look_mem h
theorem look_of_mem {k q : Nat} : ∀ {mp : List (Nat × Nat)}, unlike (mp.map (·.1)) = true → (k, q) ∈ mp → look k mp = some q
  | [], _, h => by simp at h
  | (k', q') :: r, hu, h => by
    obtain ⟨h1, h2⟩ := unlike_cons hu
    simp only [look]
    rcases List.mem_cons.1 h with e | h
    · simp at e; obtain ⟨rfl, rfl⟩ := e; simp
    · have : k' ≠ k := by rintro rfl; exact h1 (List.mem_map.2 ⟨_, h, rfl⟩)
      have hb : Nat.beq k' k = false := by cases hh : Nat.beq k' k with | false => rfl | true => exact (this (Nat.eq_of_beq_eq_true hh)).elim
      rw [hb]; exact look_of_mem h2 h
/-- The other way round. -/
def back (q : Nat) : List (Nat × Nat) → Option Nat
  | [] => none
  | (k, q') :: r => if q' = q then some k else back q r
theorem back_of_mem {k q : Nat} : ∀ {mp : List (Nat × Nat)}, unlike (mp.map (·.2)) = true → (k, q) ∈ mp → back q mp = some k
  | [], _, h => by simp at h
  | (k', q') :: r, hu, h => by
    obtain ⟨h1, h2⟩ := unlike_cons hu
    simp only [back]
    rcases List.mem_cons.1 h with e | h
    · simp at e; obtain ⟨rfl, rfl⟩ := e; simp
    · have : q' ≠ q := by rintro rfl; exact h1 (List.mem_map.2 ⟨_, h, rfl⟩)
      rw [if_neg this]; exact back_of_mem h2 h
theorem moved_get {q : Nat} {o : Ob U} : ∀ {mp : List (Nat × Nat)} {l : List (Option (Ob U))}, unlike (mp.map (·.2)) = true → (∀ x ∈ mp, x.2 < l.length) → (∀ o, l[q]? ≠ some (some o)) → (sets l (s.moved mp))[q]? = some (some o) → ∃ k o0, (k, q) ∈ mp ∧ s.ob[k]? = some (some o0) ∧ o = { o0 with ver := 0 }
  | [], l, _, _, hn, h => (hn o h).elim
  | (k, q') :: r, l, hu, hl, hn, h => by
    obtain ⟨h1, h2⟩ := unlike_cons hu
    simp only [S.moved, sets] at h
    by_cases e : q = q'
    · subst e
      have hnr : q ∉ (s.moved r).map (·.1) := by
        have : ∀ r : List (Nat × Nat), (s.moved r).map (·.1) = r.map (·.2) := by
          intro r; induction r with
          | nil => rfl
          | cons x r ih => simp [S.moved, ih]
        rw [this]; exact h1
      rw [sets_ne hnr, List.getElem?_set_self (hl (k, q) (by simp))] at h
      simp at h
      split at h
      · rename_i o0 ho; simp at h; exact ⟨k, o0, by simp, ho, h.symm⟩
      · simp at h
    · obtain ⟨k', o0, m1, m2, m3⟩ := moved_get (mp := r) h2 (fun x hx => by simpa using hl x (by simp [hx])) (fun o' ho' => by rw [List.getElem?_set_ne (Ne.symm e)] at ho'; exact hn o' ho') h
      exact ⟨k', o0, by simp [m1], m2, m3⟩
theorem moved_get' {k q : Nat} {o : Ob U} (ho : s.ob[k]? = some (some o)) : ∀ {mp : List (Nat × Nat)} {l : List (Option (Ob U))}, unlike (mp.map (·.2)) = true → (∀ x ∈ mp, x.2 < l.length) → (k, q) ∈ mp → (sets l (s.moved mp))[q]? = some (some { o with ver := 0 })
  | [], l, _, _, h => by simp at h
  | (k', q') :: r, l, hu, hl, h => by
    obtain ⟨h1, h2⟩ := unlike_cons hu
    have hkeys : ∀ r : List (Nat × Nat), (s.moved r).map (·.1) = r.map (·.2) := by
      intro r; induction r with
      | nil => rfl
      | cons x r ih => simp [S.moved, ih]
    simp only [S.moved, sets]
    rcases List.mem_cons.1 h with e | h
    · simp at e; obtain ⟨rfl, rfl⟩ := e
      rw [sets_ne (by rw [hkeys]; exact h1), List.getElem?_set_self (hl (k, q) (by simp)), ho]
    · exact moved_get' ho h2 (fun x hx => by simpa using hl x (by simp [hx])) h

theorem All2.keep {α β : Type} {R : α → β → Prop} {z : β} (hz : ∀ a, R a z) : ∀ (bs : List Bool) {l : List α} {r : List β}, All2 R l r → All2 R l (keepL z bs r)
  | [], [], [], _ => trivial
  | [], _ :: _, _ :: _, h => ⟨hz _, All2.keep hz [] h.2⟩
  | _ :: _, [], [], _ => trivial
  | b :: bs, _ :: _, _ :: _, h => ⟨by cases b; exact hz _; exact h.1, All2.keep hz bs h.2⟩
theorem keepL_get {α : Type} {z : α} : ∀ (bs : List Bool) (l : List α) (k : Nat) (x : α), (keepL z bs l)[k]? = some x → (l[k]? = some x ∧ bs[k]? = some true) ∨ x = z
  | _, [], k, x, h => by simp [keepL] at h
  | [], y :: l, 0, x, h => by simp [keepL] at h; exact .inr h.symm
  | [], y :: l, k + 1, x, h => by
    simp only [keepL, List.getElem?_cons_succ] at h
    rcases keepL_get [] l k x h with ⟨_, h2⟩ | h
    · simp at h2
    · exact .inr h
  | b :: bs, y :: l, 0, x, h => by
    cases b
    · simp [keepL] at h; exact .inr h.symm
    · simp [keepL] at h; exact .inl ⟨by simp [h], rfl⟩
  | b :: bs, y :: l, k + 1, x, h => by
    simp only [keepL, List.getElem?_cons_succ] at h ⊢
    exact keepL_get bs l k x h
theorem keepL_get' {α : Type} {z : α} : ∀ (bs : List Bool) (l : List α) (k : Nat) (x : α), l[k]? = some x → bs[k]? = some true → (keepL z bs l)[k]? = some x
  | [], _, _, _, _, h => by simp at h
  | _ :: _, [], _, _, h, _ => by simp at h
  | b :: bs, y :: l, 0, x, h, hb => by simp at hb h; subst hb h; rfl
  | b :: bs, y :: l, k + 1, x, h, hb => by
    simp only [keepL, List.getElem?_cons_succ] at h hb ⊢
    exact keepL_get' bs l k x h hb

theorem Sim.ren (h : Sim P E fr g s a w) {mp : List (Nat × Nat)} (ts bs : List Bool) (hu1 : unlike (mp.map (·.1)) = true) (hu2 : unlike (mp.map (·.2)) = true) (hlt : ∀ x ∈ mp, x.2 < s.ob.length) : ∃ g', Sim P E fr g' (s.ren mp ts bs) a w := by
  let g' : G := { β := g.β, lb := fun k => g.lb k ∧ bs[k]? = some true,
                  ω := fun b i => match g.ω b i with | some (.obj k) => (look k mp).map Own.obj | x => x,
                  tk := fun q => match back q mp with | some k => g.tk k | none => g.tk q }
  have hlt' : ∀ x ∈ mp, x.2 < (List.replicate s.ob.length (none : Option (Ob U))).length := fun x hx => by simpa using hlt x hx
  have hst : ∀ b i, g.St b i → g'.St b i := fun b i hs => by show (match g.ω b i with | some (.obj k) => _ | x => x) = _; rw [show g.ω b i = some .st from hs]
  have hobj : ∀ b i k q, (k, q) ∈ mp → g.ω b i = some (.obj k) → g'.ω b i = some (.obj q) := fun b i k q hm he => by
    show (match g.ω b i with | some (.obj k) => _ | x => x) = _; rw [he]; simp only [look_of_mem hu1 hm]; rfl
  have htk : ∀ k q, (k, q) ∈ mp → g'.tk q = g.tk k := fun k q hm => by show (match back q mp with | some k => _ | none => _) = _; rw [back_of_mem hu2 hm]
  have hk : Keeps g.St w g'.St w := fun b i hs => ⟨hst b i hs, rfl⟩
  have hc : ∀ v c, CRel P E g s.ob w v c → CRel P E g' (s.ren mp ts bs).ob w v (c.ren s mp bs) := by
    intro v c hv
    cases c with
    | s x => exact hv
    | sl τ xs f => exact ⟨hv.1.mono hk, hv.2⟩
    | ob k ver =>
      simp only [C.ren]
      split
      · rename_i q o hl ho
        obtain ⟨h1, h2⟩ := obAt_eq ho
        obtain ⟨i1, o', i2, i3, i4⟩ := hv
        rw [h1] at i2; simp at i2; subst i2
        have hm := look_mem' hl
        exact ⟨i1, _, moved_get' h1 hu2 hlt' hm, Nat.le_refl _, fun _ => by rw [htk k q hm]; exact i4 h2.symm⟩
      · exact hv.1
    | bx k off =>
      simp only [C.ren]
      split
      · rename_i hb; exact ⟨⟨hv.1, hb⟩, hv.2⟩
      · rw [hv.2]; rfl
    | el τ xs i off => obtain ⟨h1, b, o, cap, h2, h3⟩ := hv; exact ⟨h1, b, o, cap, h2, h3.mono hk⟩
    | em k ver i off =>
      simp only [C.ren]
      split
      · rename_i q o hl ho
        obtain ⟨h1, h2⟩ := obAt_eq ho
        obtain ⟨i1, o', i2, i3, i4⟩ := hv
        rw [h1] at i2; simp at i2; subst i2
        have hm := look_mem' hl
        obtain ⟨j1, b, off', j2, j3⟩ := i4 h2.symm
        exact ⟨i1, _, moved_get' h1 hu2 hlt' hm, Nat.le_refl _, fun _ => ⟨j1, b, off', by rw [htk k q hm]; exact j2, j3⟩⟩
      · exact hv.1
    | fv φ => exact FunRel.mono hk hv
    | fc f caps =>
      simp only [C.ren]
      split
      · rename_i hall
        refine ⟨hv.1, fun k hk' => ⟨hv.2 k hk', ?_⟩⟩
        have := List.all_eq_true.1 hall k hk'
        rw [List.getD_eq_getElem?_getD] at this
        cases hb : bs[k]? with
        | none => rw [hb] at this; simp at this
        | some x => rw [hb] at this; simp at this; rw [this]
      · rw [hv.1]; rfl
    | top => exact hv
  have hcs : ∀ {us : List Value} {cs : List (C U)}, All2 (CRel P E g s.ob w) us cs → All2 (CRel P E g' (s.ren mp ts bs).ob w) us (cs.map (C.ren s mp bs)) := fun hh => All2.map_right (C.ren s mp bs) (fun x y hxy => hc x y hxy) hh
  have ha : ∀ v x, ARel P E g s.ob w v x → ARel P E g' (s.ren mp ts bs).ob w v (x.ren s mp bs) := by
    intro v x hv
    cases x with
    | c y => exact hc v y hv
    | agg cs => obtain ⟨arr, e, h2⟩ := hv; exact ⟨arr, e, hcs h2⟩
    | top => trivial
  have hav : ∀ v x, AVRel P E g s.ob w v x → AVRel P E g' (s.ren mp ts bs).ob w v (x.ren s mp bs) := by
    intro v x hv
    cases x with
    | one y => exact ha v y hv
    | tup al => obtain ⟨arr, e, h2⟩ := hv; exact ⟨arr, e, All2.map_right (A.ren s mp bs) (fun x y hxy => ha x y hxy) h2⟩
    | undef => exact hv
  refine ⟨g', { ext := h.ext, tms := ?_, bxs := ?_, lbs := ?_, obs := ?_, own := ?_, dfr := h.dfr, fix := fun k hk hl => h.fix k hk hl.1, bas := h.bas }⟩
  · exact All2.map_right (AV.ren s mp bs) (fun x y hxy => hav x y hxy) (All2.keep (fun _ => trivial) ts h.tms)
  · intro k fz cells hk'
    have hk2 : ((keepL none bs s.bx).map (Option.map fun x => (x.1, x.2.map (C.ren s mp bs))))[k]? = some (some (fz, cells)) := hk'
    rw [List.getElem?_map] at hk2
    cases hb : (keepL none bs s.bx)[k]? with
    | none => rw [hb] at hk2; simp at hk2
    | some x =>
      cases x with
      | none => rw [hb] at hk2; simp at hk2
      | some x =>
        obtain ⟨fz0, c0⟩ := x
        rw [hb] at hk2; simp at hk2; obtain ⟨rfl, rfl⟩ := hk2
        rcases keepL_get bs s.bx k _ hb with ⟨h1, h2⟩ | h1
        · obtain ⟨hl, vs, i1, i2⟩ := h.bxs k fz0 c0 h1
          refine ⟨⟨hl, h2⟩, vs, hcs i1, fun i v hv => ?_⟩
          obtain ⟨j1, j2, j3⟩ := i2 i v hv
          refine ⟨j1, fun hz => ⟨(j2 hz).1, ?_⟩, fun hz => hst _ _ (j3 hz)⟩
          show (match g.ω (g.β k) i with | some (.obj k) => _ | x => x) = _
          rw [(j2 hz).2]
        · simp at h1
  · intro k hl
    obtain ⟨c, hc'⟩ := h.lbs k hl.1
    obtain ⟨fz, cells⟩ := c
    refine ⟨(fz, cells.map (C.ren s mp bs)), ?_⟩
    show ((keepL none bs s.bx).map _)[k]? = _
    rw [List.getElem?_map, keepL_get' bs s.bx k _ hc' hl.2]; rfl
  · intro q o hq
    obtain ⟨k, o0, hm, ho, rfl⟩ := moved_get (mp := mp) hu2 hlt' (fun o' ho' => by rw [List.getElem?_replicate] at ho'; split at ho' <;> simp at ho') hq
    obtain ⟨⟨h1, h1'⟩, h2⟩ := h.obs k o0 ho
    refine ⟨⟨by rw [htk k q hm]; exact h1, h1'⟩, fun hcap => ?_⟩
    rw [htk k q hm] at hcap ⊢
    obtain ⟨b, off, cv, e, hA⟩ := h2 hcap
    refine ⟨b, off, cv, e, ⟨fun i j hi hj => ?_, fun i hi j d hd => (hA.rel i hi j d hd).mono hk, fun hl x hx hx' => ?_⟩⟩
    · obtain ⟨c1, c2⟩ := hA.cell i j hi hj
      refine ⟨c1, ?_⟩
      unfold Mode at c2 ⊢
      show match o0.fr with | none => _ | some f => _
      split at c2
      · rename_i hf; simp only [hf]; exact hst _ _ c2
      · rename_i f hf
        simp only [hf]
        exact ⟨fun hh => hst _ _ (c2.1 hh), fun hh => ⟨hobj _ _ _ _ hm (c2.2 hh).1, (c2.2 hh).2⟩⟩
    · obtain ⟨d1, d2, d3⟩ := hA.spare hl x hx hx'
      exact ⟨hobj _ _ _ _ hm d1, d2, d3⟩
  · intro b i x hx
    have hx' : (match g.ω b i with | some (.obj k) => (look k mp).map Own.obj | x => x) = some x := hx
    cases hw : g.ω b i with
    | none => rw [hw] at hx'; simp at hx'
    | some y =>
      rw [hw] at hx'
      cases y with
      | st => simp at hx'; subst hx'; exact h.own b i _ hw
      | box k => simp at hx'; subst hx'; exact h.own b i _ hw
      | obj k =>
        refine ⟨(h.own b i _ hw).1, ?_⟩
        rcases (h.own b i _ hw).2 with h1 | h1 | ⟨h1, _⟩
        · exact .inl h1
        · exact .inr (.inl h1)
        · simp at h1

theorem Sim.objNils : ∀ {nm : List (Pos × Nat)} {g : G} {s s' : S U}, s.objNils nm = some s' → Sim P E fr g s a w → ∃ g', Sim P E fr g' s' a w
  | [], g, s, s', hn, h => by simp [S.objNils] at hn; subst hn; exact ⟨g, h⟩
  | (p, q) :: r, g, s, s', hn, h => by
    simp only [S.objNils] at hn
    split at hn
    · rename_i s1 h1
      obtain ⟨g1, hs1⟩ := h.objNil h1
      exact Sim.objNils hn hs1
    · simp at hn

theorem weak_rel {g : G} {ob : List (Option (Ob U))} {v : Value} {c : C U} (h : CRel P E g ob w v c) : CRel P E g ob w v c.weak := by
  cases c with
  | sl τ xs f => exact ⟨h.1, by simp⟩
  | _ => exact h
theorem Sim.weakB : ∀ (l : List Nat) {s : S U}, Sim P E fr g s a w → Sim P E fr g (S.weakB l s) a w
  | [], s, h => h
  | k :: r, s, h => by
    refine Sim.weakB r ?_
    refine { ext := h.ext, tms := h.tms, bxs := ?_, lbs := ?_, obs := h.obs, own := h.own, dfr := h.dfr, fix := h.fix, bas := h.bas }
    · intro q fz cells hq
      have hq' : (s.bx.modify k (Option.map fun x => (x.1, x.2.map C.weak)))[q]? = some (some (fz, cells)) := hq
      rw [List.getElem?_modify] at hq'
      by_cases e : k = q
      · subst e
        cases hb : s.bx[k]? with
        | none => rw [hb] at hq'; simp at hq'
        | some x =>
          cases x with
          | none => rw [hb] at hq'; simp at hq'
          | some x =>
            obtain ⟨f0, c0⟩ := x
            rw [hb] at hq'; simp at hq'; obtain ⟨rfl, rfl⟩ := hq'
            obtain ⟨hl, vs, h1, h2⟩ := h.bxs k f0 c0 hb
            exact ⟨hl, vs, All2.map_right C.weak (fun _ _ hh => weak_rel hh) h1, h2⟩
      · have : s.bx[q]? = some (some (fz, cells)) := by simpa [e] using hq'
        exact h.bxs q fz cells this
    · intro q hl
      obtain ⟨c, hc⟩ := h.lbs q hl
      show ∃ c, (s.bx.modify k _)[q]? = some (some c)
      rw [List.getElem?_modify, hc]
      by_cases e : k = q
      · simp [e]
      · simp [e]
theorem Sim.weakS : ∀ (l : List Nat) {s : S U}, Sim P E fr g s a w → Sim P E fr g (S.weakS l s) a w
  | [], s, h => h
  | d :: r, s, h => by
    refine Sim.weakS r { h with tms := ?_ }
    show All2 _ a.tmps.toList (s.tm.modify d AV.weak)
    refine All2.of_get (by rw [h.tms.length]; simp) fun i v x hv hx => ?_
    rw [List.getElem?_modify] at hx
    cases hi : s.tm[i]? with
    | none => rw [hi] at hx; simp at hx
    | some y =>
      obtain ⟨v', hv', hr⟩ := h.tms.get i hi
      rw [hv] at hv'; simp at hv'; subst hv'
      rw [hi] at hx
      by_cases e : d = i
      · simp [e] at hx; subst hx
        cases y with
        | one z =>
          cases z with
          | c c => exact weak_rel hr
          | _ => exact hr
        | _ => exact hr
      · simp [e] at hx; subst hx; exact hr

theorem Sim.frzB1 (h : Sim P E fr g s a w) {k : Nat} {fz : Bool} {cells : List (C U)} {vs : List (V U)} (hk : s.bx[k]? = some (some (fz, cells))) (hv : s.toVs cells = some vs) :
    ∃ g', Sim P E fr g' { s with bx := s.bx.set k (some (fz, vs.map C.ofV)), ob := sets s.ob (s.frz (Cs.obs cells)) } a w := by
  obtain ⟨g1, hs1, hg1, hf1, hfz⟩ := Sim.frzs (Cs.obs cells) (s0 := s) rfl h (FrzLe.refl _)
  refine ⟨g1, { ext := hs1.ext, tms := hs1.tms, bxs := ?_, lbs := ?_, obs := hs1.obs, own := hs1.own, dfr := hs1.dfr, fix := hs1.fix, bas := hs1.bas }⟩
  · intro q fz' cells' hq
    have hq' : (s.bx.set k (some (fz, vs.map C.ofV)))[q]? = some (some (fz', cells')) := hq
    by_cases e : q = k
    · subst e
      rw [List.getElem?_set_self (List.getElem?_eq_some_iff.1 hk).1] at hq'
      simp at hq'; obtain ⟨rfl, rfl⟩ := hq'
      obtain ⟨hl, us, h1, h2⟩ := hs1.bxs q fz cells hk
      have hvr := hs1.frozenVs (s0 := s) hf1 (fun q' hq' => hfz q' (.inl hq')) hv h1
      exact ⟨hl, us, All2.map_right C.ofV (fun _ _ hh => vrel_c rfl hh) hvr, h2⟩
    · rw [List.getElem?_set_ne (Ne.symm e)] at hq'
      exact hs1.bxs q fz' cells' hq'
  · intro q hl
    obtain ⟨c, hc⟩ := hs1.lbs q hl
    show ∃ c, (s.bx.set k (some (fz, vs.map C.ofV)))[q]? = some (some c)
    by_cases e : q = k
    · subst e; exact ⟨_, List.getElem?_set_self (List.getElem?_eq_some_iff.1 hk).1⟩
    · rw [List.getElem?_set_ne (Ne.symm e)]; exact ⟨c, hc⟩
theorem Sim.frzB : ∀ (l : List Nat) {g : G} {s : S U}, Sim P E fr g s a w → ∃ g', Sim P E fr g' (S.frzB l s) a w
  | [], g, s, h => ⟨g, h⟩
  | k :: r, g, s, h => by
    simp only [S.frzB]
    split
    · rename_i fz cells hk
      split
      · rename_i vs hv
        obtain ⟨g1, h1⟩ := h.frzB1 hk hv
        exact Sim.frzB r h1
      · exact Sim.frzB r h
    · exact Sim.frzB r h
theorem Sim.norm (h : Sim P E fr g s a w) {n : NS} {s' : S U} (hn : s.norm n = some s') : ∃ g', Sim P E fr g' s' a w := by
  unfold S.norm at hn
  obtain ⟨g0, hs0⟩ := h.frzB n.gb
  split at hn
  · rename_i s1 h1
    obtain ⟨g1, hs1⟩ := Sim.objNils h1 hs0
    split at hn
    · rename_i mp hmp
      split at hn
      · rename_i hc
        simp at hn; subst hn
        simp only [Bool.and_eq_true, List.all_eq_true] at hc
        obtain ⟨g2, hs2⟩ := hs1.ren n.ts n.bs hc.1.1 hc.1.2 (fun x hx => by have := hc.2 x hx; simp [Nat.blt] at this; omega)
        exact ⟨g2, (hs2.weakB n.gb).weakS n.gs⟩
      · simp at hn
    · simp at hn
  · simp at hn
end Go.Proofs.Ytaepcbdcjbfgjaa.B
