/- Boxes that stand still from now on; what a call leaves. -/
import Derived.Test.YtohpgnpjijpedaaBSim3
namespace Go.Proofs.Ytohpgnpjijpedaa.B
open Go Go.RowKit
variable {U : Uni} {P : Program} {E : Enc U} {fr : Fr} {w : World} {g : G} {s : S U} {a : Act}

open Classical in
theorem Sim.frzBox (h : Sim P E fr g s a w) {k : Nat} {fz : Bool} {cells : List (C U)} (hk : s.bx[k]? = some (some (fz, cells))) :
    ∃ g', Sim P E fr g' { s with bx := s.bx.set k (some (true, cells)) } a w ∧ GLe g s.ob w g' s.ob w := by
  let g' : G := { g with ω := fun b i => if g.ω b i = some (.box k) then some .st else g.ω b i }
  have hω : ∀ b i x, x ≠ .box k → g.ω b i = some x → g'.ω b i = some x := fun b i x hne hx => by
    show (if _ then _ else _) = _
    rw [if_neg (by rw [hx]; simpa using hne)]; exact hx
  have hs : ∀ x, x ≠ .box k → Same g w g' w x := fun x hne b i hx => ⟨hω b i x hne hx, rfl, rfl⟩
  have hklt : k < s.bx.length := (List.getElem?_eq_some_iff.1 hk).1
  have hg : GLe g s.ob w g' s.ob w := ⟨(hs .st (by simp)).keeps, fun q hl => ⟨hl, rfl⟩, fun q o hq => ⟨o, hq, Nat.le_refl _, fun _ => ⟨rfl, rfl, rfl⟩⟩⟩
  refine ⟨g', ?_, hg⟩
  refine { ext := h.ext, tms := h.tms.imp fun _ _ => AVRel.mono hg, bxs := ?_, lbs := ?_, obs := fun q o hq => (h.obs q o hq).keep hg.st (hs _ (by simp)) rfl, own := ?_, dfr := h.dfr, fix := h.fix, bas := h.bas }
  · intro q fz' cells' hc
    have hc' : (s.bx.set k (some (true, cells)))[q]? = some (some (fz', cells')) := hc
    by_cases e : q = k
    · subst e
      rw [List.getElem?_set_self hklt] at hc'
      simp at hc'; obtain ⟨rfl, rfl⟩ := hc'
      obtain ⟨hl, vs, h1, h2⟩ := h.bxs q fz cells hk
      refine ⟨hl, vs, h1.imp fun _ _ => CRel.mono hg, fun i v hv => ⟨(h2 i v hv).1, by simp, fun _ => ?_⟩⟩
      obtain ⟨_, i2, i3⟩ := h2 i v hv
      cases fz with
      | false =>
        show (if _ then _ else _) = _
        rw [if_pos (i2 rfl).2]
      | true => exact hω _ _ _ (by simp) (i3 rfl)
    · rw [List.getElem?_set_ne (Ne.symm e)] at hc'
      obtain ⟨hl, hb⟩ := h.bxs q fz' cells' hc'
      exact ⟨hl, hb.keep hl hg (hs _ (by simpa using e))⟩
  · intro q hl
    obtain ⟨c, hc⟩ := h.lbs q hl
    show ∃ c, (s.bx.set k _)[q]? = some (some c)
    by_cases e : q = k
    · subst e; exact ⟨_, List.getElem?_set_self hklt⟩
    · exact ⟨c, by rw [List.getElem?_set_ne (Ne.symm e)]; exact hc⟩
  · intro b i x hx
    have hx' : (if g.ω b i = some (.box k) then some Own.st else g.ω b i) = some x := hx
    split at hx'
    · rename_i hc
      simp at hx'; subst hx'
      exact ⟨(h.own b i _ hc).1, (h.wr hc (by simp)).elim .inl (fun hh => .inr (.inl hh))⟩
    · exact h.own b i x hx'

/-! ### arguments -/
theorem Sim.frozenD {s0 : S U} (h : Sim P E fr g s a w) (hf : FrzLe s0.ob s.ob) {v : Value} {x : A U} {d : D U} (hk : ∀ k ∈ x.obs, ∀ o, s.ob[k]? = some (some o) → o.fr = none) (hd : s0.toD x = some d) (hc : ARel P E g s.ob w v x) : DRel P E g.St w v d := by
  unfold S.toD at hd
  split at hd
  · simp at hd; subst hd; exact hc
  · rename_i c _
    split at hd
    · rename_i e he; simp at hd; subst hd
      exact h.frozenV hf hk he hc
    · simp at hd
  · rename_i cs
    split at hd
    · rename_i e he; simp at hd; subst hd
      obtain ⟨arr, h1, h2⟩ := hc
      exact ⟨arr, h1, h.frozenVs hf hk he h2⟩
    · simp at hd
  · simp at hd
theorem Sim.frozenDs {s0 : S U} (h : Sim P E fr g s a w) (hf : FrzLe s0.ob s.ob) : ∀ {vs : List Value} {al : List (A U)} {ds : List (D U)}, (∀ k ∈ As.obs al, ∀ o, s.ob[k]? = some (some o) → o.fr = none) → s0.toDs al = some ds → All2 (ARel P E g s.ob w) vs al → All2 (DRel P E g.St w) vs ds
  | [], [], ds, _, hd, _ => by simp [S.toDs] at hd; subst hd; trivial
  | v :: vs, x :: al, ds, hk, hd, hr => by
    simp only [S.toDs] at hd
    split at hd
    · rename_i d r h1 h2
      simp at hd; subst hd
      exact ⟨h.frozenD hf (fun k hm => hk k (by simp [As.obs, hm])) h1 hr.1, h.frozenDs hf (fun k hm => hk k (by simp [As.obs, hm])) h2 hr.2⟩
    · simp at hd
theorem Sim.frozenD0 {s0 : S U} (h : Sim P E fr g s a w) (hf : FrzLe s0.ob s.ob) {v : Value} {x : A U} {d : D0 U} (hk : ∀ k ∈ x.obs, ∀ o, s.ob[k]? = some (some o) → o.fr = none) (hd : s0.toD0 x = some d) (hc : ARel P E g s.ob w v x) : D0Rel E g.St w v d := by
  unfold S.toD0 at hd
  split at hd
  · split at hd
    · rename_i e he; simp at hd; subst hd
      exact h.frozenV hf hk he hc
    · simp at hd
  · split at hd
    · rename_i e he; simp at hd; subst hd
      obtain ⟨arr, h1, h2⟩ := hc
      exact ⟨arr, h1, h.frozenVs hf hk he h2⟩
    · simp at hd
  · simp at hd
theorem Sim.frozenD0s {s0 : S U} (h : Sim P E fr g s a w) (hf : FrzLe s0.ob s.ob) : ∀ {vs : List Value} {al : List (A U)} {ds : List (D0 U)}, (∀ k ∈ As.obs al, ∀ o, s.ob[k]? = some (some o) → o.fr = none) → s0.toD0s al = some ds → All2 (ARel P E g s.ob w) vs al → All2 (D0Rel E g.St w) vs ds
  | [], [], ds, _, hd, _ => by simp [S.toD0s] at hd; subst hd; trivial
  | v :: vs, x :: al, ds, hk, hd, hr => by
    simp only [S.toD0s] at hd
    split at hd
    · rename_i d r h1 h2
      simp at hd; subst hd
      exact ⟨h.frozenD0 hf (fun k hm => hk k (by simp [As.obs, hm])) h1 hr.1, h.frozenD0s hf (fun k hm => hk k (by simp [As.obs, hm])) h2 hr.2⟩
    · simp at hd
theorem Sim.frozenDC {s0 : S U} (h : Sim P E fr g s a w) (hf : FrzLe s0.ob s.ob) {v : Value} {c : C U} {d : DC U} (hk : ∀ k ∈ c.obs, ∀ o, s.ob[k]? = some (some o) → o.fr = none) (hd : s0.toDC c = some d) (hc : CRel P E g s.ob w v c) : DCRel P E g.St w v d := by
  unfold S.toDC at hd
  split at hd
  · simp at hd; subst hd; exact hc
  · split at hd
    · rename_i e he; simp at hd; subst hd
      exact h.frozenV hf hk he hc
    · simp at hd
theorem Sim.frozenDCs {s0 : S U} (h : Sim P E fr g s a w) (hf : FrzLe s0.ob s.ob) : ∀ {vs : List Value} {cs : List (C U)} {ds : List (DC U)}, (∀ k ∈ Cs.obs cs, ∀ o, s.ob[k]? = some (some o) → o.fr = none) → s0.toDCs cs = some ds → All2 (CRel P E g s.ob w) vs cs → All2 (DCRel P E g.St w) vs ds
  | [], [], ds, _, hd, _ => by simp [S.toDCs] at hd; subst hd; trivial
  | v :: vs, x :: al, ds, hk, hd, hr => by
    simp only [S.toDCs] at hd
    split at hd
    · rename_i d r h1 h2
      simp at hd; subst hd
      exact ⟨h.frozenDC hf (fun k hm => hk k (by simp [Cs.obs, hm])) h1 hr.1, h.frozenDCs hf (fun k hm => hk k (by simp [Cs.obs, hm])) h2 hr.2⟩
    · simp at hd

/-! ### behind a call -/
theorem vers_spec : ∀ {q : Nat} {os : List (Ob U)} {vers : List Nat}, s.vers q os = some vers → vers.length = os.length ∧ ∀ (j : Nat), j < os.length → q + j < s.ob.length ∧ ∃ v, vers[j]? = some v ∧ ∀ o0, s.ob[q + j]? = some (some o0) → o0.ver < v
  | q, [], vers, h => by simp [S.vers] at h; subst h; exact ⟨rfl, fun j hj => absurd hj (Nat.not_lt_zero _)⟩
  | q, o :: os, vers, h => by
    simp only [S.vers] at h
    split at h
    · rename_i v vs h1 h2
      simp at h; subst h
      obtain ⟨i1, i2⟩ := vers_spec h2
      refine ⟨by simp [i1], fun j hj => ?_⟩
      cases j with
      | zero =>
        unfold S.nver at h1
        split at h1
        · rename_i o0 ho
          simp at h1; subst h1
          exact ⟨(List.getElem?_eq_some_iff.1 ho).1, _, rfl, fun o1 ho1 => by rw [Nat.add_zero, ho] at ho1; simp at ho1; subst ho1; omega⟩
        · rename_i ho
          simp at h1; subst h1
          exact ⟨(List.getElem?_eq_some_iff.1 ho).1, _, rfl, fun o1 ho1 => by rw [Nat.add_zero, ho] at ho1; simp at ho1⟩
        · simp at h1
      | succ j =>
        have := i2 j (by simpa using hj)
        rw [show q + (j + 1) = q + 1 + j from by omega]
        simpa using this
    · simp at h

theorem placed_get : ∀ (os : List (Ob U)) (vers : List Nat) (q : Nat) (l : List (Option (Ob U))), vers.length = os.length → (∀ j, j < os.length → q + j < l.length) → ∀ k, (sets l (placed q os vers))[k]? = if q ≤ k ∧ k < q + os.length then (os[k - q]?).map (fun o => some { o with ver := vers.getD (k - q) 0 }) else l[k]?
  | [], vers, q, l, _, _, k => by
    have : ¬ (q ≤ k ∧ k < q + ([] : List (Ob U)).length) := by simp
    rw [if_neg this]
    cases vers <;> rfl
  | o :: os, [], q, l, hv, _, k => by simp at hv
  | o :: os, v :: vers, q, l, hv, hl, k => by
    simp only [placed, sets]
    rw [placed_get os vers (q + 1) (l.set q (some { o with ver := v })) (by simpa using hv) (fun j hj => by have := hl (j + 1) (by simpa using hj); simp; omega) k]
    have hl0 := hl 0 (by simp)
    simp only [List.length_cons]
    by_cases e : k = q
    · subst e
      rw [if_neg (by omega), if_pos ⟨Nat.le_refl _, by omega⟩, List.getElem?_set_self (by omega)]
      simp
    · by_cases h1 : q ≤ k ∧ k < q + (os.length + 1)
      · rw [if_pos (by omega), if_pos h1]
        rw [show k - q = (k - (q + 1)) + 1 from by omega]
        simp
      · rw [if_neg (by omega), if_neg h1, List.getElem?_set_ne (Ne.symm e)]

theorem ret_len : ∀ {q : Nat} {vers : List Nat} {rs rs' : List (A U)}, As.ret q vers rs = some rs' → rs'.length = rs.length
  | q, vers, [], rs', h => by simp [As.ret] at h; subst h; rfl
  | q, vers, x :: rs, rs', h => by
    simp only [As.ret] at h
    split at h
    · rename_i y ys h1 h2; simp at h; subst h; simp [ret_len h2]
    · simp at h

open Classical in
/-- Behind a call: what it returned is the caller's. -/
theorem Sim.returned (h : Sim P E fr g s a w) {w' : World} {v : Value} {rs rs' : List (A U)} {os : List (Ob U)} {q : Nat} {vers : List Nat} (hr : Ret P E g.St w w' v rs os) (hv : s.vers q os = some vers) (hret : As.ret q vers rs = some rs') :
    ∃ g', Sim P E fr g' { s with ob := sets s.ob (placed q os vers) } a w' ∧ AVRel P E g' (sets s.ob (placed q os vers)) w' v (retAV rs') := by
  obtain ⟨hext, gr, hlb, hold, hbd, hrel, hobs⟩ := hr
  obtain ⟨hvl, hvs⟩ := vers_spec hv
  let g' : G := { g with ω := fun b i => if b < w.heap.size then g.ω b i else match gr.ω b i with | some (.obj j) => some (.obj (q + j)) | some .st => some .st | _ => none,
                         tk := fun k => if q ≤ k ∧ k < q + os.length then gr.tk (k - q) else g.tk k }
  have hωo : ∀ b i, b < w.heap.size → g'.ω b i = g.ω b i := fun b i hb => by show (if _ then _ else _) = _; rw [if_pos hb]
  have hωn : ∀ b i, ¬ b < w.heap.size → g'.ω b i = match gr.ω b i with | some (.obj j) => some (.obj (q + j)) | some .st => some .st | _ => none := fun b i hb => by show (if _ then _ else _) = _; rw [if_neg hb]
  have htq : ∀ j, j < os.length → g'.tk (q + j) = gr.tk j := fun j hj => by show (if _ then _ else _) = _; rw [if_pos ⟨by omega, by omega⟩, show q + j - q = j from by omega]
  have htn : ∀ k, ¬ (q ≤ k ∧ k < q + os.length) → g'.tk k = g.tk k := fun k hk => by show (if _ then _ else _) = _; rw [if_neg hk]
  have hs : ∀ x, Same g w g' w' x := fun x b i hx => ⟨by rw [hωo b i (h.own b i x hx).1]; exact hx, hext.cell (p := ⟨b, i, none⟩) (h.own b i x hx).1, hext.frozen (p := ⟨b, i, none⟩) (h.own b i x hx).1⟩
  have hget := placed_get os vers q s.ob hvl (fun j hj => (hvs j hj).1)
  have hgn : ∀ j o, os[j]? = some o → (sets s.ob (placed q os vers))[q + j]? = some (some { o with ver := vers.getD j 0 }) := fun j o ho => by
    have hj : j < os.length := (List.getElem?_eq_some_iff.1 ho).1
    rw [hget, if_pos ⟨by omega, by omega⟩, show q + j - q = j from by omega, ho]; rfl
  have hg : GLe g s.ob w g' (sets s.ob (placed q os vers)) w' := by
    refine ⟨(hs .st).keeps, fun k hl => ⟨hl, rfl⟩, fun k o hk => ?_⟩
    by_cases hin' : q ≤ k ∧ k < q + os.length
    · have hj : k - q < os.length := by omega
      obtain ⟨_, vj, hvj, hlt⟩ := hvs (k - q) hj
      rw [show q + (k - q) = k from by omega] at hlt
      have := hlt o hk
      refine ⟨_, by rw [← show q + (k - q) = k from by omega]; exact hgn (k - q) _ (List.getElem?_eq_getElem hj), ?_, fun e => ?_⟩
      · show o.ver ≤ vers.getD (k - q) 0
        rw [List.getD_eq_getElem?_getD, hvj]; simp; omega
      · have e' : o.ver = vers.getD (k - q) 0 := e
        rw [List.getD_eq_getElem?_getD, hvj] at e'; simp at e'; omega
    · exact ⟨o, by rw [hget, if_neg hin']; exact hk, Nat.le_refl _, fun _ => ⟨rfl, rfl, htn k hin'⟩⟩
  have hkr : Keeps gr.St w' g'.St w' := by
    intro b i hi
    refine ⟨?_, rfl⟩
    show g'.ω b i = _
    by_cases hb : b < w.heap.size
    · rw [hωo b i hb]; exact (hold b i _ hb hi).2
    · rw [hωn b i hb, show gr.ω b i = some .st from hi]
  have hobj : ∀ b i j, gr.ω b i = some (.obj j) → g'.ω b i = some (.obj (q + j)) := fun b i j hi => by
    by_cases hb : b < w.heap.size
    · have := (hold b i _ hb hi).1; simp at this
    · rw [hωn b i hb, hi]
  have hnew : ∀ j o, os[j]? = some o → ObRel E g' w' (q + j) { o with ver := vers.getD j 0 } := by
    intro j o ho
    have hj : j < os.length := (List.getElem?_eq_some_iff.1 ho).1
    obtain ⟨⟨⟨h1, h1'⟩, h2⟩, _⟩ := hobs j o ho
    refine ⟨⟨by rw [htq j hj]; exact h1, h1'⟩, fun hc => ?_⟩
    rw [htq j hj] at hc ⊢
    obtain ⟨b, off, cv, e, hA⟩ := h2 hc
    refine ⟨b, off, cv, e, ⟨fun i j' hi hj' => ?_, fun i hi j' d hd => (hA.rel i hi j' d hd).mono hkr, fun hl x hx hx' => ?_⟩⟩
    · obtain ⟨c1, c2⟩ := hA.cell i j' hi hj'
      refine ⟨c1, ?_⟩
      unfold Mode at c2 ⊢
      show match o.fr with | none => _ | some f => _
      split at c2
      · rename_i hf; simp only [hf]; exact (hkr _ _ c2).1
      · rename_i f hf
        simp only [hf]
        exact ⟨fun hh => (hkr _ _ (c2.1 hh)).1, fun hh => ⟨hobj _ _ _ (c2.2 hh).1, (c2.2 hh).2⟩⟩
    · obtain ⟨d1, d2, d3⟩ := hA.spare hl x hx hx'
      exact ⟨hobj _ _ _ d1, d2, d3⟩
  have hc : ∀ {u : Value} {c c' : C U}, c.ret q vers = some c' → CRel P E gr (os.map some) w' u c → CRel P E g' (sets s.ob (placed q os vers)) w' u c' := by
    intro u c c' he hu
    unfold C.ret at he
    split at he
    · simp at he; subst he; exact hu
    · simp at he; subst he; exact ⟨hu.1.mono hkr, hu.2⟩
    · rename_i j
      split at he
      · rename_i vj hvj
        simp at he; subst he
        obtain ⟨hone, o, ho, _, hval⟩ := hu
        have ho' : os[j]? = some o := by
          rw [List.getElem?_map] at ho
          cases hoj : os[j]? with
          | none => rw [hoj] at ho; simp at ho
          | some o2 => rw [hoj] at ho; simp at ho; rw [ho]
        have hj : j < os.length := (List.getElem?_eq_some_iff.1 ho').1
        have hver := (hobs j o ho').2
        refine ⟨hone, _, hgn j o ho', by rw [List.getD_eq_getElem?_getD, hvj]; exact Nat.le_refl _, fun _ => ?_⟩
        rw [htq j hj]
        exact hval hver.symm
      · simp at he
    · simp at he; subst he; exact FunRel.mono hkr hu
    · simp at he
  have hcs : ∀ {us : List Value} {cs cs' : List (C U)}, Cs.ret q vers cs = some cs' → All2 (CRel P E gr (os.map some) w') us cs → All2 (CRel P E g' (sets s.ob (placed q os vers)) w') us cs' := by
    intro us cs
    induction cs generalizing us with
    | nil =>
      intro cs' he hu
      simp [Cs.ret] at he; subst he
      cases us with
      | nil => trivial
      | cons _ _ => exact hu.elim
    | cons c cs ih =>
      intro cs' he hu
      simp only [Cs.ret] at he
      split at he
      · rename_i x xs h1 h2
        simp at he; subst he
        cases us with
        | nil => exact hu.elim
        | cons u us => exact ⟨hc h1 hu.1, ih h2 hu.2⟩
      · simp at he
  have ha : ∀ {u : Value} {x x' : A U}, x.ret q vers = some x' → ARel P E gr (os.map some) w' u x → ARel P E g' (sets s.ob (placed q os vers)) w' u x' := by
    intro u x x' he hu
    cases x with
    | c y =>
      simp only [A.ret] at he
      split at he
      · rename_i z hz; simp at he; subst he; exact hc hz hu
      · simp at he
    | agg cs =>
      simp only [A.ret] at he
      split at he
      · rename_i z hz; simp at he; subst he
        obtain ⟨arr, e, hh⟩ := hu
        exact ⟨arr, e, hcs hz hh⟩
      · simp at he
    | top => simp [A.ret] at he
  have has : ∀ {us : List Value} {al al' : List (A U)}, As.ret q vers al = some al' → All2 (ARel P E gr (os.map some) w') us al → All2 (ARel P E g' (sets s.ob (placed q os vers)) w') us al' := by
    intro us al
    induction al generalizing us with
    | nil =>
      intro al' he hu
      simp [As.ret] at he; subst he
      cases us with
      | nil => trivial
      | cons _ _ => exact hu.elim
    | cons c cs ih =>
      intro cs' he hu
      simp only [As.ret] at he
      split at he
      · rename_i x xs h1 h2
        simp at he; subst he
        cases us with
        | nil => exact hu.elim
        | cons u us => exact ⟨ha h1 hu.1, ih h2 hu.2⟩
      · simp at he
  refine ⟨g', ?_, ?_⟩
  · refine { ext := h.ext.later hext, tms := h.tms.imp fun _ _ => AVRel.mono hg, bxs := fun k fz cells hk => ?_, lbs := h.lbs, obs := ?_, own := ?_, dfr := h.dfr, fix := h.fix, bas := h.bas }
    · obtain ⟨hl, hb⟩ := h.bxs k fz cells hk
      exact ⟨hl, hb.keep hl hg (hs _)⟩
    · intro k o hk
      have hk' : (sets s.ob (placed q os vers))[k]? = some (some o) := hk
      by_cases hin' : q ≤ k ∧ k < q + os.length
      · have hj : k - q < os.length := by omega
        have h1 := hgn (k - q) _ (List.getElem?_eq_getElem hj)
        rw [show q + (k - q) = k from by omega, hk'] at h1
        simp at h1; subst h1
        have := hnew (k - q) _ (List.getElem?_eq_getElem hj)
        rw [show q + (k - q) = k from by omega] at this
        exact this
      · rw [hget, if_neg hin'] at hk'
        exact (h.obs k o hk').keep hg.st (hs _) (htn k hin')
    · intro b i x hx
      by_cases hb : b < w.heap.size
      · rw [hωo b i hb] at hx
        exact ⟨Nat.lt_of_lt_of_le hb hext.le, (h.own b i x hx).2⟩
      · rw [hωn b i hb] at hx
        refine ⟨?_, .inl (by have := h.ext.size; omega)⟩
        cases ho : gr.ω b i with
        | none => rw [ho] at hx; simp at hx
        | some y => exact hbd b i y ho
  · rw [retAV_rel]
    have hl := ret_len hret
    match rs, rs', hret, hrel with
    | [], [], _, hrel => obtain ⟨arr, e, hh⟩ := hrel; exact ⟨arr, e, by cases hl2 : arr.toList with | nil => trivial | cons _ _ => rw [hl2] at hh; exact hh.elim⟩
    | [x], [x'], hret, hrel =>
      simp only [As.ret] at hret
      split at hret
      · rename_i y ys h1 h2; simp at hret; obtain ⟨rfl, _⟩ := hret; exact ha h1 hrel
      · simp at hret
    | x :: y :: r, x' :: y' :: r', hret, hrel => obtain ⟨arr, e, hh⟩ := hrel; exact ⟨arr, e, has hret hh⟩
    | [], _ :: _, _, _ => simp at hl
    | [_], [], _, _ => simp at hl
    | [_], _ :: _ :: _, _, _ => simp at hl
    | _ :: _ :: _, [], _, _ => simp at hl
    | _ :: _ :: _, [_], _, _ => simp at hl
end Go.Proofs.Ytohpgnpjijpedaa.B
