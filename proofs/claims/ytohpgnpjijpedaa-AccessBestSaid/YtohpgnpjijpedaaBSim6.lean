/- Behind a call that got boxes and objects. -/
import Derived.Test.YtohpgnpjijpedaaBSim5
namespace Go.Proofs.Ytohpgnpjijpedaa.B
open Go Go.RowKit
variable {U : Uni} {P : Program} {E : Enc U} {fr : Fr} {w : World} {g : G} {s : S U} {a : Act}

theorem spent_keep {g' : G} {w' : World} {k : Nat} {o : Ob U} (h : ObRel E g w k o) (hk : Keeps g.St w g'.St w') (ht : g'.tk k = g.tk k) : ObRel E g' w' k o.spent := by
  obtain ⟨⟨h1, h1'⟩, h2⟩ := h
  unfold Ob.spent
  split
  · rename_i hf
    refine ⟨⟨by rw [ht]; exact h1, by rw [hf]; simp⟩, fun hc => ?_⟩
    rw [ht] at hc ⊢
    obtain ⟨b, off, cv, e, hA⟩ := h2 hc
    refine ⟨b, off, cv, e, ⟨fun i j hi hj => ?_, fun i hi j d hd => (hA.rel i hi j d hd).mono hk, by simp⟩⟩
    obtain ⟨c1, c2⟩ := hA.cell i j hi hj
    unfold Mode at c2 ⊢
    simp only [hf] at c2 ⊢
    obtain ⟨k1, k2⟩ := hk _ _ c2
    exact ⟨by rw [k2]; exact c1, k1⟩
  · refine ⟨⟨⟨Nat.zero_le _, Nat.zero_le _⟩, by simp⟩, fun hc => ?_⟩
    rw [ht] at hc ⊢
    obtain ⟨b, off, cv, e, hA⟩ := h2 hc
    exact ⟨b, off, cv, e, ⟨fun i j hi => absurd hi (Nat.not_lt_zero _), fun i hi => absurd hi (Nat.not_lt_zero _), by simp⟩⟩

theorem backB_get {ks0 : List Nat} {q : Nat} {vers : List Nat} : ∀ {ks : List Nat} {bs : List (Bool × List (C U))} (l : List (Option (Bool × List (C U)))), unlike ks = true → bs.length = ks.length → (∀ k ∈ ks, k < l.length) → ∀ k, (sets l (backB ks0 q vers ks bs))[k]? = match idx k ks 0 with | some i => (bs[i]?).map (fun b => some (b.1, b.2.map (C.back ks0 q vers))) | none => l[k]?
  | [], bs, l, _, _, _, k => by cases bs <;> rfl
  | x :: ks, [], l, _, hl, _, k => by simp at hl
  | x :: ks, b :: bs, l, hu, hl, hlt, k => by
    obtain ⟨h1, h2⟩ := unlike_cons hu
    simp only [backB, sets]
    rw [backB_get (l.set x _) h2 (by simpa using hl) (fun k hk => by simpa using hlt k (by simp [hk])) k]
    have hshift : ∀ (l : List Nat) (j : Nat), idx k l (j + 1) = (idx k l j).map (· + 1) := by
      intro l
      induction l with
      | nil => intro j; rfl
      | cons y r ih => intro j; simp only [idx]; split <;> simp [ih]
    simp only [idx]
    cases hb : Nat.beq x k with
    | true =>
      have := Nat.eq_of_beq_eq_true hb
      subst this
      have : idx x ks 0 = none := by
        cases hi : idx x ks 0 with
        | none => rfl
        | some i => obtain ⟨m, _, hm⟩ := idx_some hi; exact (h1 (List.mem_of_getElem? hm)).elim
      rw [this]
      simp only [List.getElem?_cons_zero, Option.map_some]
      rw [List.getElem?_set_self (hlt x (by simp))]
    | false =>
      have hne : x ≠ k := by rintro rfl; simp at hb
      simp only
      rw [hshift]
      cases idx k ks 0 with
      | none => simp only [Option.map_none]; rw [List.getElem?_set_ne hne]
      | some i => simp

open Classical in
theorem Sim.gcall (h : Sim P E fr g s a w) {ks oks : List Nat} {bs bs' : List (Bool × List (C U))} {os os' : List (Ob U)} {q : Nat} {vers : List Nat} {w' : World} {v : Value} {rs : List (A U)}
    (hu : unlike ks = true) (huo : unlike oks = true) (hbs : s.boxesAt ks = some bs) (hos : s.passed oks = some os) (hlen : bs'.length = bs.length) (hv : s.vers q os' = some vers)
    (hr : RetG P E (g.sub ks oks) w w' v rs bs' os') :
    ∃ g2, Sim P E fr g2 { s with bx := sets s.bx (backB ks q vers ks bs'), ob := sets s.ob (s.spents oks ++ placed q os' vers) } a w' ∧ AVRel P E g2 (sets s.ob (s.spents oks ++ placed q os' vers)) w' v (retAV (rs.map (A.back ks q vers))) := by
  obtain ⟨g', hfx, hp, hβ, hor, hrel⟩ := hr
  obtain ⟨hbl, hb⟩ := boxesAt_spec hbs
  obtain ⟨hol, ho⟩ := passed_spec hos
  obtain ⟨hvl, hvs⟩ := vers_spec hv
  rw [sets_append]
  have hsl : (sets s.ob (s.spents oks)).length = s.ob.length := by
    have : ∀ (x : List (Nat × Option (Ob U))) (l : List (Option (Ob U))), (sets l x).length = l.length := by
      intro x
      induction x with
      | nil => intro l; rfl
      | cons y x ih => intro l; obtain ⟨y1, y2⟩ := y; simp only [sets]; rw [ih]; simp
    exact this _ _
  have hget0 := placed_get os' vers q (sets s.ob (s.spents oks)) hvl (fun j hj => by rw [hsl]; exact (hvs j hj).1)
  have hgets := spents_get (s := s) s.ob huo (fun _ _ => rfl)
  generalize hob2 : sets (sets s.ob (s.spents oks)) (placed q os' vers) = ob2 at hget0
  have hbget := backB_get (ks0 := ks) (q := q) (vers := vers) s.bx hu (by rw [hlen, hbl]) (fun k hk => by
    obtain ⟨i, hi⟩ := List.getElem?_of_mem hk
    obtain ⟨b, h1, _⟩ := hb i k hi
    exact (List.getElem?_eq_some_iff.1 h1).1)
  generalize hbx2 : sets s.bx (backB ks q vers ks bs') = bx2 at hbget
  let g2 : G := { β := g.β, lb := g.lb,
                  ω := fun b o => if (g.sub ks oks).mine b o ∨ ¬ b < w.heap.size then (match g'.ω b o with | some .st => some .st | some (.box i) => (ks[i]?).map Own.box | some (.obj j) => some (.obj (q + j)) | none => none) else g.ω b o,
                  tk := fun k => if q ≤ k ∧ k < q + os'.length then g'.tk (k - q) else g.tk k }
  have hωo : ∀ b o, b < w.heap.size → ¬ (g.sub ks oks).mine b o → g2.ω b o = g.ω b o := fun b o h1 h2 => by
    show (if _ then _ else _) = _; rw [if_neg (by intro hh; rcases hh with hh | hh; exact h2 hh; exact hh h1)]
  have hωn : ∀ b o, ((g.sub ks oks).mine b o ∨ ¬ b < w.heap.size) → g2.ω b o = (match g'.ω b o with | some .st => some Own.st | some (.box i) => (ks[i]?).map Own.box | some (.obj j) => some (.obj (q + j)) | none => none) := fun b o h1 => by
    show (if _ then _ else _) = _; rw [if_pos h1]
  have htq : ∀ j, j < os'.length → g2.tk (q + j) = g'.tk j := fun j hj => by show (if _ then _ else _) = _; rw [if_pos ⟨by omega, by omega⟩, show q + j - q = j from by omega]
  have htn : ∀ k, ¬ (q ≤ k ∧ k < q + os'.length) → g2.tk k = g.tk k := fun k hk => by show (if _ then _ else _) = _; rw [if_neg hk]
  -- what is not handed over is as it was
  have hsame : ∀ x, x = .st ∨ (∃ k, x = .box k ∧ k ∉ ks) ∨ (∃ k, x = .obj k ∧ k ∉ oks) → Same g w g2 w' x := by
    intro x hx b o hω
    have hlt := (h.own b o x hω).1
    have hnm : ¬ (g.sub ks oks).mine b o := by
      intro hm
      rcases sub_mine hm with ⟨k, hk, hh⟩ | ⟨k, hk, hh⟩ <;> rw [hω] at hh <;> simp at hh <;> subst hh
      · rcases hx with hx | ⟨k', hx, hn⟩ | ⟨k', hx, hn⟩ <;> simp at hx
        subst hx; exact hn hk
      · rcases hx with hx | ⟨k', hx, hn⟩ | ⟨k', hx, hn⟩ <;> simp at hx
        subst hx; exact hn hk
    exact ⟨by rw [hωo b o hlt hnm]; exact hω, hfx.cell b o hlt hnm, hfx.frozen b o hlt hnm⟩
  have hst : Keeps g.St w g2.St w' := (hsame .st (.inl rfl)).keeps
  have hkr : Keeps g'.St w' g2.St w' := by
    intro b o hi
    refine ⟨?_, rfl⟩
    have hi' : g'.ω b o = some .st := hi
    by_cases hb' : b < w.heap.size
    · rcases hor b o _ hb' hi' with hm | ⟨_, hm⟩
      · show g2.ω b o = _; rw [hωn b o (.inl hm), hi']
      · exact (hst b o (sub_st.1 hm)).1
    · show g2.ω b o = _; rw [hωn b o (.inr hb'), hi']
  have hbox : ∀ b o i k, ks[i]? = some k → g'.ω b o = some (.box i) → g2.ω b o = some (.box k) := by
    intro b o i k hk hi
    by_cases hb' : b < w.heap.size
    · rcases hor b o _ hb' hi with hm | ⟨hm, _⟩
      · rw [hωn b o (.inl hm), hi]; simp only [hk]; rfl
      · simp at hm
    · rw [hωn b o (.inr hb'), hi]; simp only [hk]; rfl
  have hobj : ∀ b o j, g'.ω b o = some (.obj j) → g2.ω b o = some (.obj (q + j)) := by
    intro b o j hi
    by_cases hb' : b < w.heap.size
    · rcases hor b o _ hb' hi with hm | ⟨hm, _⟩
      · rw [hωn b o (.inl hm), hi]
      · simp at hm
    · rw [hωn b o (.inr hb'), hi]
  have hgn : ∀ j o, os'[j]? = some o → ob2[q + j]? = some (some { o with ver := vers.getD j 0 }) := fun j o ho => by
    have hj : j < os'.length := (List.getElem?_eq_some_iff.1 ho).1
    rw [hget0, if_pos ⟨by omega, by omega⟩, show q + j - q = j from by omega, ho]; rfl
  have hg : GLe g s.ob w g2 ob2 w' := by
    refine ⟨hst, fun k hl => ⟨hl, rfl⟩, fun k o hk => ?_⟩
    by_cases hin' : q ≤ k ∧ k < q + os'.length
    · have hj : k - q < os'.length := by omega
      obtain ⟨_, vj, hvj, hlt⟩ := hvs (k - q) hj
      rw [show q + (k - q) = k from by omega] at hlt
      have := hlt o hk
      refine ⟨_, by rw [← show q + (k - q) = k from by omega]; exact hgn (k - q) _ (List.getElem?_eq_getElem hj), ?_, fun e => ?_⟩
      · show o.ver ≤ vers.getD (k - q) 0
        rw [List.getD_eq_getElem?_getD, hvj]; simp; omega
      · have e' : o.ver = vers.getD (k - q) 0 := e
        rw [List.getD_eq_getElem?_getD, hvj] at e'; simp at e'; omega
    · by_cases hko : k ∈ oks
      · refine ⟨o.spent, by rw [hget0, if_neg hin', hgets, if_pos hko, hk]; rfl, (spent_ver o).1, fun e => ⟨((spent_ver o).2 e).1, ((spent_ver o).2 e).2, htn k hin'⟩⟩
      · exact ⟨o, by rw [hget0, if_neg hin', hgets, if_neg hko]; exact hk, Nat.le_refl _, fun _ => ⟨rfl, rfl, htn k hin'⟩⟩
  have hnew : ∀ j o, os'[j]? = some o → ObRel E g2 w' (q + j) { o with ver := vers.getD j 0 } := by
    intro j o ho
    have hj : j < os'.length := (List.getElem?_eq_some_iff.1 ho).1
    obtain ⟨⟨⟨h1, h1'⟩, h2⟩, _⟩ := hp.obs j o ho
    refine ⟨⟨by rw [htq j hj]; exact h1, h1'⟩, fun hc => ?_⟩
    rw [htq j hj] at hc ⊢
    obtain ⟨b, off, cv, e, hA⟩ := h2 hc
    refine ⟨b, off, cv, e, ⟨fun i j' hi hj' => ?_, fun i hi j' d hd => (hA.rel i hi j' d hd).mono hkr, fun hl x hx hx' => ?_⟩⟩
    · obtain ⟨c1, c2⟩ := hA.cell i j' hi hj'
      refine ⟨c1, ?_⟩
      unfold Mode at c2 ⊢
      show match o.fr with | none => _ | some f => _
      split at c2
      · rename_i hf; simp only [hf]; exact (hkr _ _ c2).1
      · rename_i f hf
        simp only [hf]
        exact ⟨fun hh => (hkr _ _ (c2.1 hh)).1, fun hh => ⟨hobj _ _ _ (c2.2 hh).1, (c2.2 hh).2⟩⟩
    · obtain ⟨d1, d2, d3⟩ := hA.spare hl x hx hx'
      exact ⟨hobj _ _ _ d1, d2, d3⟩
  have hlbk : ∀ i, g'.lb i → ∃ k, ks[i]? = some k ∧ g'.β i = g.β k ∧ g.lb k := by
    intro i hi
    have hil : i < ks.length := by have := hp.lbs i hi; omega
    obtain ⟨b, h1, _⟩ := hb i _ (List.getElem?_eq_getElem hil)
    refine ⟨_, List.getElem?_eq_getElem hil, ?_, (h.bxs _ b.1 b.2 h1).1⟩
    rw [hβ i hil]
    show g.β (ks.getD i 0) = _
    rw [List.getD_eq_getElem?_getD, List.getElem?_eq_getElem hil]; rfl
  have hc : ∀ {u : Value} {c : C U}, CRel P E g' (os'.map some) w' u c → CRel P E g2 ob2 w' u (c.back ks q vers) := by
    intro u c hu'
    have hone := hu'.one
    cases c with
    | s x => exact hu'
    | sl τ xs f => exact ⟨hu'.1.mono hkr, hu'.2⟩
    | ob j ver =>
      cases ver with
      | zero =>
        simp only [C.back]
        split
        · rename_i vj hvj
          obtain ⟨_, o, ho1, _, hval⟩ := hu'
          have ho' : os'[j]? = some o := by
            rw [List.getElem?_map] at ho1
            cases hoj : os'[j]? with
            | none => rw [hoj] at ho1; simp at ho1
            | some o2 => rw [hoj] at ho1; simp at ho1; rw [ho1]
          have hj : j < os'.length := (List.getElem?_eq_some_iff.1 ho').1
          have hver := (hp.obs j o ho').2
          refine ⟨hone, _, hgn j o ho', by rw [List.getD_eq_getElem?_getD, hvj]; exact Nat.le_refl _, fun _ => ?_⟩
          rw [htq j hj]
          exact hval hver.symm
        · exact hone
      | succ n => exact hone
    | em j ver i off => exact hone
    | bx i off =>
      simp only [C.back]
      obtain ⟨k, h1, h2, h3⟩ := hlbk i hu'.1
      rw [h1]
      exact ⟨h3, by show u = .pointer (some ⟨g.β k, off, none⟩); rw [← h2]; exact hu'.2⟩
    | el τ xs i off =>
      obtain ⟨h1, b, o, cap, h2, h3⟩ := hu'
      exact ⟨h1, b, o, cap, h2, h3.mono hkr⟩
    | fv φ => exact FunRel.mono hkr hu'
    | fc f caps => exact hone
    | top => exact hu'
  have ha : ∀ (u : Value) (x : A U), ARel P E g' (os'.map some) w' u x → ARel P E g2 ob2 w' u (x.back ks q vers) := by
    intro u x hu'
    cases x with
    | c y => exact hc hu'
    | agg cs =>
      obtain ⟨arr, e, hh⟩ := hu'
      exact ⟨arr, e, all_map (C.back ks q vers) (fun _ _ hx => hc hx) hh⟩
    | top => trivial
  refine ⟨g2, ?_, ?_⟩
  · refine { ext := ?_, tms := h.tms.imp fun _ _ => AVRel.mono hg, bxs := fun k fz cells hk => ?_, lbs := fun k hl => ?_, obs := fun k o hk => ?_, own := fun b o x hx => ?_, dfr := h.dfr, fix := h.fix, bas := h.bas }
    · have hown : ∀ b o, (g.sub ks oks).mine b o → fr.w0.heap.size ≤ b ∨ fr.own b o := by
        intro b o hm
        rcases sub_mine hm with ⟨k, _, hh⟩ | ⟨k, _, hh⟩
        · exact h.wr hh (by simp)
        · exact h.wr hh (by simp)
      have hle : fr.w0.heap.size ≤ w.heap.size := h.ext.size
      refine ⟨hfx.os.trans h.ext.os, hfx.tape.trans h.ext.tape, hfx.output.trans h.ext.output, Nat.le_trans h.ext.size hfx.size, fun k hk hn => ?_, fun b o hb' hn => ?_, fun b o hb' hn => ?_⟩
      · rw [hfx.block k (Nat.lt_of_lt_of_le hk hle) (fun o hm => by rcases hown k o hm with h1 | h1; omega; exact hn o h1)]
        exact h.ext.block k hk hn
      · rw [hfx.cell b o (Nat.lt_of_lt_of_le hb' hle) (fun hm => by rcases hown b o hm with h1 | h1; omega; exact hn h1)]
        exact h.ext.cell b o hb' hn
      · rw [hfx.frozen b o (Nat.lt_of_lt_of_le hb' hle) (fun hm => by rcases hown b o hm with h1 | h1; omega; exact hn h1)]
        exact h.ext.frozen b o hb' hn
    · have hk' : bx2[k]? = some (some (fz, cells)) := hk
      rw [hbget] at hk'
      cases hi : idx k ks 0 with
      | none =>
        rw [hi] at hk'
        obtain ⟨hl, hbr⟩ := h.bxs k fz cells hk'
        exact ⟨hl, hbr.keep hl hg (hsame _ (.inr (.inl ⟨k, rfl, idx_none hi⟩)))⟩
      | some i =>
        rw [hi] at hk'
        dsimp only at hk'
        obtain ⟨m, hm, hm'⟩ := idx_some hi
        rw [Nat.zero_add] at hm; subst hm
        cases hbi : bs'[i]? with
        | none => rw [hbi] at hk'; simp at hk'
        | some b0 =>
          rw [hbi] at hk'; simp at hk'
          obtain ⟨rfl, rfl⟩ := hk'
          obtain ⟨hl, vs, hvs', hcell⟩ := hp.bxs i b0.1 b0.2 hbi
          obtain ⟨k', e1, e2, e3⟩ := hlbk i hl
          rw [hm'] at e1; simp at e1; subst e1
          refine ⟨e3, vs, all_map (C.back ks q vers) (fun _ _ hx => hc hx) hvs', fun n u hu' => ?_⟩
          obtain ⟨c1, c2, c3⟩ := hcell n u hu'
          show w'.cell? ⟨g.β k, n, none⟩ = _ ∧ (_ → w'.frozen? ⟨g.β k, n, none⟩ = false ∧ g2.ω (g.β k) n = _) ∧ (_ → g2.St (g.β k) n)
          rw [← e2]
          exact ⟨c1, fun hf => ⟨(c2 hf).1, hbox _ _ _ _ hm' (c2 hf).2⟩, fun hf => (hkr _ _ (c3 hf)).1⟩
    · show ∃ c, bx2[k]? = _
      rw [hbget]
      cases hi : idx k ks 0 with
      | none => exact h.lbs k hl
      | some i =>
        obtain ⟨m, hm, hm'⟩ := idx_some hi
        rw [Nat.zero_add] at hm; subst hm
        have hil : i < bs'.length := by rw [hlen, hbl]; exact (List.getElem?_eq_some_iff.1 hm').1
        simp only [List.getElem?_eq_getElem hil]
        exact ⟨_, rfl⟩
    · have hk' : ob2[k]? = some (some o) := hk
      by_cases hin' : q ≤ k ∧ k < q + os'.length
      · have hj : k - q < os'.length := by omega
        have h1 := hgn (k - q) _ (List.getElem?_eq_getElem hj)
        rw [show q + (k - q) = k from by omega, hk'] at h1
        simp at h1; subst h1
        have := hnew (k - q) _ (List.getElem?_eq_getElem hj)
        rw [show q + (k - q) = k from by omega] at this
        exact this
      · rw [hget0, if_neg hin', hgets] at hk'
        by_cases hko : k ∈ oks
        · rw [if_pos hko] at hk'
          cases hsk : s.ob[k]? with
          | none => rw [hsk] at hk'; simp at hk'
          | some x =>
            cases x with
            | none => rw [hsk] at hk'; simp at hk'
            | some o0 =>
              rw [hsk] at hk'; simp at hk'; subst hk'
              exact spent_keep (h.obs k o0 hsk) hst (htn k hin')
        · rw [if_neg hko] at hk'
          exact (h.obs k o hk').keep hst (hsame _ (.inr (.inr ⟨k, rfl, hko⟩))) (htn k hin')
    · have hsz := hfx.size
      by_cases hc' : (g.sub ks oks).mine b o ∨ ¬ b < w.heap.size
      · rw [hωn b o hc'] at hx
        have hlt : b < w'.heap.size := by
          cases hω : g'.ω b o with
          | none => rw [hω] at hx; simp at hx
          | some y => exact hp.own b o y hω
        refine ⟨hlt, ?_⟩
        rcases hc' with hm | hn
        · rcases sub_mine hm with ⟨k, _, hh⟩ | ⟨k, _, hh⟩
          · exact (h.wr hh (by simp)).elim .inl (fun hh => .inr (.inl hh))
          · exact (h.wr hh (by simp)).elim .inl (fun hh => .inr (.inl hh))
        · exact .inl (by have := h.ext.size; omega)
      · have hb' : b < w.heap.size := by
          by_cases hlt : b < w.heap.size
          · exact hlt
          · exact (hc' (.inr hlt)).elim
        rw [hωo b o hb' (fun hm => hc' (.inl hm))] at hx
        exact ⟨Nat.lt_of_lt_of_le hb' hsz, (h.own b o x hx).2⟩
  · rw [retAV_rel]
    match rs, hrel with
    | [], hrel => obtain ⟨arr, e, hh⟩ := hrel; exact ⟨arr, e, all_map (A.back ks q vers) ha hh⟩
    | [x], hrel => exact ha _ _ hrel
    | x :: y :: r, hrel => obtain ⟨arr, e, hh⟩ := hrel; exact ⟨arr, e, all_map (A.back ks q vers) ha hh⟩
end Go.Proofs.Ytohpgnpjijpedaa.B
