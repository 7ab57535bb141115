/- Calls that get boxes and objects of their caller's. -/
import Derived.Test.YtohpgnpjijpedaaBSim4
namespace Go.Proofs.Ytohpgnpjijpedaa.B
open Go Go.RowKit
variable {U : Uni} {P : Program} {E : Enc U} {fr : Fr} {w : World} {g : G} {s : S U} {a : Act}

theorem sets_append {α : Type} : ∀ (l : List α) (x y : List (Nat × α)), sets l (x ++ y) = sets (sets l x) y
  | _, [], _ => rfl
  | l, (k, x) :: r, y => sets_append (l.set k x) r y
theorem unlike_cons {x : Nat} {l : List Nat} (h : unlike (x :: l) = true) : x ∉ l ∧ unlike l = true := by
  simp only [unlike, Bool.and_eq_true, Bool.not_eq_true'] at h
  refine ⟨fun hx => ?_, h.2⟩
  have := List.any_eq_false.1 h.1 x hx
  simp at this
theorem idx_some {k : Nat} : ∀ {l : List Nat} {j i : Nat}, idx k l j = some i → ∃ m, i = j + m ∧ l[m]? = some k
  | [], _, _, h => by simp [idx] at h
  | x :: r, j, i, h => by
    simp only [idx] at h
    split at h
    · rename_i hb
      simp at h; subst h
      exact ⟨0, rfl, by simp [Nat.eq_of_beq_eq_true hb]⟩
    · obtain ⟨m, h1, h2⟩ := idx_some h
      exact ⟨m + 1, by omega, by simpa using h2⟩
theorem idx_of {k : Nat} : ∀ {l : List Nat} {j m : Nat}, unlike l = true → l[m]? = some k → idx k l j = some (j + m)
  | [], _, _, _, h => by simp at h
  | x :: r, j, m, hu, h => by
    obtain ⟨h1, h2⟩ := unlike_cons hu
    simp only [idx]
    cases m with
    | zero => simp at h; subst h; simp
    | succ m =>
      have hm : r[m]? = some k := by simpa using h
      have hne : x ≠ k := by rintro rfl; exact h1 (List.mem_of_getElem? hm)
      have hb : Nat.beq x k = false := by
        cases hh : Nat.beq x k with
        | false => rfl
        | true => exact (hne (Nat.eq_of_beq_eq_true hh)).elim
      rw [hb]
      show idx k r (j + 1) = _
      rw [idx_of h2 hm]; congr 1; omega
theorem idx_none {k : Nat} : ∀ {l : List Nat} {j : Nat}, idx k l j = none → k ∉ l
  | [], _, _ => by simp
  | x :: r, j, h => by
    simp only [idx] at h
    split at h
    · simp at h
    · rename_i hb
      have := idx_none h
      simp only [List.mem_cons, not_or]
      refine ⟨?_, this⟩
      rintro rfl
      simp at hb

theorem passed_spec : ∀ {oks : List Nat} {os : List (Ob U)}, s.passed oks = some os → os.length = oks.length ∧ ∀ (j k : Nat), oks[j]? = some k → ∃ o, s.ob[k]? = some (some o) ∧ os[j]? = some { o with ver := 0 }
  | [], os, h => by simp [S.passed] at h; subst h; exact ⟨rfl, fun j k hk => by simp at hk⟩
  | k :: ks, os, h => by
    simp only [S.passed] at h
    split at h
    · rename_i o r h1 h2
      simp at h; subst h
      obtain ⟨i1, i2⟩ := passed_spec h2
      refine ⟨by simp [i1], fun j q hq => ?_⟩
      cases j with
      | zero => simp at hq; subst hq; exact ⟨o, h1, rfl⟩
      | succ j => exact i2 j q (by simpa using hq)
    · simp at h
theorem boxesAt_spec : ∀ {ks : List Nat} {bs : List (Bool × List (C U))}, s.boxesAt ks = some bs → bs.length = ks.length ∧ ∀ (i k : Nat), ks[i]? = some k → ∃ b, s.bx[k]? = some (some b) ∧ bs[i]? = some b
  | [], bs, h => by simp [S.boxesAt] at h; subst h; exact ⟨rfl, fun j k hk => by simp at hk⟩
  | k :: ks, bs, h => by
    simp only [S.boxesAt] at h
    split at h
    · rename_i o r h1 h2
      simp at h; subst h
      obtain ⟨i1, i2⟩ := boxesAt_spec h2
      refine ⟨by simp [i1], fun j q hq => ?_⟩
      cases j with
      | zero => simp at hq; subst hq; exact ⟨o, h1, rfl⟩
      | succ j => exact i2 j q (by simpa using hq)
    · simp at h
theorem spents_get : ∀ {oks : List Nat} (l : List (Option (Ob U))), unlike oks = true → (∀ k ∈ oks, l[k]? = s.ob[k]?) → ∀ k, (sets l (s.spents oks))[k]? = if k ∈ oks then (s.ob[k]?).map (Option.map Ob.spent) else l[k]?
  | [], l, _, _, k => by simp [S.spents, sets]
  | q :: oks, l, hu, hl, k => by
    obtain ⟨h1, h2⟩ := unlike_cons hu
    simp only [S.spents]
    split
    · rename_i o ho
      simp only [sets]
      rw [spents_get (l.set q (some o.spent)) h2 (fun k hk => by
        rw [List.getElem?_set_ne (by rintro rfl; exact h1 hk)]; exact hl k (by simp [hk])) k]
      have hq : q < l.length := by
        have := hl q (by simp)
        rw [ho] at this
        exact (List.getElem?_eq_some_iff.1 this).1
      by_cases e : k = q
      · subst e
        rw [if_neg h1, if_pos (by simp), List.getElem?_set_self hq, ho]; rfl
      · by_cases hk : k ∈ oks
        · rw [if_pos hk, if_pos (by simp [hk])]
        · rw [if_neg hk, if_neg (by simp [e, hk]), List.getElem?_set_ne (Ne.symm e)]
    · rename_i hno
      rw [spents_get l h2 (fun k hk => hl k (by simp [hk])) k]
      by_cases e : k = q
      · subst e
        rw [if_neg h1, if_pos (by simp), hl k (by simp)]
        cases hk : s.ob[k]? with
        | none => rfl
        | some x =>
          cases x with
          | none => rfl
          | some o => exact (hno o hk).elim
      · by_cases hk : k ∈ oks
        · rw [if_pos hk, if_pos (by simp [hk])]
        · rw [if_neg hk, if_neg (by simp [e, hk])]

def G.sub (g : G) (ks oks : List Nat) : G :=
  { β := fun i => g.β (ks.getD i 0), lb := fun i => i < ks.length,
    ω := fun b o => match g.ω b o with | some .st => some .st | some (.box k) => (idx k ks 0).map Own.box | some (.obj k) => (idx k oks 0).map Own.obj | none => none,
    tk := fun j => g.tk (oks.getD j 0) }
theorem sub_st {ks oks : List Nat} {b o : Nat} : (g.sub ks oks).St b o ↔ g.St b o := by
  show (match g.ω b o with | some .st => some Own.st | some (.box k) => (idx k ks 0).map Own.box | some (.obj k) => (idx k oks 0).map Own.obj | none => none) = some .st ↔ g.ω b o = some .st
  cases hx : g.ω b o with
  | none => simp
  | some x =>
    cases x with
    | st => simp
    | box k => cases idx k ks 0 <;> simp
    | obj k => cases idx k oks 0 <;> simp
theorem sub_keeps {ks oks : List Nat} : Keeps g.St w (g.sub ks oks).St w := fun _ _ h => ⟨sub_st.2 h, rfl⟩
theorem sub_box {ks oks : List Nat} (hu : unlike ks = true) {b o i k : Nat} (hk : ks[i]? = some k) (h : g.ω b o = some (.box k)) : (g.sub ks oks).ω b o = some (.box i) := by
  show (match g.ω b o with | some .st => some Own.st | some (.box k) => (idx k ks 0).map Own.box | some (.obj k) => (idx k oks 0).map Own.obj | none => none) = _
  rw [h]; simp only [idx_of hu hk, Nat.zero_add]; rfl
theorem sub_obj {ks oks : List Nat} (hu : unlike oks = true) {b o j k : Nat} (hk : oks[j]? = some k) (h : g.ω b o = some (.obj k)) : (g.sub ks oks).ω b o = some (.obj j) := by
  show (match g.ω b o with | some .st => some Own.st | some (.box k) => (idx k ks 0).map Own.box | some (.obj k) => (idx k oks 0).map Own.obj | none => none) = _
  rw [h]; simp only [idx_of hu hk, Nat.zero_add]; rfl
/-- What is the callee's to write: a box or an object that was handed over. -/
theorem sub_mine {ks oks : List Nat} {b o : Nat} (h : (g.sub ks oks).mine b o) : (∃ k ∈ ks, g.ω b o = some (.box k)) ∨ ∃ k ∈ oks, g.ω b o = some (.obj k) := by
  obtain ⟨y, hne, hy⟩ := h
  have hy' : (match g.ω b o with | some .st => some Own.st | some (.box k) => (idx k ks 0).map Own.box | some (.obj k) => (idx k oks 0).map Own.obj | none => none) = some y := hy
  split at hy'
  · simp at hy'; exact (hne hy'.symm).elim
  · rename_i k hk
    cases hi : idx k ks 0 with
    | none => rw [hi] at hy'; simp at hy'
    | some i =>
      obtain ⟨m, _, hm⟩ := idx_some hi
      exact .inl ⟨k, List.mem_of_getElem? hm, hk⟩
  · rename_i k hk
    cases hi : idx k oks 0 with
    | none => rw [hi] at hy'; simp at hy'
    | some i =>
      obtain ⟨m, _, hm⟩ := idx_some hi
      exact .inr ⟨k, List.mem_of_getElem? hm, hk⟩
  · simp at hy'

theorem pass_rel (h : Sim P E fr g s a w) {ks oks : List Nat} {os : List (Ob U)} (hos : s.passed oks = some os) {v : Value} {c : C U} (hc : CRel P E g s.ob w v c) : CRel P E (g.sub ks oks) (os.map some) w v (c.pass s ks oks) := by
  obtain ⟨hl, hp⟩ := passed_spec hos
  have hone := hc.one
  cases c with
  | s x => exact hc
  | sl τ xs f => exact ⟨hc.1.mono sub_keeps, hc.2⟩
  | ob k ver =>
    simp only [C.pass]
    split
    · rename_i o j ho hj
      obtain ⟨m, hm, hm'⟩ := idx_some hj
      rw [Nat.zero_add] at hm; subst hm
      obtain ⟨o', h1, h2⟩ := hp _ k hm'
      obtain ⟨i1, i2⟩ := obAt_eq ho
      rw [i1] at h1; simp at h1; subst h1
      refine ⟨hone, { o with ver := 0 }, by rw [List.getElem?_map, h2]; rfl, Nat.le_refl _, fun _ => ?_⟩
      have := h.obval ho hc
      show v = .slice (g.tk (oks.getD _ 0)).1 o.xs.length (g.tk (oks.getD _ 0)).2
      rw [List.getD_eq_getElem?_getD, hm']; exact this.1
    · exact hone
  | bx k off =>
    simp only [C.pass]
    split
    · rename_i i hi
      obtain ⟨m, hm, hm'⟩ := idx_some hi
      rw [Nat.zero_add] at hm; subst hm
      refine ⟨(List.getElem?_eq_some_iff.1 hm').1, ?_⟩
      show v = .pointer (some ⟨g.β (ks.getD _ 0), off, none⟩)
      rw [List.getD_eq_getElem?_getD, hm']; exact hc.2
    · exact hone
  | el τ xs i off =>
    obtain ⟨h1, b, o, cap, h2, h3⟩ := hc
    exact ⟨h1, b, o, cap, h2, h3.mono sub_keeps⟩
  | em k ver i off =>
    simp only [C.pass]
    split
    · rename_i o j ho hj
      obtain ⟨m, hm, hm'⟩ := idx_some hj
      rw [Nat.zero_add] at hm; subst hm
      obtain ⟨o', h1, h2⟩ := hp _ k hm'
      obtain ⟨i1, i2⟩ := obAt_eq ho
      rw [i1] at h1; simp at h1; subst h1
      obtain ⟨_, o2, c2, c3, c4⟩ := hc
      rw [i1] at c2; simp at c2; subst c2
      obtain ⟨d1, b, o3, d2, d3⟩ := c4 i2.symm
      refine ⟨hone, { o with ver := 0 }, by rw [List.getElem?_map, h2]; rfl, Nat.le_refl _, fun _ => ⟨d1, b, o3, ?_, d3⟩⟩
      show (g.tk (oks.getD _ 0)).1 = _
      rw [List.getD_eq_getElem?_getD, hm']; exact d2
    · exact hone
  | fv φ => exact FunRel.mono sub_keeps hc
  | fc f caps => exact hone
  | top => exact hc

theorem all_map {α β γ : Type} {R : α → β → Prop} {R' : α → γ → Prop} (f : β → γ) (h : ∀ a b, R a b → R' a (f b)) {l : List α} {r : List β} (hh : All2 R l r) : All2 R' l (r.map f) := All2.map_right f h hh

/-- What is handed over, in the callee's names. -/
theorem Sim.part (h : Sim P E fr g s a w) {ks oks : List Nat} {bs : List (Bool × List (C U))} {os : List (Ob U)} (hu : unlike ks = true) (huo : unlike oks = true) (hbs : s.boxesAt ks = some bs) (hos : s.passed oks = some os) :
    Part P E (g.sub ks oks) w (bs.map fun b => (b.1, b.2.map (C.pass s ks oks))) os := by
  obtain ⟨hbl, hb⟩ := boxesAt_spec hbs
  obtain ⟨hol, ho⟩ := passed_spec hos
  refine ⟨fun i fz cells hi => ?_, fun k hk => by have hk' : k < ks.length := hk; simpa [hbl] using hk', fun j o hj => ?_, fun b o x hx => ?_⟩
  · rw [List.getElem?_map] at hi
    cases hbi : bs[i]? with
    | none => rw [hbi] at hi; simp at hi
    | some b0 =>
      rw [hbi] at hi; simp at hi; obtain ⟨rfl, rfl⟩ := hi
      have hil : i < ks.length := by rw [← hbl]; exact (List.getElem?_eq_some_iff.1 hbi).1
      obtain ⟨b1, h1, h2⟩ := hb i _ (List.getElem?_eq_getElem hil)
      rw [hbi] at h2; simp at h2; subst h2
      obtain ⟨_, vs, hvs, hcell⟩ := h.bxs _ b0.1 b0.2 h1
      refine ⟨hil, vs, all_map _ (fun _ _ hh => pass_rel h hos hh) hvs, fun n v hv => ?_⟩
      obtain ⟨c1, c2, c3⟩ := hcell n v hv
      have hβ : (g.sub ks oks).β i = g.β ks[i] := by show g.β (ks.getD i 0) = _; rw [List.getD_eq_getElem?_getD, List.getElem?_eq_getElem hil]; rfl
      rw [hβ]
      exact ⟨c1, fun hf => ⟨(c2 hf).1, sub_box hu (List.getElem?_eq_getElem hil) (c2 hf).2⟩, fun hf => sub_st.2 (c3 hf)⟩
  · have hjl : j < oks.length := by rw [← hol]; exact (List.getElem?_eq_some_iff.1 hj).1
    obtain ⟨o', h1, h2⟩ := ho j _ (List.getElem?_eq_getElem hjl)
    rw [hj] at h2; simp at h2; subst h2
    refine ⟨?_, rfl⟩
    have ht : (g.sub ks oks).tk j = g.tk oks[j] := by show g.tk (oks.getD j 0) = _; rw [List.getD_eq_getElem?_getD, List.getElem?_eq_getElem hjl]; rfl
    obtain ⟨⟨q1, q2⟩, q3⟩ := h.obs _ o' h1
    refine ⟨⟨by rw [ht]; exact q1, q2⟩, fun hcap => ?_⟩
    rw [ht] at hcap ⊢
    obtain ⟨b, off, cv, eb, hA⟩ := q3 hcap
    refine ⟨b, off, cv, eb, ⟨fun i1 j1 hi hj1 => ?_, fun i1 hi j1 d hd => (hA.rel i1 hi j1 d hd).mono sub_keeps, fun hl x hx hx' => ?_⟩⟩
    · obtain ⟨d1, d2⟩ := hA.cell i1 j1 hi hj1
      refine ⟨d1, ?_⟩
      unfold Mode at d2 ⊢
      show match o'.fr with | none => _ | some f => _
      split at d2
      · rename_i hf; simp only [hf]; exact sub_st.2 d2
      · rename_i f hf
        simp only [hf]
        exact ⟨fun hh => sub_st.2 (d2.1 hh), fun hh => ⟨sub_obj huo (List.getElem?_eq_getElem hjl) (d2.2 hh).1, (d2.2 hh).2⟩⟩
    · obtain ⟨d1, d2, d3⟩ := hA.spare hl x hx hx'
      exact ⟨sub_obj huo (List.getElem?_eq_getElem hjl) d1, d2, d3⟩
  · have hx' : (match g.ω b o with | some .st => some Own.st | some (.box k) => (idx k ks 0).map Own.box | some (.obj k) => (idx k oks 0).map Own.obj | none => none) = some x := hx
    cases hω : g.ω b o with
    | none => rw [hω] at hx'; simp at hx'
    | some y => exact (h.own b o y hω).1
end Go.Proofs.Ytohpgnpjijpedaa.B
