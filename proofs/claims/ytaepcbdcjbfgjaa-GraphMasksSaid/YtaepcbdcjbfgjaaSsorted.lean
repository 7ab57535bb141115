/- Functions: sorted. (Printed by wip/tools/mkfn.py out of wip/src/sorted.src.) -/
import Derived.Test.YtaepcbdcjbfgjaaBAwf
namespace Go.Proofs.Ytaepcbdcjbfgjaa.B
open Go Go.RowKit
set_option maxRecDepth 100000
noncomputable section
attribute [local irreducible] awp ctxK itersK iterK retQ retGQ awf ctxF loopF

/-! ### rising lists, each number once -/
def Rises (l : List Int) : Prop := l.Pairwise fun a b => a < b
theorem rises_uniq : ∀ {a b : List Int}, Rises a → Rises b → (∀ x, x ∈ a ↔ x ∈ b) → a = b
  | [], [], _, _, _ => rfl
  | [], y :: b, _, _, h => absurd ((h y).2 List.mem_cons_self) (by simp)
  | x :: a, [], _, _, h => absurd ((h x).1 List.mem_cons_self) (by simp)
  | x :: a, y :: b, ha, hb, h => by
    obtain ⟨ha1, ha2⟩ := List.pairwise_cons.1 ha
    obtain ⟨hb1, hb2⟩ := List.pairwise_cons.1 hb
    have hxy : x = y := by
      rcases List.mem_cons.1 ((h x).1 List.mem_cons_self) with e | e
      · exact e
      · rcases List.mem_cons.1 ((h y).2 List.mem_cons_self) with e2 | e2
        · exact e2.symm
        · have h1 := hb1 x e
          have h2 := ha1 y e2
          exact absurd h1 (by omega)
    subst hxy
    congr 1
    refine rises_uniq ha2 hb2 fun z => ?_
    constructor
    · intro hz
      rcases List.mem_cons.1 ((h z).1 (List.mem_cons_of_mem _ hz)) with e | e
      · have := ha1 z hz; exact absurd this (by omega)
      · exact e
    · intro hz
      rcases List.mem_cons.1 ((h z).2 (List.mem_cons_of_mem _ hz)) with e | e
      · have := hb1 z hz; exact absurd this (by omega)
      · exact e
/-- A number put where it belongs, unless it is there. -/
def insI (out : List Int) (x : Int) : List Int := if x ∈ out then out else out.takeWhile (fun y => decide (y < x)) ++ x :: out.dropWhile (fun y => decide (y < x))
theorem insI_mem (out : List Int) (x y : Int) : y ∈ insI out x ↔ y ∈ out ∨ y = x := by
  unfold insI
  split
  · rename_i h
    constructor
    · exact .inl
    · rintro (h1 | rfl)
      · exact h1
      · exact h
  · have e := List.takeWhile_append_dropWhile (p := fun y => decide (y < x)) (l := out)
    rw [List.mem_append, List.mem_cons]
    constructor
    · rintro (h1 | h1 | h1)
      · exact .inl (by rw [← e]; exact List.mem_append_left _ h1)
      · exact .inr h1
      · exact .inl (by rw [← e]; exact List.mem_append_right _ h1)
    · rintro (h1 | h1)
      · rw [← e, List.mem_append] at h1
        rcases h1 with h1 | h1
        · exact .inl h1
        · exact .inr (.inr h1)
      · exact .inr (.inl h1)
theorem takeW_all {p : Int → Bool} : ∀ (l : List Int), ∀ u ∈ l.takeWhile p, p u = true
  | [], u, h => by simp at h
  | y :: l, u, h => by
    rw [List.takeWhile_cons] at h
    split at h
    · rcases List.mem_cons.1 h with rfl | h
      · assumption
      · exact takeW_all l u h
    · simp at h
theorem insI_rises {out : List Int} (h : Rises out) (x : Int) : Rises (insI out x) := by
  unfold insI
  split
  · exact h
  · rename_i hx
    have e := List.takeWhile_append_dropWhile (p := fun y => decide (y < x)) (l := out)
    have h' := h
    rw [← e] at h'
    obtain ⟨p1, p2, p3⟩ := List.pairwise_append.1 h'
    have hb : ∀ u ∈ out.takeWhile (fun y => decide (y < x)), u < x := fun u hu => by simpa using takeW_all out u hu
    have ha : ∀ u ∈ out.dropWhile (fun y => decide (y < x)), x < u := by
      intro u hu
      cases hd : out.dropWhile (fun y => decide (y < x)) with
      | nil => rw [hd] at hu; simp at hu
      | cons y r =>
        have hy : ¬ y < x := by
          have := List.head_dropWhile_not (p := fun y => decide (y < x)) (l := out) (by rw [hd]; simp)
          simp only [hd, List.head_cons, decide_eq_false_iff_not] at this
          exact this
        have hyx : y ≠ x := fun e2 => hx (by rw [← e2, ← e]; refine List.mem_append_right _ ?_; rw [hd]; exact List.mem_cons_self)
        rw [hd] at hu p2
        rcases List.mem_cons.1 hu with rfl | hu
        · omega
        · have := (List.pairwise_cons.1 p2).1 u hu; omega
    refine List.pairwise_append.2 ⟨p1, List.pairwise_cons.2 ⟨ha, p2⟩, fun a haa b hbb => ?_⟩
    rcases List.mem_cons.1 hbb with rfl | hbb
    · exact hb a haa
    · have h1 := hb a haa; have h2 := ha b hbb; omega
/-- The numbers of a list, rising, each once. -/
def riseI (l : List Int) : List Int := l.foldl insI []
theorem riseI_gen : ∀ (l out : List Int), Rises out → Rises (l.foldl insI out) ∧ ∀ x, x ∈ l.foldl insI out ↔ x ∈ out ∨ x ∈ l
  | [], out, h => ⟨h, fun x => by simp⟩
  | y :: l, out, h => by
    obtain ⟨h1, h2⟩ := riseI_gen l (insI out y) (insI_rises h y)
    refine ⟨h1, fun x => ?_⟩
    rw [List.foldl_cons, h2, insI_mem, List.mem_cons]
    constructor
    · rintro ((h3 | h3) | h3)
      · exact .inl h3
      · exact .inr (.inl h3)
      · exact .inr (.inr h3)
    · rintro (h3 | h3 | h3)
      · exact .inl (.inl h3)
      · exact .inl (.inr h3)
      · exact .inr h3
theorem riseI_rises (l : List Int) : Rises (riseI l) := (riseI_gen l [] List.Pairwise.nil).1
theorem riseI_mem (l : List Int) (x : Int) : x ∈ riseI l ↔ x ∈ l := by unfold riseI; rw [(riseI_gen l [] List.Pairwise.nil).2]; simp
theorem riseI_len (l : List Int) : (riseI l).length ≤ l.length := by
  have : ∀ (l out : List Int), (l.foldl insI out).length ≤ out.length + l.length := by
    intro l
    induction l with
    | nil => intro out; simp
    | cons y l ih =>
      intro out
      have h1 := ih (insI out y)
      have h2 : (insI out y).length ≤ out.length + 1 := by
        unfold insI
        split
        · omega
        · have e := congrArg List.length (List.takeWhile_append_dropWhile (p := fun z => decide (z < y)) (l := out))
          rw [List.length_append] at e
          rw [List.length_append, List.length_cons]; omega
      rw [List.foldl_cons, List.length_cons]; omega
  have h3 := this l []
  unfold riseI
  simpa using h3
/-- Neighbours that are the same become one. -/
def snocI (acc : List Int) (x : Int) : List Int := if acc.getLast? = some x then acc else acc ++ [x]
def compactI (l : List Int) : List Int := l.foldl snocI []
def sortI (l : List Int) : List Int := l.mergeSort fun x y => decide (x ≤ y)
theorem sortI_mem (l : List Int) (x : Int) : x ∈ sortI l ↔ x ∈ l := by unfold sortI; exact List.mem_mergeSort
theorem sortI_sorted (l : List Int) : (sortI l).Pairwise fun a b => a ≤ b := by
  have := List.pairwise_mergeSort (le := fun x y : Int => decide (x ≤ y)) (fun a b c h1 h2 => by simp at h1 h2 ⊢; omega) (fun a b => by simp; omega) l
  exact this.imp (fun h => by simpa using h)
theorem compactI_gen : ∀ (l acc : List Int), (l.Pairwise fun a b => a ≤ b) → Rises acc → (∀ a ∈ acc, ∀ b ∈ l, a ≤ b) → Rises (l.foldl snocI acc) ∧ ∀ x, x ∈ l.foldl snocI acc ↔ x ∈ acc ∨ x ∈ l
  | [], acc, _, h, _ => ⟨h, fun x => by simp⟩
  | y :: l, acc, hl, h, hle => by
    obtain ⟨hl1, hl2⟩ := List.pairwise_cons.1 hl
    by_cases hy : acc.getLast? = some y
    · have hmem : y ∈ acc := List.mem_of_getLast? hy
      have e : snocI acc y = acc := by unfold snocI; rw [if_pos hy]
      obtain ⟨h1, h2⟩ := compactI_gen l acc hl2 h (fun a ha b hb => hle a ha b (List.mem_cons_of_mem _ hb))
      rw [List.foldl_cons, e]
      refine ⟨h1, fun x => ?_⟩
      rw [h2, List.mem_cons]
      constructor
      · rintro (h3 | h3)
        · exact .inl h3
        · exact .inr (.inr h3)
      · rintro (h3 | rfl | h3)
        · exact .inl h3
        · exact .inl hmem
        · exact .inr h3
    · have e : snocI acc y = acc ++ [y] := by unfold snocI; rw [if_neg hy]
      have hlt : ∀ a ∈ acc, a < y := by
        intro a ha
        have h1 := hle a ha y List.mem_cons_self
        rcases Int.lt_or_eq_of_le h1 with h2 | h2
        · exact h2
        · exfalso
          subst h2
          -- the greatest is the last
          apply hy
          have hne : acc ≠ [] := List.ne_nil_of_mem ha
          rw [List.getLast?_eq_some_getLast hne]
          congr 1
          have hlast : acc.getLast hne ∈ acc := List.getLast_mem hne
          have h3 := hle _ hlast a List.mem_cons_self
          have h4 : a ≤ acc.getLast hne := by
            have hp := h
            rw [← List.dropLast_concat_getLast hne] at hp ha
            rcases List.mem_append.1 ha with h5 | h5
            · have := (List.pairwise_append.1 hp).2.2 a h5 _ List.mem_cons_self; omega
            · simp at h5; omega
          omega
      obtain ⟨h1, h2⟩ := compactI_gen l (acc ++ [y]) hl2 (List.pairwise_append.2 ⟨h, List.pairwise_singleton _ _, fun a ha b hb => by simp at hb; subst hb; exact hlt a ha⟩) (fun a ha b hb => by
        rcases List.mem_append.1 ha with h3 | h3
        · exact hle a h3 b (List.mem_cons_of_mem _ hb)
        · simp at h3; subst h3; exact hl1 b hb)
      rw [List.foldl_cons, e]
      refine ⟨h1, fun x => ?_⟩
      rw [h2, List.mem_append, List.mem_singleton, List.mem_cons]
      constructor
      · rintro ((h3 | h3) | h3)
        · exact .inl h3
        · exact .inr (.inl h3)
        · exact .inr (.inr h3)
      · rintro (h3 | h3 | h3)
        · exact .inl (.inl h3)
        · exact .inl (.inr h3)
        · exact .inr h3
theorem compact_sort (l : List Int) : compactI (sortI l) = riseI l := by
  obtain ⟨h1, h2⟩ := compactI_gen (sortI l) [] (sortI_sorted l) List.Pairwise.nil (by simp)
  refine rises_uniq h1 (riseI_rises l) fun x => ?_
  rw [riseI_mem]
  unfold compactI
  rw [h2, sortI_mem]; simp

end
end Go.Proofs.Ytaepcbdcjbfgjaa.B
