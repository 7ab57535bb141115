/- slices.Sort and slices.Compact of ints that are the call's own. -/
import Derived.Test.YtaepcbdcjbfgjaaLput
import Derived.Test.YtaepcbdcjbfgjaaSsorted
import Derived.Test.YtaepcbdcjbfgjaaShelf
namespace Go.Proofs.Ytaepcbdcjbfgjaa.B
open Go Go.RowKit Go.Shelf Go.Sort
set_option maxRecDepth 1000000
set_option linter.unusedVariables false

theorem lib_compact (zs : List Int) : Go.Lib.compact zs = compactI zs := by
  have key : ∀ m, m ≤ zs.length → Go.Lib.compactUpTo zs.toArray m = (zs.take m).foldl snocI [] ∧ (∀ (h : 0 < m), ((zs.take m).foldl snocI []).getLast? = zs[m - 1]?) := by
    intro m
    induction m with
    | zero => intro _; exact ⟨by simp [Go.Lib.compactUpTo], fun h => absurd h (Nat.lt_irrefl 0)⟩
    | succ m ih =>
      intro hm
      obtain ⟨h1, h2⟩ := ih (by omega)
      have hlt : m < zs.length := by omega
      have hx : zs.toArray[m]! = zs[m] := by rw [getElem!_pos zs.toArray m (by simpa using hlt)]; simp
      have ht : zs.take (m + 1) = zs.take m ++ [zs[m]] := by rw [List.take_add_one, List.getElem?_eq_getElem hlt]; rfl
      have hsn : ∀ (acc : List Int) (x : Int), snocI acc x = if acc.getLast? = some x then acc else acc ++ [x] := fun _ _ => rfl
      rw [Go.Lib.compactUpTo_succ, h1, ht, List.foldl_append, List.foldl_cons, List.foldl_nil, hx]
      have hg : zs[m + 1 - 1]? = some zs[m] := by rw [Nat.add_sub_cancel]; exact List.getElem?_eq_getElem hlt
      by_cases h0 : m = 0
      · subst h0
        have hk : Go.Lib.keeps zs.toArray 0 = true := Go.Lib.keeps_lt_one _ 0 (by omega)
        rw [hk]
        simp [snocI, hg]
      · have hpos : 0 < m := by omega
        have hl := h2 hpos
        have hlt1 : m - 1 < zs.length := by omega
        have hx1 : zs.toArray[m - 1]! = zs[m - 1] := by rw [getElem!_pos zs.toArray (m - 1) (by simpa using hlt1)]; simp
        rw [List.getElem?_eq_getElem hlt1] at hl
        by_cases he : zs[m] = zs[m - 1]
        · have hk : Go.Lib.keeps zs.toArray m = false := Go.Lib.keeps_neg hpos (by rw [hx, hx1]; exact he)
          have hs : snocI ((zs.take m).foldl snocI []) zs[m] = (zs.take m).foldl snocI [] := by rw [hsn, if_pos (by rw [hl, he])]
          rw [hk, hs]
          exact ⟨by simp, fun _ => by rw [hl, hg, he]⟩
        · have hk : Go.Lib.keeps zs.toArray m = true := Go.Lib.keeps_pos (by rw [hx, hx1]; exact he)
          have hs : snocI ((zs.take m).foldl snocI []) zs[m] = (zs.take m).foldl snocI [] ++ [zs[m]] := by
            rw [hsn, if_neg (fun e => he (by rw [hl] at e; exact (Option.some.inj e).symm))]
          rw [hk, hs]
          exact ⟨by simp, fun _ => by rw [hg]; simp⟩
  have := (key zs.length (Nat.le_refl _)).1
  unfold Go.Lib.compact compactI
  rw [this, List.take_length]

def U_sort_int : FnU Un := fun τ xs args => match τ, xs, args with
  | .int, xs, [] => some ([xs.length ≤ 1000000000], sortI xs)
  | _, _, _ => none
theorem okU_sort_int : UpOK 43 U_sort_int := by
  intro τ xs ds ob ys h hob
  unfold U_sort_int at h
  split at h
  · rename_i xs
    simp only [Option.some.injEq, Prod.mk.injEq] at h
    obtain ⟨rfl, rfl⟩ := h
    have hlen : xs.length ≤ 1000000000 := hob _ (List.mem_singleton.2 rfl)
    refine ⟨fun w g k ver live vs hO hown hvs => ?_, hasBody_of Try.func43 (by kernel_rfl) (by kernel_rfl)⟩
    match vs, hvs with
    | [], _ =>
      have hsl : (sortI xs).length = xs.length := by unfold sortI; exact List.length_mergeSort _
      by_cases hne : xs = []
      · subst hne
        refine (Try.slices_Sort_int_none (g.tk k).1 (g.tk k).2 w).mono ?_
        rintro e w' ⟨rfl, rfl⟩
        refine ⟨rfl, hsl, ⟨rfl, rfl, rfl, Nat.le_refl _, fun _ _ _ => rfl, fun _ _ _ _ => rfl, fun _ _ _ _ => rfl⟩, ?_⟩
        have e : sortI [] = [] := by simp [sortI]
        rw [e]; exact hO
      · obtain ⟨b, off, htk, hcap, hA⟩ := hO.open1 hne
        obtain ⟨hH, h1⟩ := hA.holds
        have hpos : 0 < xs.length := List.length_pos_iff.2 hne
        have hb : b < w.heap.size := by
          have := (hA.cell 0 0 hpos (show (0 : Nat) < 1 from Nat.one_pos)).1
          exact lt_of_cell this
        have h0 : (g.tk k).1 = some ⟨b, off, none⟩ := by rw [htk]
        rw [h0]
        refine (Try.slices_Sort_int b off (g.tk k).2 xs w hH hb (by omega)).mono ?_
        rintro e w' ⟨rfl, n, os, rfl⟩
        have hp := putR_of (n := n) (os := os) hb hH (d := (sortI xs).toArray) (by simpa using hsl)
        have hus : (sortI xs).toArray.toList.map (Value.int .i64) = (sortI xs).map (Value.int .i64) := by simp
        rw [hus] at hp
        have hul : ((sortI xs).map (Value.int .i64)).length = xs.length := by rw [List.length_map, hsl]
        obtain ⟨r1, _⟩ := ObRel.put (w' := _) (ys := sortI xs) (τ := .int) rfl htk hb hown hA hp hul (by rw [hul, hsl]; exact Nat.le_refl _) hcap (by omega) (fun i hi d hd => by
          have hd' : some (V.s (.int .i64 (sortI xs)[i])) = some d := hd
          cases hd'
          refine ⟨.int .i64 (sortI xs)[i], by rw [List.getElem?_map, List.getElem?_eq_getElem hi]; rfl, .s _ (h1 _ ((sortI_mem xs _).1 (List.getElem_mem hi)))⟩)
        refine ⟨rfl, hsl, ?_, r1⟩
        refine FExt.put (fr := ⟨w, fun b i => g.ω b i = some (.obj k), g.St, 0, g.β⟩) hp (fun i hi => ?_) (by rw [hul]; exact hpos)
        rw [hul] at hi
        have := (hA.cell i 0 hi (show (0 : Nat) < 1 from Nat.one_pos)).2
        have e : off + i * Un.sz .int + 0 = off + i := by show off + i * 1 + 0 = _; omega
        rw [e] at this
        exact (this.2 (Nat.zero_le _)).1
  · simp at h

def G_compact_int : List Bool × FnG Un := ([true], fun args bxs os => match args, bxs, os with
  | [.c (.ob 0 0)], [], [o] => (oM .int o).bind fun xs => some ([], [.c (.ob 0 0)], [], [⟨0, .int, compactI xs, some 0, true⟩])
  | _, _, _ => none)
theorem compactI_len (l : List Int) : (compactI l).length ≤ l.length := by
  have : ∀ (l acc : List Int), (l.foldl snocI acc).length ≤ acc.length + l.length := by
    intro l
    induction l with
    | nil => intro acc; simp
    | cons y l ih =>
      intro acc
      have h1 := ih (snocI acc y)
      have h2 : (snocI acc y).length ≤ acc.length + 1 := by unfold snocI; split <;> simp
      rw [List.foldl_cons, List.length_cons]; omega
  have h3 := this l []
  unfold compactI
  simpa using h3
theorem compactI_sub (l : List Int) : ∀ x ∈ compactI l, x ∈ l := by
  have : ∀ (l acc : List Int), ∀ x ∈ l.foldl snocI acc, x ∈ acc ∨ x ∈ l := by
    intro l
    induction l with
    | nil => intro acc x hx; exact .inl hx
    | cons y l ih =>
      intro acc x hx
      rcases ih (snocI acc y) x hx with h | h
      · unfold snocI at h
        split at h
        · exact .inl h
        · rcases List.mem_append.1 h with h | h
          · exact .inl h
          · rw [List.mem_singleton] at h; exact .inr (by rw [h]; exact List.mem_cons_self)
      · exact .inr (List.mem_cons_of_mem _ h)
  intro x hx
  rcases this l [] x hx with h | h
  · simp at h
  · exact h
theorem okG_compact_int : GnOK 44 G_compact_int := by
  intro args bxs obs ob rs bxs' obs' h hob
  unfold G_compact_int at h
  dsimp only at h
  split at h
  · rename_i o
    simp only [Option.bind_eq_some_iff, Option.some.injEq, Prod.mk.injEq] at h
    obtain ⟨xs, e0, rfl, rfl, rfl, rfl⟩ := h
    obtain rfl := oM_eq e0
    refine ⟨?_, hasBody_of Try.func44 (by kernel_rfl) (by kernel_rfl)⟩
    intro w g vals hp hvals
    match vals, hvals with
    | [v0], ⟨h0, _⟩ =>
      obtain ⟨_, o', ho', _, hv⟩ := h0
      simp at ho'; subst ho'
      have hv : v0 = .slice (g.tk 0).1 xs.length (g.tk 0).2 := hv rfl
      subst hv
      obtain ⟨hO, _⟩ := hp.obs 0 _ rfl
      have hlb : ∀ k, ¬ g.lb k := fun k hk => by have := hp.lbs k hk; simp at this
      by_cases hne : xs = []
      · subst hne
        refine (Try.slices_Compact_int_empty (g.tk 0).1 (g.tk 0).2 w).mono ?_
        rintro e w' ⟨rfl, rfl⟩
        refine ⟨_, rfl, g, ⟨rfl, rfl, rfl, Nat.le_refl _, fun _ _ _ => rfl, fun _ _ _ _ => rfl, fun _ _ _ _ => rfl⟩, hp, fun _ _ => rfl, fun b o x _ hx => ?_, ?_⟩
        · cases x with
          | st => exact .inr ⟨rfl, hx⟩
          | box k => exact .inl ⟨_, by simp, hx⟩
          | obj k => exact .inl ⟨_, by simp, hx⟩
        · exact ⟨rfl, _, rfl, Nat.le_refl _, fun _ => rfl⟩
      · obtain ⟨b, off, htk, hcap, hA⟩ := hO.open1 hne
        obtain ⟨hH, h1⟩ := hA.holds
        have hmax : xs.length ≤ 9223372036854775807 := hO.1.1.2
        have hpos : 0 < xs.length := List.length_pos_iff.2 hne
        have hb : b < w.heap.size := lt_of_cell (hA.cell 0 0 hpos (show (0 : Nat) < 1 from Nat.one_pos)).1
        have h0 : (g.tk 0).1 = some ⟨b, off, none⟩ := by rw [htk]
        rw [h0]
        refine (Try.slices_Compact_int b off (g.tk 0).2 xs w hH hmax hcap).mono ?_
        rintro e w' ⟨rfl, q, rfl⟩
        rw [lib_compact]
        have hcl := compactI_len xs
        have hp2 := putR_of (n := q) (os := #[]) hb hH (d := (compactI xs ++ List.replicate (xs.length - (compactI xs).length) 0).toArray) (by simp; omega)
        rw [grow_empty] at hp2
        obtain ⟨us, hus⟩ : ∃ us, us = (compactI xs ++ List.replicate (xs.length - (compactI xs).length) 0).toArray.toList.map (Value.int .i64) := ⟨_, rfl⟩
        rw [← hus] at hp2
        have hul : us.length = xs.length := by rw [hus]; simp; omega
        have hget : ∀ i (hi : i < (compactI xs).length), us[i]? = some (.int .i64 (compactI xs)[i]) := fun i hi => by
          rw [hus]
          rw [List.getElem?_map, show ∀ l : List Int, l.toArray.toList = l from fun _ => rfl, List.getElem?_append_left hi, List.getElem?_eq_getElem hi]; rfl
        obtain ⟨r1, r2⟩ := ObRel.put (w' := _) (ys := compactI xs) (τ := .int) rfl htk hb hp.own hA hp2 hul (by omega) hcap hmax (fun i hi d hd => by
          have hd' : some (V.s (.int .i64 (compactI xs)[i])) = some d := hd
          cases hd'
          exact ⟨_, hget i hi, .s _ (h1 _ (compactI_sub xs _ (List.getElem_mem hi)))⟩)
        refine ⟨_, rfl, g, ?_, ⟨fun k fz cells hk' => by simp at hk', hp.lbs, fun k o ho => ?_, fun b' o x hx => Nat.lt_of_lt_of_le (hp.own b' o x hx) hp2.size⟩, fun _ _ => rfl, fun b' o x _ hx => ?_, ?_⟩
        · refine FExt.put (fr := ⟨w, g.mine, g.St, 0, g.β⟩) hp2 (fun i hi => ?_) (by omega)
          rw [hul] at hi
          have := (hA.cell i 0 hi (show (0 : Nat) < 1 from Nat.one_pos)).2
          have e : off + i * Un.sz .int + 0 = off + i := by show off + i * 1 + 0 = _; omega
          rw [e] at this
          exact ⟨_, by simp, (this.2 (Nat.zero_le _)).1⟩
        · cases k with
          | zero => simp at ho; subst ho; exact ⟨r1, rfl⟩
          | succ k => simp at ho
        · cases x with
          | st => exact .inr ⟨rfl, hx⟩
          | box k => exact .inl ⟨_, by simp, hx⟩
          | obj k => exact .inl ⟨_, by simp, hx⟩
        · exact ⟨rfl, _, rfl, Nat.le_refl _, fun _ => by rw [htk]⟩
  · simp at h

end Go.Proofs.Ytaepcbdcjbfgjaa.B
