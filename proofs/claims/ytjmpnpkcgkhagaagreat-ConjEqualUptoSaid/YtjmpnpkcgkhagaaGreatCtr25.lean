/- Part 25 of the proof: Sevalp2 Sevals. -/
import Derived.Test.YtjmpnpkcgkhagaaGreatCtr24
namespace Go.Proofs.YtjmpnpkcgkhagaaGreat.B
open Go Go.RowKit
set_option maxRecDepth 100000
noncomputable section
attribute [local irreducible] awp ctxK itersK iterK retQ retGQ awf ctxF loopF
structure Order (n : Nat) (order back : List Int) (row moved : List Val) : Prop where
  hl : order.length = n
  hb : back.length = n
  hr : row.length = n
  hm : moved.length = n
  ho : ∀ i, i < n → 0 ≤ order.getD i 0 ∧ order.getD i 0 < (n : Int)
  hk : ∀ i, i < n → back.getD (order.getD i 0).toNat 0 = (i : Int)
  hv : ∀ i, i < n → moved.getD (order.getD i 0).toNat zeroVal = row.getD i zeroVal
theorem Order.inv {n : Nat} {order back : List Int} {row moved : List Val} (h : Order n order back row moved) (x : Int) : move1 (move1 x order) back = x := by
  unfold move1
  rw [h.hl, h.hb]
  by_cases hx : 0 ≤ x ∧ x < (n : Int)
  · obtain ⟨i, rfl⟩ := Int.eq_ofNat_of_zero_le hx.1
    have hi : i < n := by omega
    rw [if_pos hx, Int.toNat_natCast, if_pos (h.ho i hi), h.hk i hi]
  · rw [if_neg hx, if_neg hx]
theorem moved1_at (c : Term) (d depth : Int) (to : Int → Int) : (moved1 c d depth to).at_ = if IntKind.i64.wrap (c.depth - d) = depth then to c.at_ else c.at_ := by
  unfold moved1
  split
  · simp only [setAt, Term.at__mk]
  · rfl
theorem Order.back {n : Nat} {order back : List Int} {row moved : List Val} (h : Order n order back row moved) (t : Term) : moveA (moveA t 0 order) 0 back = t := by
  unfold moveA
  refine backT (fun c b d hd ha => ?_) t 0
  show (moved1 b d 0 (fun i => move1 i back)).at_ = c.at_
  have ha' : b.at_ = (moved1 c d 0 (fun i => move1 i order)).at_ := ha
  rw [moved1_at] at ha' ⊢
  rw [hd, ha']
  split
  · exact h.inv c.at_
  · rfl
theorem Order.uses {n : Nat} {order back : List Int} {row moved : List Val} (h : Order n order back row moved) {t : Term} (hw : DT t) (hs : t.sz ≤ 2000000) : (usesA (moveA t 0 order) 0).length = (usesA t 0).length := by
  unfold usesA moveA
  have H : InH (fun c d => moved1 c d 0 (fun i => move1 i order)) (fun i => move1 i order) := by
    intro c d _ _ _ hd
    show (moved1 c d 0 (fun i => move1 i order)).at_ = move1 c.at_ order
    have e : IntKind.i64.wrap (c.depth - d) = 0 := by rw [hd, Int.sub_self]; rfl
    rw [moved1_at, if_pos e]
  rw [inMT H t 0 hw (by omega) (by omega)]
  refine rise_map_len (fun x y e => ?_) _
  have e' : move1 x order = move1 y order := e
  rw [← h.inv x, ← h.inv y, e']
theorem colV_one (depth at_ : Int) (row : List Val) : colV depth at_ [row] = if depth = 0 ∧ 0 ≤ at_ ∧ at_ < (row.length : Int) then row.getD at_.toNat zeroVal else zeroVal := by
  unfold colV
  by_cases h : depth = 0
  · subst h
    simp only [List.length_singleton, Int.toNat_zero, List.getD_cons_zero]
    by_cases h2 : 0 ≤ at_ ∧ at_ < (row.length : Int)
    · rw [if_pos ⟨by omega, by omega, h2⟩, if_pos ⟨trivial, h2⟩]
    · rw [if_neg (fun e => h2 e.2.2), if_neg (fun e => h2 e.2)]
  · rw [if_neg (by simp only [List.length_singleton]; omega), if_neg (fun e => h e.1)]
theorem Order.eval {n : Nat} {order back : List Int} {row moved : List Val} (h : Order n order back row moved) (ap : Int → ByteArray → List Val → Val) (t : Term) : evalG ap [moved] (moveA t 0 order) = evalG ap [row] t := by
  unfold moveA
  refine eval_map (fun c _ => ?_) t
  show colV c.depth (moved1 c 0 0 (fun i => move1 i order)).at_ [moved] = _
  rw [moved1_at, colV_one, colV_one, h.hm, h.hr]
  by_cases hd : c.depth = 0
  · have e : IntKind.i64.wrap (c.depth - 0) = 0 := by rw [hd]; rfl
    rw [if_pos e]
    unfold move1
    rw [h.hl]
    by_cases hx : 0 ≤ c.at_ ∧ c.at_ < (n : Int)
    · rw [if_pos hx]
      generalize c.at_ = x at hx
      obtain ⟨i, rfl⟩ := Int.eq_ofNat_of_zero_le hx.1
      have hi : i < n := by omega
      rw [Int.toNat_natCast, if_pos ⟨hd, h.ho i hi⟩, if_pos ⟨hd, hx⟩, h.hv i hi]
    · rw [if_neg hx, if_neg (fun e => hx e.2), if_neg (fun e => hx e.2)]
  · rw [if_neg (fun e => hd e.1), if_neg (fun e => hd e.1)]
section
variable {ap : Int → ByteArray → List Val → Val} {e1 e2 : List (List Val)} {P : Int → Prop}
mutual
theorem eval_mapP {p : Term → Int → Term} (H : ∀ c : Term, c.op = 2 → (c.depth = 0 → P c.at_) → colV c.depth (p c 0).at_ e2 = colV c.depth c.at_ e1) : ∀ t : Term, (∀ x ∈ inT 0 t, P x) → evalG ap e2 (mapT p 0 t) = evalG ap e1 t
  | .mk op v depth at_ name kids sub type, hP => by
    simp only [mapT, evalG]
    by_cases h1 : op = 1
    · rw [if_pos h1, if_pos h1]
    · rw [if_neg h1, if_neg h1]
      by_cases h2 : op = 2
      · have := H (.mk op v depth at_ name kids sub type) h2 (fun hd => hP at_ (by
          have hd' : depth = 0 := hd
          simp only [inT, List.mem_append]; rw [if_pos ⟨h2, hd'⟩]; exact .inl (.inl List.mem_cons_self)))
        rw [if_pos h2, if_pos h2, if_pos h2]; exact this
      · rw [if_neg h2, if_neg h2, evals_mapP H kids (fun x hx => hP x (by simp only [inT, List.mem_append]; exact .inl (.inr hx)))]
theorem evals_mapP {p : Term → Int → Term} (H : ∀ c : Term, c.op = 2 → (c.depth = 0 → P c.at_) → colV c.depth (p c 0).at_ e2 = colV c.depth c.at_ e1) : ∀ l : List Term, (∀ x ∈ inTs 0 l, P x) → evalGs ap e2 (mapTs p 0 l) = evalGs ap e1 l
  | [], _ => rfl
  | t :: l, hP => by
    simp only [mapTs, evalGs]
    rw [eval_mapP H t (fun x hx => hP x (by simp only [inTs, List.mem_append]; exact .inl hx)), evals_mapP H l (fun x hx => hP x (by simp only [inTs, List.mem_append]; exact .inr hx))]
end
mutual
theorem eval_sameP (H : ∀ d x : Int, (d = 0 → P x) → colV d x e2 = colV d x e1) : ∀ t : Term, (∀ x ∈ inT 0 t, P x) → evalG ap e2 t = evalG ap e1 t
  | .mk op v depth at_ name kids sub type, hP => by
    simp only [evalG]
    by_cases h1 : op = 1
    · rw [if_pos h1, if_pos h1]
    · rw [if_neg h1, if_neg h1]
      by_cases h2 : op = 2
      · rw [if_pos h2, if_pos h2]
        exact H depth at_ (fun hd => hP at_ (by simp only [inT, List.mem_append]; rw [if_pos ⟨h2, hd⟩]; exact .inl (.inl List.mem_cons_self)))
      · rw [if_neg h2, if_neg h2, evals_sameP H kids (fun x hx => hP x (by simp only [inT, List.mem_append]; exact .inl (.inr hx)))]
theorem evals_sameP (H : ∀ d x : Int, (d = 0 → P x) → colV d x e2 = colV d x e1) : ∀ l : List Term, (∀ x ∈ inTs 0 l, P x) → evalGs ap e2 l = evalGs ap e1 l
  | [], _ => rfl
  | t :: l, hP => by
    simp only [evalGs]
    rw [eval_sameP H t (fun x hx => hP x (by simp only [inTs, List.mem_append]; exact .inl hx)), evals_sameP H l (fun x hx => hP x (by simp only [inTs, List.mem_append]; exact .inr hx))]
end
end
theorem uses_mem (t : Term) (x : Int) : x ∈ usesA t 0 ↔ x ∈ inT 0 t := by unfold usesA; exact riseI_mem _ _
theorem rises_last {l : List Int} (h : Rises l) (h0 : 0 < l.length) {x : Int} (hx : x ∈ l) : x ≤ l.getD (l.length - 1) 0 := by
  obtain ⟨i, hi, rfl⟩ := List.getElem_of_mem hx
  rw [List.getD_eq_getElem?_getD, List.getElem?_eq_getElem (by omega)]
  show l[i] ≤ l[l.length - 1]
  rcases Nat.lt_or_ge i (l.length - 1) with e | e
  · have := (List.pairwise_iff_getElem.1 h) i (l.length - 1) hi (by omega) e; omega
  · have : i = l.length - 1 := by omega
    subst this; exact Int.le_refl _
theorem rises_first {l : List Int} (h : Rises l) (h0 : 0 < l.length) {x : Int} (hx : x ∈ l) : l.getD 0 0 ≤ x := by
  obtain ⟨i, hi, rfl⟩ := List.getElem_of_mem hx
  rw [List.getD_eq_getElem?_getD, List.getElem?_eq_getElem h0]
  show l[0] ≤ l[i]
  rcases Nat.lt_or_ge 0 i with e | e
  · have := (List.pairwise_iff_getElem.1 h) 0 i h0 hi e; omega
  · have : i = 0 := by omega
    subst this; exact Int.le_refl _
theorem side_below {k : Term} {cut : Int} (h : side1 k cut = -1) : ∀ x ∈ inT 0 k, x < cut := by
  intro x hx
  rw [← uses_mem] at hx
  unfold side1 sideL at h
  have hr : Rises (usesA k 0) := riseI_rises _
  have h0 := List.length_pos_of_mem hx
  have hl := rises_last hr h0 hx
  rw [if_neg (by omega)] at h
  split at h
  · omega
  · split at h <;> omega
theorem side_above {k : Term} {cut : Int} (h : side1 k cut = 1) : ∀ x ∈ inT 0 k, cut ≤ x := by
  intro x hx
  rw [← uses_mem] at hx
  unfold side1 sideL at h
  have hr : Rises (usesA k 0) := riseI_rises _
  have h0 := List.length_pos_of_mem hx
  have hl := rises_first hr h0 hx
  rw [if_neg (by omega)] at h
  split at h
  · omega
  · split at h
    · omega
    · omega
theorem eval_left {ap : Int → ByteArray → List Val → Val} {k : Term} (a b : List Val) (h : ∀ x ∈ inT 0 k, x < (a.length : Int)) : evalG ap [a] k = evalG ap [a ++ b] k := by
  refine eval_sameP (P := fun x => x < (a.length : Int)) (fun d x hx => ?_) k h
  rw [colV_one, colV_one, List.length_append]
  by_cases hd : d = 0
  · have hx' := hx hd
    by_cases h0 : 0 ≤ x
    · rw [if_pos ⟨hd, h0, hx'⟩, if_pos ⟨hd, h0, by omega⟩, List.getD_eq_getElem?_getD, List.getD_eq_getElem?_getD, List.getElem?_append_left (by omega)]
    · rw [if_neg (fun e => h0 e.2.1), if_neg (fun e => h0 e.2.1)]
  · rw [if_neg (fun e => hd e.1), if_neg (fun e => hd e.1)]
theorem down2_at (c : Term) (d cut : Int) : (down2 c d cut).at_ = if c.depth = d then IntKind.i64.wrap (c.at_ - cut) else c.at_ := by
  unfold down2
  split
  · simp only [setAt, Term.at__mk]
  · rfl
theorem eval_right {ap : Int → ByteArray → List Val → Val} {k : Term} (a b : List Val) (hl : a.length + b.length ≤ 50) (h : ∀ x ∈ inT 0 k, (a.length : Int) ≤ x ∧ x < ((a.length + b.length : Nat) : Int)) : evalG ap [b] (lowT (a.length : Int) k) = evalG ap [a ++ b] k := by
  unfold lowT
  refine eval_mapP (P := fun x => (a.length : Int) ≤ x ∧ x < ((a.length + b.length : Nat) : Int)) (fun c _ hc => ?_) k h
  show colV c.depth (down2 c 0 (a.length : Int)).at_ [b] = _
  rw [down2_at, colV_one, colV_one, List.length_append]
  by_cases hd : c.depth = 0
  · obtain ⟨g1, g2⟩ := hc hd
    rw [if_pos hd, wrap_id (by omega), if_pos ⟨hd, by omega, by omega⟩, if_pos ⟨hd, by omega, by omega⟩, List.getD_eq_getElem?_getD, List.getD_eq_getElem?_getD, List.getElem?_append_right (by omega)]
    congr 2
    omega
  · rw [if_neg (fun e => hd e.1), if_neg (fun e => hd e.1)]
theorem low_uses {k : Term} (cut n : Int) (hw : DT k) (hs : k.sz ≤ 2000000) (hc : 0 ≤ cut ∧ cut ≤ 50 ∧ n ≤ 50) (h : ∀ x ∈ inT 0 k, cut ≤ x ∧ x < cut + n) : ∀ x ∈ inT 0 (lowT cut k), 0 ≤ x ∧ x < n := by
  unfold lowT
  have H : InH (fun c d => down2 c d cut) (fun i => IntKind.i64.wrap (i - cut)) := by
    intro c d _ _ _ hd
    show (down2 c d cut).at_ = _
    rw [down2_at, if_pos hd]
  rw [inMT H k 0 hw (by omega) (by omega)]
  intro x hx
  rw [List.mem_map] at hx
  obtain ⟨y, hy, rfl⟩ := hx
  have := h y hy
  show 0 ≤ IntKind.i64.wrap (y - cut) ∧ IntKind.i64.wrap (y - cut) < n
  rw [wrap_id (by omega)]
  omega
theorem within_iff (t : Term) (f u : Int) : withinA t f u = true ↔ ∀ x ∈ inT 0 t, f ≤ x ∧ x < u := by
  unfold withinA
  rw [List.all_eq_true]
  constructor
  · intro h x hx; simpa using h x ((uses_mem t x).2 hx)
  · intro h x hx; simpa using h x ((uses_mem t x).1 hx)
def EqH (ap : Int → ByteArray → List Val → Val) : Prop := (∀ n m x y, ap 11 n [x, y] = ap 11 m [x, y]) ∧ ∀ n x y, ap 11 n [x, y] = ap 11 n [y, x]
theorem pair_equal {ap : Int → ByteArray → List Val → Val} (H : EqH ap) {t : Term} (a b : List Val) (hw : DT t) (hs : t.sz ≤ 2000000) (hl : a.length + b.length ≤ 50)
    (hp : (pairA t (a.length : Int)).2.2 = true) (hin : withinA t 0 ((a.length + b.length : Nat) : Int) = true) :
    ap 11 ⟨#[]⟩ [evalG ap [a] (pairA t (a.length : Int)).1, evalG ap [b] (pairA t (a.length : Int)).2.1] = evalG ap [a ++ b] t ∧ withinA (pairA t (a.length : Int)).1 0 (a.length : Int) = true ∧ withinA (pairA t (a.length : Int)).2.1 0 (b.length : Int) = true := by
  rw [within_iff] at hin
  unfold pairA at hp ⊢
  by_cases h1 : t.op = 11 ∧ t.kids.length = 2 ∧ plainT t = true
  · rw [if_pos h1] at hp ⊢
    obtain ⟨h11, h2, _⟩ := h1
    obtain ⟨k0, k1, hk⟩ : ∃ k0 k1, t.kids = [k0, k1] := by
      match hkk : t.kids, h2 with
      | [a, b], _ => exact ⟨a, b, rfl⟩
    have g0 : t.kids.getD 0 zeroTerm = k0 := by rw [hk]; rfl
    have g1 : t.kids.getD 1 zeroTerm = k1 := by rw [hk]; rfl
    rw [g0, g1] at hp ⊢
    have hsz := t.sz_eq
    rw [hk] at hsz
    simp only [szTs] at hsz
    have hdd : DT k0 ∧ DT k1 := by
      cases t with
      | mk op v depth at_ name kids sub type =>
        have hk' : kids = [k0, k1] := hk
        subst hk'
        exact ⟨hw.2.1.1, hw.2.1.2.1⟩
    have i0 : ∀ x ∈ inT 0 k0, 0 ≤ x ∧ x < ((a.length + b.length : Nat) : Int) := fun x hx => hin x (by
      rw [inT_eq, hk]; simp only [inTs, List.mem_append]; exact .inl (.inr (.inl hx)))
    have i1 : ∀ x ∈ inT 0 k1, 0 ≤ x ∧ x < ((a.length + b.length : Nat) : Int) := fun x hx => hin x (by
      rw [inT_eq, hk]; simp only [inTs, List.mem_append]; exact .inl (.inr (.inr (.inl hx))))
    have ht : evalG ap [a ++ b] t = ap 11 t.name [evalG ap [a ++ b] k0, evalG ap [a ++ b] k1] := by
      rw [evalG_eq, if_neg (by omega), if_neg (by omega), if_neg (by omega), hk, h11]
      simp only [evalGs]
    rw [ht]
    by_cases c1 : side1 k0 (a.length : Int) = 1 ∧ side1 k1 (a.length : Int) = -1
    · rw [if_pos c1] at hp ⊢
      have s0 := side_above c1.1
      have s1 := side_below c1.2
      have j0 : ∀ x ∈ inT 0 k0, (a.length : Int) ≤ x ∧ x < ((a.length + b.length : Nat) : Int) := fun x hx => ⟨s0 x hx, (i0 x hx).2⟩
      refine ⟨?_, ?_, ?_⟩
      · show ap 11 ⟨#[]⟩ [evalG ap [a] k1, evalG ap [b] (lowT (a.length : Int) k0)] = _
        rw [eval_left a b s1, eval_right a b hl j0, H.1 _ t.name, H.2]
      · exact (within_iff _ _ _).2 fun x hx => ⟨(i1 x hx).1, s1 x hx⟩
      · exact (within_iff _ _ _).2 (low_uses _ _ hdd.1 (by omega) ⟨by omega, by omega, by omega⟩ (fun x hx => ⟨(j0 x hx).1, by have := (j0 x hx).2; omega⟩))
    · rw [if_neg c1] at hp ⊢
      by_cases c2 : side1 k0 (a.length : Int) = -1 ∧ side1 k1 (a.length : Int) = 1
      · rw [if_pos c2] at hp ⊢
        have s0 := side_below c2.1
        have s1 := side_above c2.2
        have j1 : ∀ x ∈ inT 0 k1, (a.length : Int) ≤ x ∧ x < ((a.length + b.length : Nat) : Int) := fun x hx => ⟨s1 x hx, (i1 x hx).2⟩
        refine ⟨?_, ?_, ?_⟩
        · show ap 11 ⟨#[]⟩ [evalG ap [a] k0, evalG ap [b] (lowT (a.length : Int) k1)] = _
          rw [eval_left a b s0, eval_right a b hl j1, H.1 _ t.name]
        · exact (within_iff _ _ _).2 fun x hx => ⟨(i0 x hx).1, s0 x hx⟩
        · exact (within_iff _ _ _).2 (low_uses _ _ hdd.2 (by omega) ⟨by omega, by omega, by omega⟩ (fun x hx => ⟨(j1 x hx).1, by have := (j1 x hx).2; omega⟩))
      · rw [if_neg c2] at hp; simp at hp
  · rw [if_neg h1] at hp; simp at hp
end
end Go.Proofs.YtjmpnpkcgkhagaaGreat.B
namespace Go.Proofs.YtjmpnpkcgkhagaaGreat.B
open Go Go.RowKit
set_option maxRecDepth 100000
noncomputable section
attribute [local irreducible] awp ctxK itersK iterK retQ retGQ awf ctxF loopF
mutual
theorem split_str : ∀ t : Term, strT t → ∀ x ∈ splitT t, strT x
  | .mk op v depth at_ name kids sub type, h, x, hx => by
    have hk : strTs kids := by simp only [strT] at h; exact h.2
    simp only [splitT] at hx
    split at hx
    · exact splits_str kids hk x hx
    · rw [List.mem_singleton] at hx; rw [hx]; exact h
theorem splits_str : ∀ l : List Term, strTs l → ∀ x ∈ splitTs l, strT x
  | [], _, x, hx => by simp [splitTs] at hx
  | t :: r, h, x, hx => by
    simp only [strTs] at h
    simp only [splitTs, List.mem_append] at hx
    rcases hx with hx | hx
    · exact split_str t h.1 x hx
    · exact splits_str r h.2 x hx
end
theorem and2_str {a b : Term} (ha : strT a) (hb : strT b) : strT (and2 a b) := by
  unfold and2; simp only [strT, strTs]; exact ⟨Nat.zero_le _, ha, hb, trivial⟩
theorem fold_str : ∀ (r : List Term) (x : Term), strT x → (∀ y ∈ r, strT y) → strT (r.foldl and2 x)
  | [], _, hx, _ => hx
  | y :: r, x, hx, h => fold_str r _ (and2_str hx (h y (by simp))) fun z hz => h z (by simp [hz])
theorem join_str {l : List Term} (h : ∀ y ∈ l, strT y) : strT (joinT l) := by
  cases l with
  | nil => simp only [joinT, strT, strTs]; exact ⟨Nat.zero_le _, trivial⟩
  | cons x r => exact fold_str r x (h x (by simp)) fun y hy => h y (by simp [hy])
theorem fold_sz : ∀ (r : List Term) (x : Term), (r.foldl and2 x).sz = x.sz + szTs r + r.length
  | [], x => by simp [szTs]
  | y :: r, x => by
    rw [List.foldl_cons, fold_sz r]
    have : (and2 x y).sz = x.sz + y.sz + 1 := by unfold and2; simp only [Term.sz, szTs, szRs]; omega
    simp only [szTs, List.length_cons]; omega
theorem join_sz (l : List Term) : (joinT l).sz ≤ szTs l + l.length + 1 := by
  cases l with
  | nil => simp [joinT, Term.sz, szTs, szRs]
  | cons x r => simp only [joinT]; rw [fold_sz]; simp only [szTs, List.length_cons]; omega
mutual
theorem map_str (p : Term → Int → Term) : ∀ (t : Term) (d : Int), strT t → strT (mapT p d t)
  | .mk op v depth at_ name kids sub type, d, h => by
    simp only [strT] at h
    simp only [mapT, strT]
    exact ⟨h.1, maps_str p kids d h.2⟩
theorem maps_str (p : Term → Int → Term) : ∀ (l : List Term) (d : Int), strTs l → strTs (mapTs p d l)
  | [], _, _ => by simp only [mapTs, strTs]
  | t :: r, d, h => by
    simp only [strTs] at h
    simp only [mapTs, strTs]
    exact ⟨map_str p t d h.1, maps_str p r d h.2⟩
end
theorem move_str {t : Term} (depth : Int) (at_ : List Int) (h : strT t) : strT (moveA t depth at_) := map_str _ t 0 h
theorem move_sz (t : Term) (depth : Int) (at_ : List Int) : (moveA t depth at_).sz = t.sz := mapT_sz _ t 0
theorem kidD_str {t : Term} (h : strT t) {i : Nat} (hi : i < t.kids.length) : strT (t.kids.getD i zeroTerm) :=
  strTs_mem.1 ((strT_eq t).1 h).2 _ (by rw [List.getD_eq_getElem?_getD, List.getElem?_eq_getElem hi]; exact List.getElem_mem _)
theorem pair_parts {t : Term} {cut : Int} (h : strT t) (hp : (pairA t cut).2.2 = true) : (strT (pairA t cut).1 ∧ strT (pairA t cut).2.1) ∧ (pairA t cut).1.sz ≤ t.sz ∧ (pairA t cut).2.1.sz ≤ t.sz := by
  unfold pairA at hp ⊢
  by_cases h1 : t.op = 11 ∧ t.kids.length = 2 ∧ plainT t = true
  · rw [if_pos h1] at hp ⊢
    have k0 := kidD_str h (i := 0) (by omega)
    have k1 := kidD_str h (i := 1) (by omega)
    have z0 := sz_kidD (t := t) (i := 0) (by omega)
    have z1 := sz_kidD (t := t) (i := 1) (by omega)
    by_cases c1 : side1 (t.kids.getD 0 zeroTerm) cut = 1 ∧ side1 (t.kids.getD 1 zeroTerm) cut = -1
    · rw [if_pos c1] at hp ⊢
      exact ⟨⟨k1, map_str _ _ _ k0⟩, z1, by show (lowT cut _).sz ≤ _; unfold lowT; rw [mapT_sz]; exact z0⟩
    · rw [if_neg c1] at hp ⊢
      by_cases c2 : side1 (t.kids.getD 0 zeroTerm) cut = -1 ∧ side1 (t.kids.getD 1 zeroTerm) cut = 1
      · rw [if_pos c2] at hp ⊢
        exact ⟨⟨k0, map_str _ _ _ k1⟩, z0, by show (lowT cut _).sz ≤ _; unfold lowT; rw [mapT_sz]; exact z1⟩
      · rw [if_neg c2] at hp; simp at hp
  · rw [if_neg h1] at hp; simp at hp
theorem triFrom_V (v : Val) : tri_From v = fromV v := by
  unfold tri_From tri_Of fromV
  by_cases h : v.kind = 1
  · by_cases h2 : v.n = 0 <;> simp [h, h2]
  · simp [h]
theorem triAnd_I (a b : Int) : tri_And a b = andI a b := by
  unfold tri_And andI
  rw [tri_one_N, tri_one_N]
  simp only [List.foldl_cons, List.foldl_nil]
  unfold triN
  split <;> omega
theorem from_tri {a : Int} (h : a = 0 ∨ a = 1 ∨ a = 2) : fromV (tri_Value a) = a := by
  rcases h with rfl | rfl | rfl <;> decide
theorem andI_range (a b : Int) : andI a b = 0 ∨ andI a b = 1 ∨ andI a b = 2 := by
  unfold andI
  repeat' split
  all_goals omega
theorem and_ap : AndH scalar_Apply := by
  intro name a b
  have hc : cntN 17 = (2, false) := rfl
  have e : scalar_Apply 17 name [a, b] = scalar_both tri_And a b := by
    unfold scalar_Apply
    rw [hc, if_neg (by simp)]
    rfl
  rw [e]
  unfold scalar_both
  rw [triAnd_I, triFrom_V, triFrom_V, from_tri (andI_range _ _)]
theorem cmp_sym (a b : Val) : (cmpV a b).2 = (cmpV b a).2 ∧ ((cmpV a b).1 = 0 ↔ (cmpV b a).1 = 0) := by
  have hS : ∀ x y : ByteArray, cmpS x y = 0 ↔ cmpS y x = 0 := fun x y => by rw [cmpS_zero, cmpS_zero]; exact eq_comm
  have hI : ∀ x y : Int, cmpI x y = 0 ↔ cmpI y x = 0 := fun x y => by rw [cmpI_zero, cmpI_zero]; exact eq_comm
  unfold cmpV
  by_cases h : a.kind = b.kind
  · rw [if_pos h, if_pos h.symm, ← h]
    by_cases h3 : a.kind = 3
    · rw [if_pos h3, if_pos h3]; exact ⟨rfl, hS _ _⟩
    · rw [if_neg h3, if_neg h3]
      by_cases h4 : a.kind = 1 ∨ a.kind = 2
      · rw [if_pos h4, if_pos h4]; exact ⟨rfl, hI _ _⟩
      · rw [if_neg h4, if_neg h4]; exact ⟨rfl, Iff.rfl⟩
  · rw [if_neg h, if_neg (fun e => h e.symm)]; exact ⟨rfl, Iff.rfl⟩
theorem eq_ap : EqH scalar_Apply := by
  have hc : cntN 11 = (2, false) := rfl
  have e : ∀ n x y, scalar_Apply 11 n [x, y] = cmpO 11 x y := fun n x y => by
    unfold scalar_Apply
    rw [hc, if_neg (by simp)]
    rfl
  refine ⟨fun n m x y => by rw [e, e], fun n x y => ?_⟩
  rw [e, e]
  obtain ⟨h1, h2⟩ := cmp_sym x y
  unfold cmpO
  rw [h1]
  split
  · unfold soB
    rw [if_pos rfl, if_pos rfl]
    congr 1
    exact decide_eq_decide.2 h2
  · rfl
theorem truth_G (t : Term) (env : List (List Val)) : scalar_Truth t env = truthG scalar_Apply env t := triFrom_V _
theorem tri_All_G (l : List Int) : tri_All l = l.foldl andI 2 := by
  unfold tri_All
  congr 1
  funext a b
  exact triAnd_I a b
end
end Go.Proofs.YtjmpnpkcgkhagaaGreat.B
