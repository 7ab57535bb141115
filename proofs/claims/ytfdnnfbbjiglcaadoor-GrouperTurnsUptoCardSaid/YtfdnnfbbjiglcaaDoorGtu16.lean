/- Part 16 of the proof: Saggspec Lsorted. -/
import Derived.Test.YtfdnnfbbjiglcaaDoorGtu15
namespace Go.Proofs.YtfdnnfbbjiglcaaDoor.B
open Go Go.RowKit
set_option maxRecDepth 100000
noncomputable section
attribute [local irreducible] awp ctxK itersK iterK retQ retGQ awf ctxF loopF
def nmCount : ByteArray := ⟨#[99, 111, 117, 110, 116]⟩
def nmSum : ByteArray := ⟨#[115, 117, 109]⟩
def nmMin : ByteArray := ⟨#[109, 105, 110]⟩
def nmMax : ByteArray := ⟨#[109, 97, 120]⟩
def nmRows : ByteArray := ⟨#[114, 111, 119, 115]⟩
def nmNone : ByteArray := ⟨#[]⟩
def numV (n : Int) : Val := ⟨2, n, ⟨#[]⟩⟩
open Classical in
def cntV (nm : ByteArray) (v : Val) : Bool := decide (v.kind ≠ 0) && rightV v && (decide (nm ≠ nmSum) || decide (v.kind = 2))
open Classical in
def addU (acc : List Val) (v : Val) : List Val := if v ∈ acc then acc else acc ++ [v]
def sumZ (c : List Val) : Int := (c.map (·.n)).sum
def minFrom (b : Val) (c : List Val) : Val := c.foldl (fun b v => if ordV v b < 0 then v else b) b
def maxFrom (b : Val) (c : List Val) : Val := c.foldl (fun b v => if ordV v b > 0 then v else b) b
def totV (n : Int) : Val := if inN n then numV n else zeroVal
open Classical in
def tellV (nm : ByteArray) (c : List Val) : Val :=
  if nm = nmCount ∨ nm = nmRows then numV c.length
  else if c = [] then zeroVal
  else if nm = nmSum then totV (sumZ c)
  else if nm = nmMin then minFrom (c.headD zeroVal) c
  else if nm = nmMax then maxFrom (c.headD zeroVal) c
  else zeroVal
theorem cmpI_anti (a b : Int) : cmpI b a = - cmpI a b := by unfold cmpI; split <;> split <;> (try split) <;> omega
theorem cmpL_anti : ∀ a b : List UInt8, cmpL b a = - cmpL a b
  | [], [] => rfl
  | [], _ :: _ => rfl
  | _ :: _, [] => rfl
  | a :: l, b :: r => by
    simp only [cmpL]
    by_cases h : a = b
    · subst h; simp only [if_true]; exact cmpL_anti l r
    · rw [if_neg h, if_neg (Ne.symm h)]; exact cmpI_anti _ _
theorem ordV_anti (a b : Val) : ordV b a = - ordV a b := by
  unfold ordV
  by_cases h : a.kind = b.kind
  · rw [if_pos h, if_pos h.symm]
    by_cases h2 : a.n = b.n
    · rw [if_pos h2, if_pos h2.symm]; exact cmpL_anti _ _
    · rw [if_neg h2, if_neg (Ne.symm h2)]; exact cmpI_anti _ _
  · rw [if_neg h, if_neg (Ne.symm h)]; exact cmpI_anti _ _
theorem cmpI_neg {a b : Int} : cmpI a b < 0 ↔ a < b := by unfold cmpI; split <;> (try split) <;> omega
theorem cmpL_trans : ∀ {a b c : List UInt8}, cmpL a b < 0 → cmpL b c < 0 → cmpL a c < 0
  | [], [], _, h, _ => by simp [cmpL] at h
  | [], _ :: _, [], _, h => by simp [cmpL] at h
  | [], _ :: _, _ :: _, _, _ => by simp [cmpL]
  | _ :: _, [], _, h, _ => by simp [cmpL] at h
  | _ :: _, _ :: _, [], _, h => by simp [cmpL] at h
  | a :: l, b :: r, c :: t, h1, h2 => by
    simp only [cmpL] at h1 h2 ⊢
    by_cases e1 : a = b
    · subst e1
      by_cases e2 : a = c
      · subst e2; simp only [if_true] at h1 h2 ⊢; exact cmpL_trans h1 h2
      · rw [if_neg e2] at h2 ⊢; exact h2
    · rw [if_neg e1] at h1
      by_cases e2 : b = c
      · subst e2; rw [if_neg e1]; exact h1
      · rw [if_neg e2] at h2
        rw [cmpI_neg] at h1 h2
        have : a ≠ c := by rintro rfl; omega
        rw [if_neg this, cmpI_neg]; omega
theorem ordV_trans {a b c : Val} (h1 : ordV a b < 0) (h2 : ordV b c < 0) : ordV a c < 0 := by
  unfold ordV at h1 h2 ⊢
  by_cases k1 : a.kind = b.kind
  · rw [if_pos k1] at h1
    by_cases k2 : b.kind = c.kind
    · rw [if_pos k2] at h2
      rw [if_pos (k1.trans k2)]
      by_cases n1 : a.n = b.n
      · rw [if_pos n1] at h1
        by_cases n2 : b.n = c.n
        · rw [if_pos n2] at h2; rw [if_pos (n1.trans n2)]; exact cmpL_trans h1 h2
        · rw [if_neg n2] at h2; rw [if_neg (by rw [n1]; exact n2), n1]; exact h2
      · rw [if_neg n1, cmpI_neg] at h1
        by_cases n2 : b.n = c.n
        · rw [if_neg (by rw [← n2]; exact n1), ← n2, cmpI_neg]; exact h1
        · rw [if_neg n2, cmpI_neg] at h2; rw [if_neg (by omega), cmpI_neg]; omega
    · rw [if_neg k2] at h2; rw [if_neg (by rw [k1]; exact k2), k1]; exact h2
  · rw [if_neg k1, cmpI_neg] at h1
    by_cases k2 : b.kind = c.kind
    · rw [if_neg (by rw [← k2]; exact k1), ← k2, cmpI_neg]; exact h1
    · rw [if_neg k2, cmpI_neg] at h2; rw [if_neg (by omega), cmpI_neg]; omega
theorem ordV_self (a : Val) : ordV a a = 0 := ordV_zero.2 rfl
def leV (a b : Val) : Prop := ordV a b ≤ 0
theorem leV_refl (a : Val) : leV a a := by unfold leV; rw [ordV_self]; omega
theorem leV_anti {a b : Val} (h1 : leV a b) (h2 : leV b a) : a = b := by
  unfold leV at h1 h2; rw [ordV_anti a b] at h2; exact ordV_zero.1 (by omega)
theorem leV_trans {a b c : Val} (h1 : leV a b) (h2 : leV b c) : leV a c := by
  unfold leV at *
  by_cases e1 : ordV a b = 0
  · rw [ordV_zero] at e1; subst e1; exact h2
  · by_cases e2 : ordV b c = 0
    · rw [ordV_zero] at e2; subst e2; exact h1
    · have := ordV_trans (a := a) (b := b) (c := c) (by omega) (by omega); omega
theorem minFrom_spec : ∀ (c : List Val) (b : Val), (minFrom b c = b ∨ minFrom b c ∈ c) ∧ leV (minFrom b c) b ∧ ∀ v ∈ c, leV (minFrom b c) v
  | [], b => ⟨.inl rfl, leV_refl b, by simp⟩
  | v :: c, b => by
    have ih := minFrom_spec c (if ordV v b < 0 then v else b)
    have e : minFrom b (v :: c) = minFrom (if ordV v b < 0 then v else b) c := rfl
    rw [e]
    by_cases h : ordV v b < 0
    · rw [if_pos h] at ih ⊢
      have hvb : leV v b := by unfold leV; omega
      refine ⟨.inr ?_, leV_trans ih.2.1 hvb, fun x hx => ?_⟩
      · rcases ih.1 with h1 | h1
        · rw [h1]; simp
        · exact List.mem_cons_of_mem _ h1
      · rcases List.mem_cons.1 hx with rfl | hx
        · exact ih.2.1
        · exact ih.2.2 x hx
    · rw [if_neg h] at ih ⊢
      have hbv : leV b v := by unfold leV; rw [ordV_anti v b]; omega
      refine ⟨?_, ih.2.1, fun x hx => ?_⟩
      · rcases ih.1 with h1 | h1
        · exact .inl h1
        · exact .inr (List.mem_cons_of_mem _ h1)
      · rcases List.mem_cons.1 hx with rfl | hx
        · exact leV_trans ih.2.1 hbv
        · exact ih.2.2 x hx
theorem maxFrom_spec : ∀ (c : List Val) (b : Val), (maxFrom b c = b ∨ maxFrom b c ∈ c) ∧ leV b (maxFrom b c) ∧ ∀ v ∈ c, leV v (maxFrom b c)
  | [], b => ⟨.inl rfl, leV_refl b, by simp⟩
  | v :: c, b => by
    have ih := maxFrom_spec c (if ordV v b > 0 then v else b)
    have e : maxFrom b (v :: c) = maxFrom (if ordV v b > 0 then v else b) c := rfl
    rw [e]
    by_cases h : ordV v b > 0
    · rw [if_pos h] at ih ⊢
      have hvb : leV b v := by unfold leV; rw [ordV_anti v b]; omega
      refine ⟨.inr ?_, leV_trans hvb ih.2.1, fun x hx => ?_⟩
      · rcases ih.1 with h1 | h1
        · rw [h1]; simp
        · exact List.mem_cons_of_mem _ h1
      · rcases List.mem_cons.1 hx with rfl | hx
        · exact ih.2.1
        · exact ih.2.2 x hx
    · rw [if_neg h] at ih ⊢
      have hbv : leV v b := by unfold leV; omega
      refine ⟨?_, ih.2.1, fun x hx => ?_⟩
      · rcases ih.1 with h1 | h1
        · exact .inl h1
        · exact .inr (List.mem_cons_of_mem _ h1)
      · rcases List.mem_cons.1 hx with rfl | hx
        · exact leV_trans hbv ih.2.1
        · exact ih.2.2 x hx
def IsMin (m : Val) (c : List Val) : Prop := m ∈ c ∧ ∀ v ∈ c, leV m v
def IsMax (m : Val) (c : List Val) : Prop := m ∈ c ∧ ∀ v ∈ c, leV v m
theorem IsMin.uniq {m m' : Val} {c c' : List Val} (h : IsMin m c) (h' : IsMin m' c') (hp : ∀ v, v ∈ c ↔ v ∈ c') : m = m' := leV_anti (h.2 _ ((hp _).2 h'.1)) (h'.2 _ ((hp _).1 h.1))
theorem IsMax.uniq {m m' : Val} {c c' : List Val} (h : IsMax m c) (h' : IsMax m' c') (hp : ∀ v, v ∈ c ↔ v ∈ c') : m = m' := leV_anti (h'.2 _ ((hp _).1 h.1)) (h.2 _ ((hp _).2 h'.1))
theorem isMin_from {c : List Val} (hc : c ≠ []) : IsMin (minFrom (c.headD zeroVal) c) c := by
  cases c with
  | nil => exact (hc rfl).elim
  | cons v c =>
    have h := minFrom_spec (v :: c) v
    refine ⟨?_, h.2.2⟩
    rcases h.1 with h1 | h1
    · simp only [List.headD_cons]; rw [h1]; simp
    · exact h1
theorem isMax_from {c : List Val} (hc : c ≠ []) : IsMax (maxFrom (c.headD zeroVal) c) c := by
  cases c with
  | nil => exact (hc rfl).elim
  | cons v c =>
    have h := maxFrom_spec (v :: c) v
    refine ⟨?_, h.2.2⟩
    rcases h.1 with h1 | h1
    · simp only [List.headD_cons]; rw [h1]; simp
    · exact h1
theorem sumZ_perm {c c' : List Val} (h : c.Perm c') : sumZ c = sumZ c' := by
  unfold sumZ
  induction h with
  | nil => rfl
  | cons x _ ih => simp only [List.map_cons, List.sum_cons, ih]
  | swap x y l => simp only [List.map_cons, List.sum_cons]; omega
  | trans _ _ h1 h2 => exact h1.trans h2
theorem sumZ_append (a b : List Val) : sumZ (a ++ b) = sumZ a + sumZ b := by unfold sumZ; rw [List.map_append, List.sum_append]
theorem tellV_perm {nm : ByteArray} {c c' : List Val} (h : c.Perm c') : tellV nm c = tellV nm c' := by
  unfold tellV
  rw [h.length_eq, sumZ_perm h]
  have hn : c = [] ↔ c' = [] := by rw [← List.length_eq_zero_iff, ← List.length_eq_zero_iff, h.length_eq]
  by_cases hc : c = []
  · have hc' := hn.1 hc; subst hc; subst hc'; rfl
  · have hc' : c' ≠ [] := fun e => hc (hn.2 e)
    rw [if_neg hc, if_neg hc', (isMin_from hc).uniq (isMin_from hc') (fun v => h.mem_iff), (isMax_from hc).uniq (isMax_from hc') (fun v => h.mem_iff)]
def bigM : Int := 1000000000000000
open Classical in
def countsA (nm : ByteArray) (v : Val) : Bool := decide (nm = nmRows) || cntV nm v
open Classical in
def takenA (x : Acc) (v : Val) : Acc :=
  if x.name = nmSum then ⟨x.name, x.distinct, x.n + 1, x.hi + (x.lo + v.n).tdiv bigM, (x.lo + v.n).tmod bigM, x.v, x.l⟩
  else if x.name = nmMin then ⟨x.name, x.distinct, x.n + 1, x.hi, x.lo, if x.n + 1 = 1 ∨ ordV v x.v < 0 then v else x.v, x.l⟩
  else if x.name = nmMax then ⟨x.name, x.distinct, x.n + 1, x.hi, x.lo, if x.n + 1 = 1 ∨ ordV v x.v > 0 then v else x.v, x.l⟩
  else ⟨x.name, x.distinct, x.n + 1, x.hi, x.lo, x.v, x.l⟩
def posV (l : List Val) (v : Val) : Nat := (l.takeWhile fun x => ordV x v < 0).length
open Classical in
def insV (l : List Val) (v : Val) : List Val := if v ∈ l then l else l.take (posV l v) ++ v :: l.drop (posV l v)
def stepA (x : Acc) (v : Val) : Acc :=
  if countsA x.name v = true then (if x.distinct = true then ⟨x.name, x.distinct, x.n, x.hi, x.lo, x.v, insV x.l v⟩ else takenA x v) else x
open Classical in
def mergeA (x y : Acc) : Acc :=
  let x := y.l.foldl stepA x
  ⟨x.name, x.distinct, x.n + y.n, x.hi + y.hi + (x.lo + y.lo).tdiv bigM, (x.lo + y.lo).tmod bigM,
    if x.n = 0 ∨ y.n > 0 ∧ (x.name = nmMin ∧ ordV y.v x.v < 0 ∨ x.name = nmMax ∧ ordV y.v x.v > 0) then y.v else x.v, x.l⟩
def totalA (x : Acc) : Val := if x.n = 0 ∨ x.hi < -1 ∨ x.hi > 1 then zeroVal else if inN (x.hi * bigM + x.lo) then numV (x.hi * bigM + x.lo) else zeroVal
open Classical in
def endA (x : Acc) : Val :=
  if x.name = nmCount ∨ x.name = nmRows then numV x.n else if x.name = nmSum then totalA x else if x.name = nmMin ∨ x.name = nmMax then x.v else zeroVal
def valueA (x : Acc) : Val := endA (x.l.foldl takenA x)
def Core (nm : ByteArray) (c : List Val) (x : Acc) : Prop :=
  x.name = nm ∧ x.n = c.length ∧ (nm = nmSum → x.hi * bigM + x.lo = sumZ c ∧ -bigM < x.lo ∧ x.lo < bigM) ∧ (nm ≠ nmSum → x.hi = 0 ∧ x.lo = 0) ∧
  (nm = nmMin → if c = [] then x.v = zeroVal else IsMin x.v c) ∧ (nm = nmMax → if c = [] then x.v = zeroVal else IsMax x.v c) ∧ (nm ≠ nmMin → nm ≠ nmMax → x.v = zeroVal)
def Rep (nm : ByteArray) (d : Bool) (c : List Val) (x : Acc) : Prop :=
  x.distinct = d ∧ (d = false → Core nm c x ∧ x.l = []) ∧ (d = true → Core nm [] x ∧ x.l.Pairwise (fun a b => ordV a b < 0) ∧ ∀ v, v ∈ x.l ↔ v ∈ c)
theorem rightV_int {v : Val} (h : rightV v = true) (hk : v.kind = 2) : -bigM ≤ v.n ∧ v.n ≤ bigM := by
  unfold rightV at h
  rw [hk] at h
  simp [inN] at h
  unfold bigM; omega
theorem cntV_sum {v : Val} (h : cntV nmSum v = true) : -bigM ≤ v.n ∧ v.n ≤ bigM := by
  unfold cntV at h
  simp only [Bool.and_eq_true, Bool.or_eq_true, decide_eq_true_eq, ne_eq, not_true_eq_false, false_or] at h
  exact rightV_int h.1.2 h.2
theorem nm_ne : nmCount ≠ nmSum ∧ nmCount ≠ nmMin ∧ nmCount ≠ nmMax ∧ nmCount ≠ nmRows ∧ nmSum ≠ nmMin ∧ nmSum ≠ nmMax ∧ nmSum ≠ nmRows ∧ nmMin ≠ nmMax ∧ nmMin ≠ nmRows ∧ nmMax ≠ nmRows ∧ nmNone ≠ nmCount ∧ nmNone ≠ nmSum ∧ nmNone ≠ nmMin ∧ nmNone ≠ nmMax ∧ nmNone ≠ nmRows := by
  simp [nmCount, nmSum, nmMin, nmMax, nmRows, nmNone]
theorem div_mod_big {n : Int} : n.tdiv bigM * bigM + n.tmod bigM = n := by rw [Int.mul_comm]; exact Int.mul_tdiv_add_tmod n bigM
theorem tmod_big (n : Int) : -bigM < n.tmod bigM ∧ n.tmod bigM < bigM := by
  have hb : (0 : Int) < bigM := by decide
  refine ⟨?_, Int.tmod_lt_of_pos n hb⟩
  have := Int.tmod_lt_of_pos (-n) hb
  rw [Int.neg_tmod] at this; omega
theorem Core.taken {nm : ByteArray} {c : List Val} {x : Acc} (h : Core nm c x) {v : Val} (hv : nm = nmSum → -bigM ≤ v.n ∧ v.n ≤ bigM) : Core nm (c ++ [v]) (takenA x v) := by
  obtain ⟨n1, n2, n3, n4, n5, n6, n7, n8, n9, n10, n11⟩ := nm_ne
  obtain ⟨h1, h2, h3, h4, h5, h6, h7⟩ := h
  have hlen : x.n + 1 = ((c ++ [v]).length : Int) := by rw [h2]; simp
  have hne : c ++ [v] ≠ [] := by simp
  unfold takenA
  by_cases hs : x.name = nmSum
  · rw [if_pos hs]
    have hs' : nm = nmSum := h1.symm.trans hs
    obtain ⟨a1, a2, a3⟩ := h3 hs'
    have hv' := hv hs'
    have hd := div_mod_big (n := x.lo + v.n)
    have hm := tmod_big (x.lo + v.n)
    refine ⟨h1, hlen, fun _ => ⟨?_, hm.1, hm.2⟩, fun e => (e hs').elim, fun e => ?_, fun e => ?_, fun e1 e2 => h7 e1 e2⟩
    · rw [sumZ_append, ← a1]
      have : sumZ [v] = v.n := by simp [sumZ]
      rw [this]
      show (x.hi + (x.lo + v.n).tdiv bigM) * bigM + (x.lo + v.n).tmod bigM = _
      rw [Int.add_mul]; omega
    · rw [hs'] at e; exact (n5 e).elim
    · rw [hs'] at e; exact (n6 e).elim
  · rw [if_neg hs]
    have hs' : nm ≠ nmSum := fun e => hs (h1.trans e)
    by_cases hm : x.name = nmMin
    · rw [if_pos hm]
      have hm' : nm = nmMin := h1.symm.trans hm
      refine ⟨h1, hlen, fun e => (hs' e).elim, fun _ => h4 hs', fun _ => ?_, fun e => by rw [hm'] at e; exact (n8 e).elim, fun e => (e hm').elim⟩
      rw [if_neg hne]
      have h5' := h5 hm'
      show IsMin (if x.n + 1 = 1 ∨ ordV v x.v < 0 then v else x.v) (c ++ [v])
      by_cases hc : c = []
      · subst hc
        rw [if_pos (.inl (by rw [h2]; rfl))]
        exact ⟨by simp, by simp [leV_refl]⟩
      · rw [if_neg hc] at h5'
        have hl : (0 : Int) < c.length := by have := List.length_pos_iff.2 hc; omega
        by_cases ho : ordV v x.v < 0
        · rw [if_pos (.inr ho)]
          refine ⟨by simp, fun u hu => ?_⟩
          rcases List.mem_append.1 hu with hu | hu
          · exact leV_trans (by unfold leV; omega) (h5'.2 u hu)
          · simp at hu; subst hu; exact leV_refl _
        · rw [if_neg (by rintro (e | e); · omega
                         · exact ho e)]
          refine ⟨List.mem_append_left _ h5'.1, fun u hu => ?_⟩
          rcases List.mem_append.1 hu with hu | hu
          · exact h5'.2 u hu
          · simp at hu; subst hu; unfold leV; rw [ordV_anti u x.v]; omega
    · rw [if_neg hm]
      have hm' : nm ≠ nmMin := fun e => hm (h1.trans e)
      by_cases hx : x.name = nmMax
      · rw [if_pos hx]
        have hx' : nm = nmMax := h1.symm.trans hx
        refine ⟨h1, hlen, fun e => (hs' e).elim, fun _ => h4 hs', fun e => (hm' e).elim, fun _ => ?_, fun _ e => (e hx').elim⟩
        rw [if_neg hne]
        have h6' := h6 hx'
        show IsMax (if x.n + 1 = 1 ∨ ordV v x.v > 0 then v else x.v) (c ++ [v])
        by_cases hc : c = []
        · subst hc
          rw [if_pos (.inl (by rw [h2]; rfl))]
          exact ⟨by simp, by simp [leV_refl]⟩
        · rw [if_neg hc] at h6'
          have hl : (0 : Int) < c.length := by have := List.length_pos_iff.2 hc; omega
          by_cases ho : ordV v x.v > 0
          · rw [if_pos (.inr ho)]
            refine ⟨by simp, fun u hu => ?_⟩
            rcases List.mem_append.1 hu with hu | hu
            · exact leV_trans (h6'.2 u hu) (by unfold leV; rw [ordV_anti v x.v]; omega)
            · simp at hu; subst hu; exact leV_refl _
          · rw [if_neg (by rintro (e | e); · omega
                           · exact ho e)]
            refine ⟨List.mem_append_left _ h6'.1, fun u hu => ?_⟩
            rcases List.mem_append.1 hu with hu | hu
            · exact h6'.2 u hu
            · simp at hu; subst hu; unfold leV; omega
      · rw [if_neg hx]
        have hx' : nm ≠ nmMax := fun e => hx (h1.trans e)
        exact ⟨h1, hlen, fun e => (hs' e).elim, fun _ => h4 hs', fun e => (hm' e).elim, fun e => (hx' e).elim, fun _ _ => h7 hm' hx'⟩
theorem taken_keeps (x : Acc) (v : Val) : (takenA x v).l = x.l ∧ (takenA x v).distinct = x.distinct ∧ (takenA x v).name = x.name := by
  unfold takenA; repeat' split
  all_goals exact ⟨rfl, rfl, rfl⟩
theorem Core.folded {nm : ByteArray} : ∀ (l : List Val) {c : List Val} {x : Acc}, Core nm c x → (nm = nmSum → ∀ v ∈ l, -bigM ≤ v.n ∧ v.n ≤ bigM) → Core nm (c ++ l) (l.foldl takenA x)
  | [], c, x, h, _ => by simpa using h
  | v :: l, c, x, h, hv => by
    have h1 := h.taken (v := v) (fun e => hv e v (by simp))
    have := Core.folded l h1 (fun e u hu => hv e u (by simp [hu]))
    simpa using this
theorem Core.end_ {nm : ByteArray} {c : List Val} {x : Acc} (h : Core nm c x) : endA x = tellV nm c := by
  obtain ⟨n1, n2, n3, n4, n5, n6, n7, n8, n9, n10, n11⟩ := nm_ne
  obtain ⟨h1, h2, h3, h4, h5, h6, h7⟩ := h
  unfold endA tellV
  rw [h1]
  by_cases hc : nm = nmCount ∨ nm = nmRows
  · rw [if_pos hc, if_pos hc, h2]
  · rw [if_neg hc, if_neg hc]
    by_cases hs : nm = nmSum
    · rw [if_pos hs]
      obtain ⟨a1, a2, a3⟩ := h3 hs
      unfold totalA totV
      by_cases he : c = []
      · rw [if_pos he, if_pos (.inl (by rw [h2, he]; rfl))]
      · rw [if_neg he, if_pos hs]
        have hl : (0 : Int) < c.length := by have := List.length_pos_iff.2 he; omega
        rw [a1]
        by_cases hb : x.hi < -1 ∨ x.hi > 1
        · rw [if_pos (.inr hb)]
          have : inN (sumZ c) = false := by
            unfold inN; rw [decide_eq_false_iff_not]
            have hbm : bigM = 1000000000000000 := rfl
            rw [hbm] at a1 a2 a3
            rcases hb with hb | hb <;> omega
          rw [this]; rfl
        · rw [if_neg (by rintro (e | e); · omega
                         · exact hb e)]
    · rw [if_neg hs]
      by_cases hm : nm = nmMin
      · rw [if_pos (.inl hm)]
        have h5' := h5 hm
        by_cases he : c = []
        · rw [if_pos he] at h5' ⊢; exact h5'
        · rw [if_neg he] at h5' ⊢
          rw [if_neg hs, if_pos hm]
          exact h5'.uniq (isMin_from he) (fun _ => Iff.rfl)
      · by_cases hx : nm = nmMax
        · rw [if_pos (.inr hx)]
          have h6' := h6 hx
          by_cases he : c = []
          · rw [if_pos he] at h6' ⊢; exact h6'
          · rw [if_neg he] at h6' ⊢
            rw [if_neg hs, if_neg hm, if_pos hx]
            exact h6'.uniq (isMax_from he) (fun _ => Iff.rfl)
        · rw [if_neg (by rintro (e | e); exact hm e; exact hx e)]
          by_cases he : c = []
          · rw [if_pos he]
          · rw [if_neg he, if_neg hs, if_neg hm, if_neg hx]
theorem sorted_nodup {l : List Val} (h : l.Pairwise fun a b => ordV a b < 0) : l.Nodup := h.imp fun {a b} hab e => by subst e; rw [ordV_self] at hab; omega
theorem insV_mem (l : List Val) (v u : Val) : u ∈ insV l v ↔ u ∈ l ∨ u = v := by
  unfold insV
  split
  · rename_i h; constructor
    · exact .inl
    · rintro (h1 | rfl); exact h1; exact h
  · rw [List.mem_append, List.mem_cons]
    have : u ∈ l ↔ u ∈ l.take (posV l v) ∨ u ∈ l.drop (posV l v) := by rw [← List.mem_append, List.take_append_drop]
    rw [this]
    constructor
    · rintro (h | h | h); exact .inl (.inl h); exact .inr h; exact .inl (.inr h)
    · rintro ((h | h) | h); exact .inl h; exact .inr (.inr h); exact .inr (.inl h)
theorem takeWhile_all {p : Val → Bool} : ∀ (l : List Val), ∀ u ∈ l.takeWhile p, p u = true
  | [], u, h => by simp at h
  | a :: l, u, h => by
    rw [List.takeWhile_cons] at h
    split at h
    · rename_i hp
      rcases List.mem_cons.1 h with rfl | h
      · exact hp
      · exact takeWhile_all l u h
    · simp at h
theorem dropWhile_head {p : Val → Bool} : ∀ (l : List Val) {y : Val} {r : List Val}, l.dropWhile p = y :: r → p y = false
  | [], y, r, h => by simp at h
  | a :: l, y, r, h => by
    rw [List.dropWhile_cons] at h
    split at h
    · exact dropWhile_head l h
    · rename_i hp
      simp at h
      rw [← h.1]; simpa using hp
theorem posV_below {l : List Val} {v : Val} : ∀ u ∈ l.take (posV l v), ordV u v < 0 := by
  intro u hu
  have e : l.take (posV l v) = l.takeWhile fun x => ordV x v < 0 := by
    unfold posV
    conv => lhs; arg 2; rw [← List.takeWhile_append_dropWhile (p := fun x => decide (ordV x v < 0)) (l := l)]
    rw [List.take_left]
  rw [e] at hu
  have := takeWhile_all l u hu
  simpa using this
theorem posV_above {l : List Val} (h : l.Pairwise fun a b => ordV a b < 0) {v : Val} : ∀ u ∈ l.drop (posV l v), ¬ ordV u v < 0 := by
  have e : l.drop (posV l v) = l.dropWhile fun x => ordV x v < 0 := by
    unfold posV
    conv => lhs; arg 2; rw [← List.takeWhile_append_dropWhile (p := fun x => decide (ordV x v < 0)) (l := l)]
    rw [List.drop_left]
  rw [e]
  intro u hu hlt
  have hp : (l.dropWhile fun x => ordV x v < 0).Pairwise fun a b => ordV a b < 0 := h.sublist (List.dropWhile_sublist _)
  cases hd : l.dropWhile fun x => ordV x v < 0 with
  | nil => rw [hd] at hu; simp at hu
  | cons y r =>
    have hy : ¬ ordV y v < 0 := by
      have := dropWhile_head l hd
      simpa using this
    rw [hd] at hu hp
    rcases List.mem_cons.1 hu with rfl | hu
    · exact hy hlt
    · have := (List.pairwise_cons.1 hp).1 u hu
      exact hy (ordV_trans this hlt)
theorem insV_sorted {l : List Val} (h : l.Pairwise fun a b => ordV a b < 0) (v : Val) : (insV l v).Pairwise fun a b => ordV a b < 0 := by
  unfold insV
  split
  · exact h
  · rename_i hn
    have hs : ∀ u ∈ l.drop (posV l v), ordV v u < 0 := fun u hu => by
      have h1 := posV_above h u hu
      have h2 : ordV u v ≠ 0 := fun e => hn (by rw [ordV_zero] at e; subst e; exact List.mem_of_mem_drop hu)
      rw [ordV_anti u v]; omega
    rw [List.pairwise_append]
    refine ⟨h.sublist (List.take_sublist _ _), List.pairwise_cons.2 ⟨hs, h.sublist (List.drop_sublist _ _)⟩, fun a ha b hb => ?_⟩
    rcases List.mem_cons.1 hb with rfl | hb
    · exact posV_below a ha
    · exact ordV_trans (posV_below a ha) (hs b hb)
open Classical in
theorem addU_mem (c : List Val) (acc : List Val) (u : Val) : u ∈ c.foldl addU acc ↔ u ∈ acc ∨ u ∈ c := by
  induction c generalizing acc with
  | nil => simp
  | cons v c ih =>
    rw [List.foldl_cons, ih]
    have : u ∈ addU acc v ↔ u ∈ acc ∨ u = v := by
      unfold addU
      split
      · rename_i h; constructor
        · exact .inl
        · rintro (h1 | rfl); exact h1; exact h
      · simp
    rw [this]; simp only [List.mem_cons]
    constructor
    · rintro ((h | h) | h); exact .inl h; exact .inr (.inl h); exact .inr (.inr h)
    · rintro (h | h | h); exact .inl (.inl h); exact .inl (.inr h); exact .inr h
theorem addU_nodup (c : List Val) : ∀ {acc : List Val}, acc.Nodup → (c.foldl addU acc).Nodup := by
  induction c with
  | nil => intro acc h; exact h
  | cons v c ih =>
    intro acc h
    rw [List.foldl_cons]
    refine ih ?_
    unfold addU
    split
    · exact h
    · rename_i hn
      rw [List.nodup_append]
      exact ⟨h, by simp, fun a ha b hb e => by simp at hb; subst hb; subst e; exact hn ha⟩
def dedupV (c : List Val) : List Val := c.foldl addU []
theorem dedupV_mem (c : List Val) (u : Val) : u ∈ dedupV c ↔ u ∈ c := by unfold dedupV; rw [addU_mem]; simp
theorem dedupV_nodup (c : List Val) : (dedupV c).Nodup := addU_nodup c List.nodup_nil
theorem perm_same {a b : List Val} (ha : a.Nodup) (hb : b.Nodup) (h : ∀ v, v ∈ a ↔ v ∈ b) : a.Perm b := (List.perm_ext_iff_of_nodup ha hb).2 h
theorem sumZ_bound {c : List Val} (h : ∀ v ∈ c, -bigM ≤ v.n ∧ v.n ≤ bigM) : -((c.length : Int) * bigM) ≤ sumZ c ∧ sumZ c ≤ c.length * bigM := by
  induction c with
  | nil => simp [sumZ]
  | cons v c ih =>
    have h1 := ih fun u hu => h u (by simp [hu])
    have h2 := h v (by simp)
    have e : sumZ (v :: c) = v.n + sumZ c := by simp [sumZ]
    rw [e]
    simp only [List.length_cons, Int.natCast_add, Int.add_mul]
    omega
theorem Core.hi {nm : ByteArray} {c : List Val} {x : Acc} (h : Core nm c x) (hb : nm = nmSum → ∀ v ∈ c, -bigM ≤ v.n ∧ v.n ≤ bigM) : -(c.length : Int) ≤ x.hi ∧ x.hi ≤ c.length := by
  by_cases hs : nm = nmSum
  · obtain ⟨a1, a2, a3⟩ := h.2.2.1 hs
    have := sumZ_bound (hb hs)
    unfold bigM at *
    omega
  · have := (h.2.2.2.1 hs).1; omega
theorem Core.lo {nm : ByteArray} {c : List Val} {x : Acc} (h : Core nm c x) : -bigM < x.lo ∧ x.lo < bigM := by
  by_cases hs : nm = nmSum
  · exact (h.2.2.1 hs).2
  · have := (h.2.2.2.1 hs).2; unfold bigM; omega
theorem Core.merge {nm : ByteArray} {c c' : List Val} {x y : Acc} (h : Core nm c x) (h' : Core nm c' y) : Core nm (c ++ c')
    ⟨x.name, x.distinct, x.n + y.n, x.hi + y.hi + (x.lo + y.lo).tdiv bigM, (x.lo + y.lo).tmod bigM,
    if x.n = 0 ∨ y.n > 0 ∧ (x.name = nmMin ∧ ordV y.v x.v < 0 ∨ x.name = nmMax ∧ ordV y.v x.v > 0) then y.v else x.v, x.l⟩ := by
  obtain ⟨n1, n2, n3, n4, n5, n6, n7, n8, n9, n10, n11⟩ := nm_ne
  obtain ⟨h1, h2, h3, h4, h5, h6, h7⟩ := h
  obtain ⟨k1, k2, k3, k4, k5, k6, k7⟩ := h'
  refine ⟨h1, ?_, fun hs => ?_, fun hs => ?_, fun hm => ?_, fun hm => ?_, fun e1 e2 => ?_⟩
  · show x.n + y.n = _; rw [h2, k2]; simp
  · obtain ⟨a1, a2, a3⟩ := h3 hs
    obtain ⟨b1, b2, b3⟩ := k3 hs
    have hm := tmod_big (x.lo + y.lo)
    have hd := div_mod_big (n := x.lo + y.lo)
    refine ⟨?_, hm.1, hm.2⟩
    rw [sumZ_append, ← a1, ← b1]
    show (x.hi + y.hi + (x.lo + y.lo).tdiv bigM) * bigM + (x.lo + y.lo).tmod bigM = _
    rw [Int.add_mul, Int.add_mul]; omega
  · have a := h4 hs; have b := k4 hs
    show x.hi + y.hi + (x.lo + y.lo).tdiv bigM = 0 ∧ (x.lo + y.lo).tmod bigM = 0
    rw [a.1, a.2, b.1, b.2]; decide
  · have a := h5 hm; have b := k5 hm
    show if c ++ c' = [] then (if x.n = 0 ∨ _ then y.v else x.v) = zeroVal else IsMin (if x.n = 0 ∨ _ then y.v else x.v) (c ++ c')
    by_cases hc : c = []
    · subst hc
      have e0 : ∀ q : Prop, [Decidable (x.n = 0 ∨ q)] → (if x.n = 0 ∨ q then y.v else x.v) = y.v := fun q _ => if_pos (.inl (by rw [h2]; rfl))
      rw [e0, List.nil_append]; exact b
    · rw [if_neg hc] at a
      rw [if_neg (by simp [hc])]
      have hl : (0 : Int) < c.length := by have := List.length_pos_iff.2 hc; omega
      by_cases hc' : c' = []
      · subst hc'
        rw [if_neg (by rintro (e | e); · omega
                       · have := e.1; rw [k2] at this; simp at this), List.append_nil]
        exact a
      · rw [if_neg hc'] at b
        have hl' : (0 : Int) < c'.length := by have := List.length_pos_iff.2 hc'; omega
        by_cases ho : ordV y.v x.v < 0
        · rw [if_pos (.inr ⟨by omega, .inl ⟨h1.trans hm, ho⟩⟩)]
          refine ⟨List.mem_append_right _ b.1, fun u hu => ?_⟩
          rcases List.mem_append.1 hu with hu | hu
          · exact leV_trans (by unfold leV; omega) (a.2 u hu)
          · exact b.2 u hu
        · rw [if_neg]
          · refine ⟨List.mem_append_left _ a.1, fun u hu => ?_⟩
            rcases List.mem_append.1 hu with hu | hu
            · exact a.2 u hu
            · exact leV_trans (by unfold leV; rw [ordV_anti y.v x.v]; omega) (b.2 u hu)
          · rintro (e | ⟨_, e | e⟩)
            · omega
            · exact ho e.2
            · rw [h1, hm] at e; exact n8 e.1
  · have a := h6 hm; have b := k6 hm
    show if c ++ c' = [] then (if x.n = 0 ∨ _ then y.v else x.v) = zeroVal else IsMax (if x.n = 0 ∨ _ then y.v else x.v) (c ++ c')
    by_cases hc : c = []
    · subst hc
      have e0 : ∀ q : Prop, [Decidable (x.n = 0 ∨ q)] → (if x.n = 0 ∨ q then y.v else x.v) = y.v := fun q _ => if_pos (.inl (by rw [h2]; rfl))
      rw [e0, List.nil_append]; exact b
    · rw [if_neg hc] at a
      rw [if_neg (by simp [hc])]
      have hl : (0 : Int) < c.length := by have := List.length_pos_iff.2 hc; omega
      by_cases hc' : c' = []
      · subst hc'
        rw [if_neg (by rintro (e | e); · omega
                       · have := e.1; rw [k2] at this; simp at this), List.append_nil]
        exact a
      · rw [if_neg hc'] at b
        have hl' : (0 : Int) < c'.length := by have := List.length_pos_iff.2 hc'; omega
        by_cases ho : ordV y.v x.v > 0
        · rw [if_pos (.inr ⟨by omega, .inr ⟨h1.trans hm, ho⟩⟩)]
          refine ⟨List.mem_append_right _ b.1, fun u hu => ?_⟩
          rcases List.mem_append.1 hu with hu | hu
          · exact leV_trans (a.2 u hu) (by unfold leV; rw [ordV_anti y.v x.v]; omega)
          · exact b.2 u hu
        · rw [if_neg]
          · refine ⟨List.mem_append_left _ a.1, fun u hu => ?_⟩
            rcases List.mem_append.1 hu with hu | hu
            · exact a.2 u hu
            · exact leV_trans (b.2 u hu) (by unfold leV; omega)
          · rintro (e | ⟨_, e | e⟩)
            · omega
            · rw [h1, hm] at e; exact n8 e.1.symm
            · exact ho e.2
  · have a := h7 e1 e2; have b := k7 e1 e2
    show (if _ then y.v else x.v) = zeroVal
    rw [a, b]; simp
theorem counts_sum {nm : ByteArray} {v : Val} (h : countsA nm v = true) (hs : nm = nmSum) : -bigM ≤ v.n ∧ v.n ≤ bigM := by
  subst hs
  unfold countsA at h
  simp only [Bool.or_eq_true, decide_eq_true_eq] at h
  rcases h with h | h
  · exact (nm_ne.2.2.2.2.2.2.1 h).elim
  · exact cntV_sum h
theorem Rep.name {nm : ByteArray} {d : Bool} {c : List Val} {x : Acc} (h : Rep nm d c x) : x.name = nm := by
  cases d with
  | true => exact (h.2.2 rfl).1.1
  | false => exact (h.2.1 rfl).1.1
theorem Rep.step {nm : ByteArray} {d : Bool} {c : List Val} {x : Acc} (h : Rep nm d c x) (v : Val) : Rep nm d (c ++ [v].filter (countsA nm)) (stepA x v) := by
  unfold stepA
  rw [h.name]
  by_cases hc : countsA nm v = true
  · rw [if_pos hc]
    have hf : [v].filter (countsA nm) = [v] := by simp [hc]
    rw [hf]
    cases d with
    | true =>
      obtain ⟨h1, h2, h3⟩ := h.2.2 rfl
      rw [if_pos h.1]
      refine ⟨h.1, fun e => by simp at e, fun _ => ⟨?_, insV_sorted h2 v, fun u => ?_⟩⟩
      · obtain ⟨i1, i2, i3, i4, i5, i6, i7⟩ := h1
        exact ⟨rfl, i2, i3, i4, i5, i6, i7⟩
      · rw [insV_mem, h3, List.mem_append]; simp
    | false =>
      obtain ⟨h1, h2⟩ := h.2.1 rfl
      rw [if_neg (by rw [h.1]; simp)]
      have hk := taken_keeps x v
      exact ⟨hk.2.1.trans h.1, fun _ => ⟨h1.taken (counts_sum hc), hk.1.trans h2⟩, fun e => by simp at e⟩
  · rw [if_neg hc]
    have hf : [v].filter (countsA nm) = [] := by simp [hc]
    rw [hf, List.append_nil]; exact h
theorem Rep.steps {nm : ByteArray} {d : Bool} : ∀ (l : List Val) {c : List Val} {x : Acc}, Rep nm d c x → Rep nm d (c ++ l.filter (countsA nm)) (l.foldl stepA x)
  | [], c, x, h => by simpa using h
  | v :: l, c, x, h => by
    have := Rep.steps l (h.step v)
    rw [List.append_assoc, ← List.filter_append] at this
    exact this
theorem Rep.merge {nm : ByteArray} {d : Bool} {c c' : List Val} {x y : Acc} (h : Rep nm d c x) (h' : Rep nm d c' y) (hc : ∀ v ∈ c', countsA nm v = true) : Rep nm d (c ++ c') (mergeA x y) := by
  cases d with
  | false =>
    obtain ⟨h1, h2⟩ := h.2.1 rfl
    obtain ⟨k1, k2⟩ := h'.2.1 rfl
    unfold mergeA
    rw [k2]
    exact ⟨h.1, fun _ => ⟨h1.merge k1, h2⟩, fun e => by simp at e⟩
  | true =>
    obtain ⟨k1, k2, k3⟩ := h'.2.2 rfl
    have hs := Rep.steps y.l h
    have hf : y.l.filter (countsA nm) = y.l := List.filter_eq_self.2 fun v hv => hc v ((k3 v).1 hv)
    rw [hf] at hs
    obtain ⟨i1, i2, i3⟩ := hs.2.2 rfl
    unfold mergeA
    refine ⟨hs.1, fun e => by simp at e, fun _ => ⟨i1.merge k1, i2, fun v => ?_⟩⟩
    show v ∈ (y.l.foldl stepA x).l ↔ _
    rw [i3, List.mem_append, List.mem_append, k3]
theorem Rep.value {nm : ByteArray} {d : Bool} {c : List Val} {x : Acc} (h : Rep nm d c x) (hc : ∀ v ∈ c, countsA nm v = true) : valueA x = tellV nm (if d = true then dedupV c else c) := by
  unfold valueA
  cases d with
  | false =>
    obtain ⟨h1, h2⟩ := h.2.1 rfl
    rw [h2, if_neg (by simp)]; exact h1.end_
  | true =>
    obtain ⟨h1, h2, h3⟩ := h.2.2 rfl
    rw [if_pos rfl]
    have h4 := Core.folded x.l h1 (fun e v hv => counts_sum (hc v ((h3 v).1 hv)) e)
    rw [List.nil_append] at h4
    rw [h4.end_]
    exact tellV_perm (perm_same (sorted_nodup h2) (dedupV_nodup c) fun v => by rw [h3, dedupV_mem])
end
end Go.Proofs.YtfdnnfbbjiglcaaDoor.B
namespace Go.Proofs.YtfdnnfbbjiglcaaDoor.B
open Go Go.RowKit Go.Shelf
set_option maxRecDepth 1000000
set_option linter.unusedVariables false
noncomputable section
set_option maxHeartbeats 4000000 in
theorem sortedClo_walk (keys : List (List Val)) (B1 b off cap g1 n1 k1 g2 n2 k2 h1 h2 : Nat) (kv : Nat → Value) (z : Int) (W : World) (c0 : W.cell? ⟨B1, 0, none⟩ = some (.slice (some ⟨b, off, none⟩) keys.length cap)) (hcap : keys.length ≤ cap)
    (e1 : W.cell? ⟨g1, 0, none⟩ = some (.int .i64 h1)) (e2 : W.cell? ⟨g2, 0, none⟩ = some (.int .i64 h2)) (l1 : h1 < keys.length) (l2 : h2 < keys.length) (m1 : n1 + 1 ≤ k1) (m2 : n2 + 1 ≤ k2)
    (d1 : W.cell? ⟨b, off + h1, none⟩ = some (kv h1)) (d2 : W.cell? ⟨b, off + h2, none⟩ = some (kv h2)) (hO : Calls Tryd.prog 15 #[kv h1, kv h2] W.drew fun e w' => e = .returned (.int .i64 z) ∧ Gr W.drew w') :
    Calls Tryd.prog 21 #[.slice (some ⟨g1, 0, none⟩) (n1 + 1) k1, .slice (some ⟨g2, 0, none⟩) (n2 + 1) k2, .pointer (some ⟨B1, 0, none⟩)] W fun e w' => e = .returned (.int .i64 z) ∧ Gr W w' := by
  have mixed : Tryd.prog.follows .mixedOrders = true := by kernel_rfl
  have x0 : (0 : Int) ≤ (h1 : Int) := by omega
  have x1 : (h1 : Int) < (keys.length : Int) := by omega
  have x2 : (0 : Int) ≤ (h2 : Int) := by omega
  have x3 : (h2 : Int) < (keys.length : Int) := by omega
  go_enter Tryd.func21, Tryd.ntmps21
  go_wp2
  go_region_held3 (fun w' => w'.cell? ⟨B1, 0, none⟩ = some (.slice (some ⟨b, off, none⟩) keys.length cap) ∧ w'.cell? ⟨g1, 0, none⟩ = some (.int .i64 h1) ∧ w'.cell? ⟨g2, 0, none⟩ = some (.int .i64 h2) ∧ w'.cell? ⟨b, off + h1, none⟩ = some (kv h1) ∧ w'.cell? ⟨b, off + h2, none⟩ = some (kv h2)) (first | go_keep | (refine ⟨hx.ext.keeps ?_, hx.ext.keeps ?_, hx.ext.keeps ?_, hx.ext.keeps ?_, hx.ext.keeps ?_⟩ <;> simp [*]; done))
    (first | (go_at_call 15; refine hO.mono ?_; rintro e W1 ⟨rfl, hx⟩))
  go_wp2
  go_ret
  exact ⟨rfl, ((Gr.refl W).drew).trans hx⟩
def hkG (keys : List (List Val)) (g : List Int) : List Val := keyAt keys (g.headD 0)
def leG (keys : List (List Val)) (a b : List Int) : Bool := !decide (ordR (hkG keys b) (hkG keys a) < 0)
def g_Sorted (keys : List (List Val)) : List (List Int) := (r33_Groups keys).mergeSort (leG keys)
theorem ordR_anti : ∀ a b : List Val, ordR b a = - ordR a b
  | [], [] => rfl
  | [], _ :: _ => rfl
  | _ :: _, [] => rfl
  | a :: l, b :: r => by
    simp only [ordR]
    have h := ordV_anti a b
    by_cases e : ordV a b = 0
    · rw [if_pos e, if_pos (by omega)]; exact ordR_anti l r
    · rw [if_neg e, if_neg (by omega)]; exact h
theorem ordR_trans : ∀ {a b c : List Val}, ordR a b < 0 → ordR b c < 0 → ordR a c < 0
  | [], [], _, h, _ => by simp [ordR] at h
  | [], _ :: _, [], _, h => by simp [ordR] at h
  | [], _ :: _, _ :: _, _, _ => by simp [ordR]
  | _ :: _, [], _, h, _ => by simp [ordR] at h
  | _ :: _, _ :: _, [], _, h => by simp [ordR] at h
  | a :: l, b :: r, c :: t, h1, h2 => by
    simp only [ordR] at h1 h2 ⊢
    by_cases e1 : ordV a b = 0
    · rw [if_pos e1] at h1
      rw [ordV_zero] at e1; subst e1
      by_cases e2 : ordV a c = 0
      · rw [if_pos e2] at h2 ⊢; exact ordR_trans h1 h2
      · rw [if_neg e2] at h2 ⊢; exact h2
    · rw [if_neg e1] at h1
      by_cases e2 : ordV b c = 0
      · rw [ordV_zero] at e2; subst e2
        rw [if_neg e1]; exact h1
      · rw [if_neg e2] at h2
        have := ordV_trans h1 h2
        rw [if_neg (by omega)]; exact this
theorem ordR_swo : Sort.SWO (fun a b : List Val => decide (ordR a b < 0)) where
  irrefl := fun a => by rw [ordR_zero.2 rfl]; rfl
  trans := fun a b c h1 h2 => by rw [decide_eq_true_eq] at *; exact ordR_trans h1 h2
  ntrans := fun a b c h1 h2 => by
    rw [decide_eq_false_iff_not] at *
    intro h
    by_cases e : ordR a b = 0
    · rw [ordR_zero] at e; subst e; exact h2 h
    · have h3 := ordR_anti a b
      have := ordR_trans (show ordR b a < 0 by omega) h
      exact h2 this
theorem sort_calls (keys : List (List Val)) (B1 b off cap : Nat) (kv : Nat → Value) (w W : World) {g cp : Nat} {cs : List Value} {out : List (List Int)} (hout : out = r33_Groups keys) (hkl : keys.length ≤ 2000000)
    (hx : w.heap.size ≤ B1 ∧ B1 < W.heap.size) (hn : Nest W (B1 + 2) 30 3 1 0 1 (.slice (some ⟨g, 0, none⟩) out.length cp) cs (out.map cellsI)) (hpos : 0 < out.length)
    (c0 : W.cell? ⟨B1, 0, none⟩ = some (.slice (some ⟨b, off, none⟩) keys.length cap)) (hcap : keys.length ≤ cap) (hb : b < w.heap.size) (hcell : ∀ i, i < keys.length → W.cell? ⟨b, off + i, none⟩ = some (kv i))
    (hO : ∀ (i j : Nat) (W' : World), W.heap.size ≤ W'.heap.size → (∀ k, k < w.heap.size → W'.heap[k]? = W.heap[k]?) → i < keys.length → j < keys.length → Calls Tryd.prog 15 #[kv i, kv j] W' fun e w' => e = .returned (.int .i64 (ordR (keys.getD i []) (keys.getD j []))) ∧ Gr W' w') :
    Calls Tryd.prog 20 #[.slice (some ⟨g, 0, none⟩) out.length cp, .func (.func 21) #[] #[.pointer (some ⟨B1, 0, none⟩)]] W fun e w' => e = .returned (.tuple #[]) ∧ ∃ ps : List Nat, (∀ p ∈ ps, p < out.length) ∧ (ps.map fun p => out.getD p []) = g_Sorted keys ∧ ps.length = out.length ∧ PutR W w' g 0 (ps.map fun p => cs.getD p undef) := by
  obtain ⟨m, hm⟩ : ∃ m, out.length = m + 1 := ⟨out.length - 1, by omega⟩
  have hGI := gRun_ok (keyAt keys) keys.length
  have hGI' : GI (keyAt keys) keys.length out := by rw [hout]; exact hGI
  let enc : Fin (m + 1) → Value := fun j => cs.getD j.1 undef
  let cf : Fin (m + 1) → Fin (m + 1) → Int := fun x y => ordR (hkG keys (out.getD x.1 [])) (hkG keys (out.getD y.1 []))
  have hat : ∀ x : Fin (m + 1), ∃ u gx nx kx hx : Nat, enc x = .slice (some ⟨gx, 0, none⟩) (nx + 1) kx ∧ nx + 1 ≤ kx ∧ W.cell? ⟨gx, 0, none⟩ = some (.int .i64 (hx : Int)) ∧ hx < keys.length ∧ gx ≠ g ∧ gx < W.heap.size ∧ W.cell? ⟨g, 0 + x.1, none⟩ = some (enc x) ∧ W.frozen? ⟨g, 0 + x.1, none⟩ = false ∧ keys.getD hx [] = hkG keys (out.getD x.1 []) := fun x => by
    have hxl : x.1 < out.length := by have := x.2; omega
    have hne := hGI'.ne x.1 hxl
    obtain ⟨u, n1, n2, n3, n4, n5, n6, n7, n8⟩ := nest_at hn x.1 hxl
    have hpos2 := List.length_pos_iff.2 hne
    obtain ⟨gx, kx, hu, hgx1, hgx2⟩ := n4.form hpos2
    obtain ⟨h1, h2, _⟩ := hGI'.mem x.1 ((out.getD x.1 []).headD 0) (by
      cases hc : out.getD x.1 [] with
      | nil => exact (hne hc).elim
      | cons p r => exact List.mem_cons_self)
    have he : enc x = u := by show cs.getD x.1 undef = u; rw [List.getD_eq_getElem?_getD, n1]; rfl
    have n4' := n4
    subst hu
    have hcr : (out.getD x.1 []).length ≤ kx := by
      obtain ⟨_, ⟨h0, _⟩ | ⟨g2, cap2, cur, hv, _, _, hc, _⟩⟩ := n4'
      · simp at h0
      · simp only [Value.slice.injEq] at hv; obtain ⟨_, _, rfl⟩ := hv; exact hc
    refine ⟨0, gx, (out.getD x.1 []).length - 1, kx, ((out.getD x.1 []).headD 0).toNat, ?_, ?_, ?_, ?_, ?_, hgx2, ?_, ?_, ?_⟩
    · rw [he]; congr 1; omega
    · omega
    · rw [n4.cellAt 0 (by omega)]
      cases hc : out.getD x.1 [] with
      | nil => exact (hne hc).elim
      | cons p r =>
        rw [hc] at h1 h2
        simp only [List.headD_cons] at h1 h2
        simp only [List.map_cons, List.getElem?_cons_zero, List.headD_cons]
        rw [Int.toNat_of_nonneg h1]
    · omega
    · rcases n5 with e | e
      · simp [Value.ownBlock] at e
      · exact fun e2 => e (by rw [← e2]; rfl)
    · rw [he, Nat.zero_add]; exact n2
    · rw [Nat.zero_add]; exact n3
    · unfold hkG keyAt; rfl
  let d : Array (Fin (m + 1)) := (List.finRange (m + 1)).toArray
  have hds : d.size = m + 1 := by simp [d]
  have hol : out.length ≤ keys.length := by rw [hout]; exact gRun_len _ _
  have hdj : ∀ j (hj : j < m + 1), d[j]! = ⟨j, hj⟩ := fun j hj => by
    rw [getElem!_pos d j (by omega)]
    simp [d]
  have hgW : g < W.heap.size := by
    obtain ⟨_, _, _, _, _, _, _, _, _, _, _, h, _⟩ := hat ⟨0, by omega⟩
    have := (hn.outer.lt g rfl).2
    exact this
  have hH : Go.Sort.Holds enc W g 0 d := fun j hj => by
    rw [hds] at hj
    obtain ⟨_, _, _, _, _, _, _, _, _, _, _, h1, h2, _⟩ := hat ⟨j, hj⟩
    rw [hdj j hj]
    exact ⟨h1, h2⟩
  have hgB : B1 ≠ g := by have := (hn.outer.lt g rfl).1; omega
  have hbg : b ≠ g := by have := (hn.outer.lt g rfl).1; omega
  have hcmp : CmpLays1 Tryd.prog 21 #[.pointer (some ⟨B1, 0, none⟩)] enc cf g 0 d.size W := fun q os dk hs x y => by
    obtain ⟨_, gx, nx, kx, hx', ex, mx, cx, lx, nex, ltx, _, _, kx'⟩ := hat x
    obtain ⟨_, gy, ny, ky, hy', ey, my, cy, ly, ney, lty, _, _, ky'⟩ := hat y
    have hp := putR_of (n := q) (os := os) hgW hH hs
    have hp' : PutR W (sortWorld enc W g 0 q dk os) g 0 (dk.toList.map enc) := hp
    have oth : ∀ p : Addr, p.block < W.heap.size → p.block ≠ g → (sortWorld enc W g 0 q dk os).cell? p = W.cell? p := fun p h1 h2 => hp'.other p h1 (.inr (.inr h2))
    have hc := sortedClo_walk keys B1 b off cap gx nx kx gy ny ky hx' hy' kv (cf x y) (sortWorld enc W g 0 q dk os) (by rw [oth _ hx.2 hgB]; exact c0) hcap (by rw [oth _ ltx nex]; exact cx) (by rw [oth _ lty ney]; exact cy) lx ly mx my
      (by rw [oth _ (by show b < _; omega) hbg]; exact hcell _ lx) (by rw [oth _ (by show b < _; omega) hbg]; exact hcell _ ly)
      (by
        have := hO hx' hy' (sortWorld enc W g 0 q dk os).drew hp'.size (fun k hk => hp'.block k (by omega) (by have := (hn.outer.lt g rfl).1; omega)) lx ly
        rw [kx', ky'] at this
        exact this)
    show Calls Tryd.prog _ (#[enc x, enc y] ++ #[Value.pointer (some ⟨B1, 0, none⟩)]) _ _
    rw [ex, ey]
    exact hc
  have hswo : Sort.SWO (ltOf cf) := ⟨fun x => ordR_swo.irrefl _, fun x y z h1 h2 => ordR_swo.trans _ _ _ h1 h2, fun x y z h1 h2 => ordR_swo.ntrans _ _ _ h1 h2⟩
  have hT : ∀ x y : Fin (m + 1), ltOf cf x y = false → ltOf cf y x = false → x = y := fun x y h1 h2 => by
    have a1 : ¬ cf x y < 0 := by simpa [ltOf] using h1
    have a2 : ¬ cf y x < 0 := by simpa [ltOf] using h2
    have a3 : cf y x = - cf x y := ordR_anti _ _
    have a4 : hkG keys (out.getD x.1 []) = hkG keys (out.getD y.1 []) := ordR_zero.1 (show cf x y = 0 by omega)
    exact Fin.ext (hGI'.dis x.1 y.1 (by have := x.2; omega) (by have := y.2; omega) a4)
  have h1c : OneCell enc := fun x => by obtain ⟨_, gx, nx, kx, hx', ex, _⟩ := hat x; rw [ex]; rfl
  have hS := Any.slices_SortFunc_total lays_sort_ints enc h1c cf hswo 21 #[.pointer (some ⟨B1, 0, none⟩)] g 0 cp d W (enters_of Tryd.func21 (by kernel_rfl) rfl) hcmp hH hgW (by rw [hds]; omega) hT
  rw [hds] at hS
  rw [hm]
  refine hS.mono ?_
  rintro e w' ⟨rfl, n, os, rfl⟩
  refine ⟨rfl, ((d.toList.mergeSort fun x y => !(ltOf cf) y x).map Fin.val), fun p hp => ?_, ?_, ?_, ?_⟩
  · obtain ⟨x, _, rfl⟩ := List.mem_map.1 hp; have := x.2; omega
  · rw [List.map_map]
    have hmm := List.map_mergeSort (r := fun x y : Fin (m + 1) => !(ltOf cf) y x) (s := leG keys) (f := fun x : Fin (m + 1) => out.getD x.1 []) (l := d.toList) (fun a _ b _ => rfl)
    show List.map (fun x : Fin (m + 1) => out.getD x.1 []) _ = _
    rw [hmm]
    unfold g_Sorted
    rw [← hout]
    congr 1
    apply List.ext_getElem?
    intro j
    simp only [d, List.getElem?_map]
    by_cases hj : j < m + 1
    · rw [List.getElem?_eq_getElem (by simpa using hj), List.getElem?_eq_getElem (show j < out.length by omega)]
      simp [List.getD_eq_getElem?_getD, List.getElem?_eq_getElem (show j < out.length by omega)]
    · rw [List.getElem?_eq_none (by simpa using hj), List.getElem?_eq_none (by omega)]; rfl
  · rw [List.length_map, List.length_mergeSort]; simp [d]
  · have hp := putR_of (n := n) (os := os) (d := (d.toList.mergeSort fun x y => !(ltOf cf) y x).toArray) hgW hH (by simp [d, List.length_mergeSort])
    have e : (d.toList.mergeSort fun x y => !(ltOf cf) y x).toArray.toList.map enc = ((d.toList.mergeSort fun x y => !(ltOf cf) y x).map Fin.val).map fun p => cs.getD p undef := by rw [List.map_map]; rfl
    rw [e] at hp
    exact hp
set_option maxHeartbeats 4000000 in
theorem sorted_walk (St : Nat → Nat → Prop) (keys : List (List Val)) (a : Option Addr) (b off cap : Nat) (kv : Nat → Value) (w : World) (hbd : ∀ b o, St b o → b < w.heap.size) (hld : Laid w) (hlen : keys.length ≤ 2000000) (hok : keysOK keys) (ha : keys ≠ [] → a = some ⟨b, off, none⟩ ∧ keys.length ≤ cap)
    (hcell : ∀ i, i < keys.length → St b (off + i) ∧ w.cell? ⟨b, off + i, none⟩ = some (kv i) ∧ VRel En St w (kv i) (.dat (U := Un) Ty.val (keys.getD i []))) :
    Calls Tryd.prog 10 #[.slice a keys.length cap] w fun e w' => ∃ v, e = .returned v ∧ Ext w w' ∧ VRel En (StN St w w' .nilFunc) w' v (.dat (U := Un) Ty.ints (g_Sorted keys)) := by
  let W0 : World := w.alloc (.cells #[.slice a keys.length cap] 22)
  have hx0 : Ext w W0 := (Ext.refl w).alloc _
  have hsz0 : W0.heap.size = w.heap.size + 1 := by simp [W0]
  have hc0 : W0.cell? ⟨w.heap.size, 0, none⟩ = some (.slice a keys.length cap) := cell_last (W := w) rfl _ _ _ _ rfl
  have hG : Calls Tryd.prog 8 #[.slice a keys.length cap] W0 fun e w' => ∃ (g : Option Addr) (cp : Nat) (cs : List Value), e = .returned (.slice g (r33_Groups keys).length cp) ∧ Ext W0 w' ∧ Nest w' (w.heap.size + 2) 30 3 1 0 1 (.slice g (r33_Groups keys).length cp) cs ((r33_Groups keys).map cellsI) := by
    refine (groups_walk keys a b off cap kv W0 hlen hok ha (fun i W hx hi => ?_) (fun i hi => hx0.keeps (hcell i hi).2.1)).mono ?_
    · have hm : keys.getD i [] ∈ keys := by rw [List.getD_eq_getElem?_getD, List.getElem?_eq_getElem hi]; exact List.getElem_mem _
      exact keyOf_calls ((hcell i hi).2.2.mono (ext_keep (hx0.trans hx) hbd)) (hok _ hm).1 (hok _ hm).2 (hld.ext (hx0.trans hx))
    · rintro e w' ⟨v, cs, rfl, hx, hN⟩
      have hN' : Nest w' (w.heap.size + 2) 30 3 1 0 1 v cs ((r33_Groups keys).map cellsI) := by rw [hsz0] at hN; exact hN
      obtain ⟨g, cp, rfl⟩ : ∃ g cp, v = .slice g (r33_Groups keys).length cp := by
        obtain ⟨_, ⟨rfl, h0⟩ | ⟨g, cp, cur, rfl, _⟩⟩ := hN'.outer
        · rw [List.length_map] at h0; exact ⟨none, 0, by rw [h0]⟩
        · exact ⟨_, _, by rw [List.length_map]⟩
      exact ⟨g, cp, cs, rfl, hx, hN'⟩
  have hS : ∀ (W : World) (g : Option Addr) (cp : Nat) (cs : List Value), Ext W0 W → Nest W (w.heap.size + 2) 30 3 1 0 1 (.slice g (r33_Groups keys).length cp) cs ((r33_Groups keys).map cellsI) →
      Calls Tryd.prog 20 #[.slice g (r33_Groups keys).length cp, .func (.func 21) #[] #[.pointer (some ⟨w.heap.size, 0, none⟩)]] W fun e w' => e = .returned (.tuple #[]) ∧ Ext w w' ∧ VRel En (StN St w w' .nilFunc) w' (.slice g (r33_Groups keys).length cp) (.dat (U := Un) Ty.ints (g_Sorted keys)) := fun W g cp cs hx hn => by
    have hgl := gRun_len (keyAt keys) keys.length
    have hGI := gRun_ok (keyAt keys) keys.length
    by_cases h0 : (r33_Groups keys).length = 0
    · have e0 : r33_Groups keys = [] := List.eq_nil_of_length_eq_zero h0
      have es : g_Sorted keys = [] := by unfold g_Sorted; rw [e0]; exact List.mergeSort_nil
      rw [h0, es]
      refine (AnyF.slices_SortFunc_none { lays_sort_ints with } g cp _ W).mono ?_
      rintro e w' ⟨rfl, rfl⟩
      exact ⟨rfl, hx0.trans hx, .nil _ _ _⟩
    · have hkn : keys ≠ [] := by
        intro e; apply h0
        have h1 : (r33_Groups keys).length ≤ keys.length := hgl
        have h2 : keys.length = 0 := by rw [e]; rfl
        omega
      obtain ⟨rfl, hcap⟩ := ha hkn
      have hb : b < w.heap.size := hbd _ _ (hcell 0 (List.length_pos_iff.2 hkn)).1
      obtain ⟨gb, rfl⟩ : ∃ gb, g = some ⟨gb, 0, none⟩ := by
        obtain ⟨_, ⟨_, h1⟩ | ⟨gb, c2, cur, hv, _⟩⟩ := hn.outer
        · rw [List.length_map] at h1; omega
        · simp only [Value.slice.injEq] at hv; exact ⟨gb, hv.1⟩
      have hgl2 := hn.outer.lt gb rfl
      have hW : w.heap.size + 1 ≤ W.heap.size := by have := hx.size; omega
      refine (sort_calls keys w.heap.size b off cap kv w W (out := r33_Groups keys) rfl hlen ⟨Nat.le_refl _, by omega⟩ hn (by omega) (hx.keeps hc0) hcap hb (fun i hi => (hx0.trans hx).keeps (hcell i hi).2.1) (fun i j W' hs hk hi hj => ?_)).mono ?_
      · have kp : Keeps St w St W' := fun b o hs => ⟨hs, by
          have hbl := hbd b o hs
          unfold World.cell?
          rw [hk b hbl, (hx0.trans hx).block hbl]⟩
        exact orders_calls ((hcell i hi).2.2.mono kp) ((hcell j hj).2.2.mono kp)
      · rintro e w' ⟨rfl, ps, p1, p2, p3, hp⟩
        have hxw : Ext w w' := by
          refine ⟨hp.os.trans (hx0.trans hx).os, hp.tape.trans (hx0.trans hx).tape, hp.output.trans (hx0.trans hx).output, by have := hp.size; omega, fun k hk => ?_⟩
          rw [hp.block k (by omega) (by omega), (hx0.trans hx).block hk]
        refine ⟨rfl, hxw, ?_⟩
        have hlen2 : (g_Sorted keys).length = (r33_Groups keys).length := by rw [← p2, List.length_map, p3]
        rw [← hlen2]
        have hcp : (r33_Groups keys).length ≤ cp := by
          obtain ⟨_, ⟨hv, _⟩ | ⟨g2, cap2, cur, hv, _, _, hc, _⟩⟩ := hn.outer
          · simp at hv
          · simp only [Value.slice.injEq] at hv; obtain ⟨_, _, rfl⟩ := hv; rw [List.length_map] at hc; exact hc
        have hst : ∀ b', w.heap.size ≤ b' → b' < W.heap.size → ∀ o, StN St w w' .nilFunc b' o := fun b' h1 h2 o => .inr ⟨h1, by have := hp.size; omega, by simp [Value.ownBlock]⟩
        have hpj : ∀ i, (hi : i < (g_Sorted keys).length) → ∃ p, ps[i]? = some p ∧ p < (r33_Groups keys).length ∧ (g_Sorted keys)[i] = (r33_Groups keys).getD p [] := fun i hi => by
          have hi2 : i < ps.length := by omega
          refine ⟨ps[i], List.getElem?_eq_getElem hi2, p1 _ (List.getElem_mem hi2), ?_⟩
          have : (g_Sorted keys)[i]? = some ((r33_Groups keys).getD ps[i] []) := by rw [← p2, List.getElem?_map, List.getElem?_eq_getElem hi2]; rfl
          rw [List.getElem?_eq_getElem hi] at this
          exact Option.some.inj this
        refine VRel.dat (U := Un) Ty.ints (g_Sorted keys : List (Un.Den Ty.ints)) gb 0 cp (fun i j => cs.getD (ps.getD i 0) undef) ⟨by rw [hlen2]; exact hcp, by rw [hlen2]; show (gRun (keyAt keys) keys.length).length ≤ _; omega⟩ (fun i j hi hj => ?_) (fun i hi j dd hd => ?_)
        · have hj0 : j = 0 := by have : j < 1 := hj; omega
          subst hj0
          obtain ⟨p, q1, q2, q3⟩ := hpj i hi
          have e : 0 + i * Un.sz Ty.ints + 0 = 0 + i := by show 0 + i * 1 + 0 = 0 + i; omega
          refine ⟨hst gb (by omega) hgl2.2 _, ?_⟩
          rw [e, hp.cell i (cs.getD p undef) (by rw [List.getElem?_map, q1]; rfl), List.getD_eq_getElem?_getD (l := ps), q1]; rfl
        · obtain ⟨p, q1, q2, q3⟩ := hpj i hi
          have hd' : ([.dat (U := Un) Ty.int ((g_Sorted keys)[i]'hi)] : List (V Un))[j]? = some dd := hd
          cases j with
          | succ j => simp at hd'
          | zero =>
            simp at hd'; subst hd'
            obtain ⟨u, n1, n2, n3, n4, n5, n6, n7, n8⟩ := nest_at hn p q2
            have e1 : ps.getD i 0 = p := by rw [List.getD_eq_getElem?_getD, q1]; rfl
            have e2 : cs.getD p undef = u := by rw [List.getD_eq_getElem?_getD, n1]; rfl
            show VRel En _ w' (cs.getD (ps.getD i 0) undef) _
            rw [e1, e2, q3]
            have hv := ints_vrel (St := fun b _ => u.ownBlock = some b) n4 (gRun_bd keys hlen p) (by have := GI.len _ hGI p; show ((gRun (keyAt keys) keys.length).getD p []).length ≤ _; omega) (fun b o h => h)
            refine hv.mono fun b' o hb' => ⟨hst b' (by have := (n4.lt b' hb').1; omega) (n4.lt b' hb').2 o, ?_⟩
            refine hp.other _ (n4.lt b' hb').2 (.inr (.inr fun e => ?_))
            rw [hb'] at n5
            rcases n5 with n5 | n5
            · simp at n5
            · exact n5 (by have e' : b' = gb := e; rw [e'])
  go_enter Tryd.func10, Tryd.ntmps10
  go_wp2_with (first
    | (go_at_call 8; refine hG.mono ?_; rintro e W1 ⟨g, cp, cs, rfl, hx1, hn1⟩; have HX1 := Lib.hid hx1; have HN1 := Lib.hid hn1; clear hx1 hn1)
    | (go_at_call 20; refine (hS _ _ _ _ HX1.out HN1.out).mono ?_; rintro e W2 ⟨rfl, hx2, hv2⟩; have HX2 := Lib.hid hx2; have HV2 := Lib.hid hv2; clear hx2 hv2))
  go_ret
  exact ⟨_, rfl, HX2.out, HV2.out⟩
def F_grouper_Sorted : FnC Un := fun args => match args with
  | [x0] => (dL .row x0).bind fun keys => some ([keys.length ≤ 2000000 ∧ keysOK keys], [.c (.sl (U := Un) Ty.ints (g_Sorted keys) false)], [])
  | _ => none
theorem ok_grouper_Sorted : FnOK 10 F_grouper_Sorted := by
  intro args ob rs os h hob
  unfold F_grouper_Sorted at h
  split at h
  · simp only [Option.bind_eq_some_iff, Option.some.injEq, Prod.mk.injEq] at h
    obtain ⟨keys, e0, rfl, rfl, rfl⟩ := h
    obtain rfl := dL_eq e0
    obtain ⟨hlen, hok⟩ := hob _ (List.mem_singleton.2 rfl)
    refine ⟨?_, hasBody_of Tryd.func10 (by kernel_rfl) (by kernel_rfl)⟩
    intro w St vs hbd hvs hld
    match vs, hvs with
    | [v0], ⟨h0, _⟩ =>
      obtain ⟨a, b, off, cap, kv, rfl, ha, hc⟩ := rows_cells h0
      refine (sorted_walk St keys a b off cap kv w hbd hld hlen hok ha hc).mono ?_
      rintro e w' ⟨v, rfl, hx, hv⟩
      exact ⟨v, rfl, ret_dat hx hbd hv⟩
  · simp at h
end
end Go.Proofs.YtfdnnfbbjiglcaaDoor.B
