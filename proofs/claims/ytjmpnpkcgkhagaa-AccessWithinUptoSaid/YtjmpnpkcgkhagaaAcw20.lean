/- Part 20 of the proof: Saggspec Swithinp. -/
import Derived.Test.YtjmpnpkcgkhagaaAcw19
namespace Go.Proofs.Ytjmpnpkcgkhagaa.B
open Go Go.RowKit
set_option maxRecDepth 100000
noncomputable section
attribute [local irreducible] awp ctxK itersK iterK retQ retGQ awf ctxF loopF
def nmCount : ByteArray := ⟨#[99, 111, 117, 110, 116]⟩
def nmSum : ByteArray := ⟨#[115, 117, 109]⟩
def nmMin : ByteArray := ⟨#[109, 105, 110]⟩
def nmMax : ByteArray := ⟨#[109, 97, 120]⟩
def nmRows : ByteArray := ⟨#[114, 111, 119, 115]⟩
def nmNone : ByteArray := ⟨#[]⟩
def numV (n : Int) : Val := ⟨2, n, ⟨#[]⟩⟩
open Classical in
def cntV (nm : ByteArray) (v : Val) : Bool := decide (v.kind ≠ 0) && rightV v && (decide (nm ≠ nmSum) || decide (v.kind = 2))
open Classical in
def addU (acc : List Val) (v : Val) : List Val := if v ∈ acc then acc else acc ++ [v]
def sumZ (c : List Val) : Int := (c.map (·.n)).sum
def minFrom (b : Val) (c : List Val) : Val := c.foldl (fun b v => if ordV v b < 0 then v else b) b
def maxFrom (b : Val) (c : List Val) : Val := c.foldl (fun b v => if ordV v b > 0 then v else b) b
def totV (n : Int) : Val := if inN n then numV n else zeroVal
open Classical in
def tellV (nm : ByteArray) (c : List Val) : Val :=
  if nm = nmCount ∨ nm = nmRows then numV c.length
  else if c = [] then zeroVal
  else if nm = nmSum then totV (sumZ c)
  else if nm = nmMin then minFrom (c.headD zeroVal) c
  else if nm = nmMax then maxFrom (c.headD zeroVal) c
  else zeroVal
theorem cmpI_anti (a b : Int) : cmpI b a = - cmpI a b := by unfold cmpI; split <;> split <;> (try split) <;> omega
theorem cmpL_anti : ∀ a b : List UInt8, cmpL b a = - cmpL a b
  | [], [] => rfl
  | [], _ :: _ => rfl
  | _ :: _, [] => rfl
  | a :: l, b :: r => by
    simp only [cmpL]
    by_cases h : a = b
    · subst h; simp only [if_true]; exact cmpL_anti l r
    · rw [if_neg h, if_neg (Ne.symm h)]; exact cmpI_anti _ _
theorem ordV_anti (a b : Val) : ordV b a = - ordV a b := by
  unfold ordV
  by_cases h : a.kind = b.kind
  · rw [if_pos h, if_pos h.symm]
    by_cases h2 : a.n = b.n
    · rw [if_pos h2, if_pos h2.symm]; exact cmpL_anti _ _
    · rw [if_neg h2, if_neg (Ne.symm h2)]; exact cmpI_anti _ _
  · rw [if_neg h, if_neg (Ne.symm h)]; exact cmpI_anti _ _
theorem cmpI_neg {a b : Int} : cmpI a b < 0 ↔ a < b := by unfold cmpI; split <;> (try split) <;> omega
theorem cmpL_trans : ∀ {a b c : List UInt8}, cmpL a b < 0 → cmpL b c < 0 → cmpL a c < 0
  | [], [], _, h, _ => by simp [cmpL] at h
  | [], _ :: _, [], _, h => by simp [cmpL] at h
  | [], _ :: _, _ :: _, _, _ => by simp [cmpL]
  | _ :: _, [], _, h, _ => by simp [cmpL] at h
  | _ :: _, _ :: _, [], _, h => by simp [cmpL] at h
  | a :: l, b :: r, c :: t, h1, h2 => by
    simp only [cmpL] at h1 h2 ⊢
    by_cases e1 : a = b
    · subst e1
      by_cases e2 : a = c
      · subst e2; simp only [if_true] at h1 h2 ⊢; exact cmpL_trans h1 h2
      · rw [if_neg e2] at h2 ⊢; exact h2
    · rw [if_neg e1] at h1
      by_cases e2 : b = c
      · subst e2; rw [if_neg e1]; exact h1
      · rw [if_neg e2] at h2
        rw [cmpI_neg] at h1 h2
        have : a ≠ c := by rintro rfl; omega
        rw [if_neg this, cmpI_neg]; omega
theorem ordV_trans {a b c : Val} (h1 : ordV a b < 0) (h2 : ordV b c < 0) : ordV a c < 0 := by
  unfold ordV at h1 h2 ⊢
  by_cases k1 : a.kind = b.kind
  · rw [if_pos k1] at h1
    by_cases k2 : b.kind = c.kind
    · rw [if_pos k2] at h2
      rw [if_pos (k1.trans k2)]
      by_cases n1 : a.n = b.n
      · rw [if_pos n1] at h1
        by_cases n2 : b.n = c.n
        · rw [if_pos n2] at h2; rw [if_pos (n1.trans n2)]; exact cmpL_trans h1 h2
        · rw [if_neg n2] at h2; rw [if_neg (by rw [n1]; exact n2), n1]; exact h2
      · rw [if_neg n1, cmpI_neg] at h1
        by_cases n2 : b.n = c.n
        · rw [if_neg (by rw [← n2]; exact n1), ← n2, cmpI_neg]; exact h1
        · rw [if_neg n2, cmpI_neg] at h2; rw [if_neg (by omega), cmpI_neg]; omega
    · rw [if_neg k2] at h2; rw [if_neg (by rw [k1]; exact k2), k1]; exact h2
  · rw [if_neg k1, cmpI_neg] at h1
    by_cases k2 : b.kind = c.kind
    · rw [if_neg (by rw [← k2]; exact k1), ← k2, cmpI_neg]; exact h1
    · rw [if_neg k2, cmpI_neg] at h2; rw [if_neg (by omega), cmpI_neg]; omega
theorem ordV_self (a : Val) : ordV a a = 0 := ordV_zero.2 rfl
def leV (a b : Val) : Prop := ordV a b ≤ 0
theorem leV_refl (a : Val) : leV a a := by unfold leV; rw [ordV_self]; omega
theorem leV_anti {a b : Val} (h1 : leV a b) (h2 : leV b a) : a = b := by
  unfold leV at h1 h2; rw [ordV_anti a b] at h2; exact ordV_zero.1 (by omega)
theorem leV_trans {a b c : Val} (h1 : leV a b) (h2 : leV b c) : leV a c := by
  unfold leV at *
  by_cases e1 : ordV a b = 0
  · rw [ordV_zero] at e1; subst e1; exact h2
  · by_cases e2 : ordV b c = 0
    · rw [ordV_zero] at e2; subst e2; exact h1
    · have := ordV_trans (a := a) (b := b) (c := c) (by omega) (by omega); omega
theorem minFrom_spec : ∀ (c : List Val) (b : Val), (minFrom b c = b ∨ minFrom b c ∈ c) ∧ leV (minFrom b c) b ∧ ∀ v ∈ c, leV (minFrom b c) v
  | [], b => ⟨.inl rfl, leV_refl b, by simp⟩
  | v :: c, b => by
    have ih := minFrom_spec c (if ordV v b < 0 then v else b)
    have e : minFrom b (v :: c) = minFrom (if ordV v b < 0 then v else b) c := rfl
    rw [e]
    by_cases h : ordV v b < 0
    · rw [if_pos h] at ih ⊢
      have hvb : leV v b := by unfold leV; omega
      refine ⟨.inr ?_, leV_trans ih.2.1 hvb, fun x hx => ?_⟩
      · rcases ih.1 with h1 | h1
        · rw [h1]; simp
        · exact List.mem_cons_of_mem _ h1
      · rcases List.mem_cons.1 hx with rfl | hx
        · exact ih.2.1
        · exact ih.2.2 x hx
    · rw [if_neg h] at ih ⊢
      have hbv : leV b v := by unfold leV; rw [ordV_anti v b]; omega
      refine ⟨?_, ih.2.1, fun x hx => ?_⟩
      · rcases ih.1 with h1 | h1
        · exact .inl h1
        · exact .inr (List.mem_cons_of_mem _ h1)
      · rcases List.mem_cons.1 hx with rfl | hx
        · exact leV_trans ih.2.1 hbv
        · exact ih.2.2 x hx
theorem maxFrom_spec : ∀ (c : List Val) (b : Val), (maxFrom b c = b ∨ maxFrom b c ∈ c) ∧ leV b (maxFrom b c) ∧ ∀ v ∈ c, leV v (maxFrom b c)
  | [], b => ⟨.inl rfl, leV_refl b, by simp⟩
  | v :: c, b => by
    have ih := maxFrom_spec c (if ordV v b > 0 then v else b)
    have e : maxFrom b (v :: c) = maxFrom (if ordV v b > 0 then v else b) c := rfl
    rw [e]
    by_cases h : ordV v b > 0
    · rw [if_pos h] at ih ⊢
      have hvb : leV b v := by unfold leV; rw [ordV_anti v b]; omega
      refine ⟨.inr ?_, leV_trans hvb ih.2.1, fun x hx => ?_⟩
      · rcases ih.1 with h1 | h1
        · rw [h1]; simp
        · exact List.mem_cons_of_mem _ h1
      · rcases List.mem_cons.1 hx with rfl | hx
        · exact ih.2.1
        · exact ih.2.2 x hx
    · rw [if_neg h] at ih ⊢
      have hbv : leV v b := by unfold leV; omega
      refine ⟨?_, ih.2.1, fun x hx => ?_⟩
      · rcases ih.1 with h1 | h1
        · exact .inl h1
        · exact .inr (List.mem_cons_of_mem _ h1)
      · rcases List.mem_cons.1 hx with rfl | hx
        · exact leV_trans hbv ih.2.1
        · exact ih.2.2 x hx
def IsMin (m : Val) (c : List Val) : Prop := m ∈ c ∧ ∀ v ∈ c, leV m v
def IsMax (m : Val) (c : List Val) : Prop := m ∈ c ∧ ∀ v ∈ c, leV v m
theorem IsMin.uniq {m m' : Val} {c c' : List Val} (h : IsMin m c) (h' : IsMin m' c') (hp : ∀ v, v ∈ c ↔ v ∈ c') : m = m' := leV_anti (h.2 _ ((hp _).2 h'.1)) (h'.2 _ ((hp _).1 h.1))
theorem IsMax.uniq {m m' : Val} {c c' : List Val} (h : IsMax m c) (h' : IsMax m' c') (hp : ∀ v, v ∈ c ↔ v ∈ c') : m = m' := leV_anti (h'.2 _ ((hp _).1 h.1)) (h.2 _ ((hp _).2 h'.1))
theorem isMin_from {c : List Val} (hc : c ≠ []) : IsMin (minFrom (c.headD zeroVal) c) c := by
  cases c with
  | nil => exact (hc rfl).elim
  | cons v c =>
    have h := minFrom_spec (v :: c) v
    refine ⟨?_, h.2.2⟩
    rcases h.1 with h1 | h1
    · simp only [List.headD_cons]; rw [h1]; simp
    · exact h1
theorem isMax_from {c : List Val} (hc : c ≠ []) : IsMax (maxFrom (c.headD zeroVal) c) c := by
  cases c with
  | nil => exact (hc rfl).elim
  | cons v c =>
    have h := maxFrom_spec (v :: c) v
    refine ⟨?_, h.2.2⟩
    rcases h.1 with h1 | h1
    · simp only [List.headD_cons]; rw [h1]; simp
    · exact h1
theorem sumZ_perm {c c' : List Val} (h : c.Perm c') : sumZ c = sumZ c' := by
  unfold sumZ
  induction h with
  | nil => rfl
  | cons x _ ih => simp only [List.map_cons, List.sum_cons, ih]
  | swap x y l => simp only [List.map_cons, List.sum_cons]; omega
  | trans _ _ h1 h2 => exact h1.trans h2
theorem sumZ_append (a b : List Val) : sumZ (a ++ b) = sumZ a + sumZ b := by unfold sumZ; rw [List.map_append, List.sum_append]
theorem tellV_perm {nm : ByteArray} {c c' : List Val} (h : c.Perm c') : tellV nm c = tellV nm c' := by
  unfold tellV
  rw [h.length_eq, sumZ_perm h]
  have hn : c = [] ↔ c' = [] := by rw [← List.length_eq_zero_iff, ← List.length_eq_zero_iff, h.length_eq]
  by_cases hc : c = []
  · have hc' := hn.1 hc; subst hc; subst hc'; rfl
  · have hc' : c' ≠ [] := fun e => hc (hn.2 e)
    rw [if_neg hc, if_neg hc', (isMin_from hc).uniq (isMin_from hc') (fun v => h.mem_iff), (isMax_from hc).uniq (isMax_from hc') (fun v => h.mem_iff)]
def bigM : Int := 1000000000000000
open Classical in
def countsA (nm : ByteArray) (v : Val) : Bool := decide (nm = nmRows) || cntV nm v
open Classical in
def takenA (x : Acc) (v : Val) : Acc :=
  if x.name = nmSum then ⟨x.name, x.distinct, x.n + 1, x.hi + (x.lo + v.n).tdiv bigM, (x.lo + v.n).tmod bigM, x.v, x.l⟩
  else if x.name = nmMin then ⟨x.name, x.distinct, x.n + 1, x.hi, x.lo, if x.n + 1 = 1 ∨ ordV v x.v < 0 then v else x.v, x.l⟩
  else if x.name = nmMax then ⟨x.name, x.distinct, x.n + 1, x.hi, x.lo, if x.n + 1 = 1 ∨ ordV v x.v > 0 then v else x.v, x.l⟩
  else ⟨x.name, x.distinct, x.n + 1, x.hi, x.lo, x.v, x.l⟩
def posV (l : List Val) (v : Val) : Nat := (l.takeWhile fun x => ordV x v < 0).length
open Classical in
def insV (l : List Val) (v : Val) : List Val := if v ∈ l then l else l.take (posV l v) ++ v :: l.drop (posV l v)
def stepA (x : Acc) (v : Val) : Acc :=
  if countsA x.name v = true then (if x.distinct = true then ⟨x.name, x.distinct, x.n, x.hi, x.lo, x.v, insV x.l v⟩ else takenA x v) else x
def totalA (x : Acc) : Val := if x.n = 0 ∨ x.hi < -1 ∨ x.hi > 1 then zeroVal else if inN (x.hi * bigM + x.lo) then numV (x.hi * bigM + x.lo) else zeroVal
open Classical in
def endA (x : Acc) : Val :=
  if x.name = nmCount ∨ x.name = nmRows then numV x.n else if x.name = nmSum then totalA x else if x.name = nmMin ∨ x.name = nmMax then x.v else zeroVal
def valueA (x : Acc) : Val := endA (x.l.foldl takenA x)
def Core (nm : ByteArray) (c : List Val) (x : Acc) : Prop :=
  x.name = nm ∧ x.n = c.length ∧ (nm = nmSum → x.hi * bigM + x.lo = sumZ c ∧ -bigM < x.lo ∧ x.lo < bigM) ∧ (nm ≠ nmSum → x.hi = 0 ∧ x.lo = 0) ∧
  (nm = nmMin → if c = [] then x.v = zeroVal else IsMin x.v c) ∧ (nm = nmMax → if c = [] then x.v = zeroVal else IsMax x.v c) ∧ (nm ≠ nmMin → nm ≠ nmMax → x.v = zeroVal)
def Rep (nm : ByteArray) (d : Bool) (c : List Val) (x : Acc) : Prop :=
  x.distinct = d ∧ (d = false → Core nm c x ∧ x.l = []) ∧ (d = true → Core nm [] x ∧ x.l.Pairwise (fun a b => ordV a b < 0) ∧ ∀ v, v ∈ x.l ↔ v ∈ c)
theorem rightV_int {v : Val} (h : rightV v = true) (hk : v.kind = 2) : -bigM ≤ v.n ∧ v.n ≤ bigM := by
  unfold rightV at h
  rw [hk] at h
  simp [inN] at h
  unfold bigM; omega
theorem cntV_sum {v : Val} (h : cntV nmSum v = true) : -bigM ≤ v.n ∧ v.n ≤ bigM := by
  unfold cntV at h
  simp only [Bool.and_eq_true, Bool.or_eq_true, decide_eq_true_eq, ne_eq, not_true_eq_false, false_or] at h
  exact rightV_int h.1.2 h.2
theorem nm_ne : nmCount ≠ nmSum ∧ nmCount ≠ nmMin ∧ nmCount ≠ nmMax ∧ nmCount ≠ nmRows ∧ nmSum ≠ nmMin ∧ nmSum ≠ nmMax ∧ nmSum ≠ nmRows ∧ nmMin ≠ nmMax ∧ nmMin ≠ nmRows ∧ nmMax ≠ nmRows ∧ nmNone ≠ nmCount ∧ nmNone ≠ nmSum ∧ nmNone ≠ nmMin ∧ nmNone ≠ nmMax ∧ nmNone ≠ nmRows := by
  simp [nmCount, nmSum, nmMin, nmMax, nmRows, nmNone]
theorem div_mod_big {n : Int} : n.tdiv bigM * bigM + n.tmod bigM = n := by rw [Int.mul_comm]; exact Int.mul_tdiv_add_tmod n bigM
theorem tmod_big (n : Int) : -bigM < n.tmod bigM ∧ n.tmod bigM < bigM := by
  have hb : (0 : Int) < bigM := by decide
  refine ⟨?_, Int.tmod_lt_of_pos n hb⟩
  have := Int.tmod_lt_of_pos (-n) hb
  rw [Int.neg_tmod] at this; omega
theorem Core.taken {nm : ByteArray} {c : List Val} {x : Acc} (h : Core nm c x) {v : Val} (hv : nm = nmSum → -bigM ≤ v.n ∧ v.n ≤ bigM) : Core nm (c ++ [v]) (takenA x v) := by
  obtain ⟨n1, n2, n3, n4, n5, n6, n7, n8, n9, n10, n11⟩ := nm_ne
  obtain ⟨h1, h2, h3, h4, h5, h6, h7⟩ := h
  have hlen : x.n + 1 = ((c ++ [v]).length : Int) := by rw [h2]; simp
  have hne : c ++ [v] ≠ [] := by simp
  unfold takenA
  by_cases hs : x.name = nmSum
  · rw [if_pos hs]
    have hs' : nm = nmSum := h1.symm.trans hs
    obtain ⟨a1, a2, a3⟩ := h3 hs'
    have hv' := hv hs'
    have hd := div_mod_big (n := x.lo + v.n)
    have hm := tmod_big (x.lo + v.n)
    refine ⟨h1, hlen, fun _ => ⟨?_, hm.1, hm.2⟩, fun e => (e hs').elim, fun e => ?_, fun e => ?_, fun e1 e2 => h7 e1 e2⟩
    · rw [sumZ_append, ← a1]
      have : sumZ [v] = v.n := by simp [sumZ]
      rw [this]
      show (x.hi + (x.lo + v.n).tdiv bigM) * bigM + (x.lo + v.n).tmod bigM = _
      rw [Int.add_mul]; omega
    · rw [hs'] at e; exact (n5 e).elim
    · rw [hs'] at e; exact (n6 e).elim
  · rw [if_neg hs]
    have hs' : nm ≠ nmSum := fun e => hs (h1.trans e)
    by_cases hm : x.name = nmMin
    · rw [if_pos hm]
      have hm' : nm = nmMin := h1.symm.trans hm
      refine ⟨h1, hlen, fun e => (hs' e).elim, fun _ => h4 hs', fun _ => ?_, fun e => by rw [hm'] at e; exact (n8 e).elim, fun e => (e hm').elim⟩
      rw [if_neg hne]
      have h5' := h5 hm'
      show IsMin (if x.n + 1 = 1 ∨ ordV v x.v < 0 then v else x.v) (c ++ [v])
      by_cases hc : c = []
      · subst hc
        rw [if_pos (.inl (by rw [h2]; rfl))]
        exact ⟨by simp, by simp [leV_refl]⟩
      · rw [if_neg hc] at h5'
        have hl : (0 : Int) < c.length := by have := List.length_pos_iff.2 hc; omega
        by_cases ho : ordV v x.v < 0
        · rw [if_pos (.inr ho)]
          refine ⟨by simp, fun u hu => ?_⟩
          rcases List.mem_append.1 hu with hu | hu
          · exact leV_trans (by unfold leV; omega) (h5'.2 u hu)
          · simp at hu; subst hu; exact leV_refl _
        · rw [if_neg (by rintro (e | e); · omega
                         · exact ho e)]
          refine ⟨List.mem_append_left _ h5'.1, fun u hu => ?_⟩
          rcases List.mem_append.1 hu with hu | hu
          · exact h5'.2 u hu
          · simp at hu; subst hu; unfold leV; rw [ordV_anti u x.v]; omega
    · rw [if_neg hm]
      have hm' : nm ≠ nmMin := fun e => hm (h1.trans e)
      by_cases hx : x.name = nmMax
      · rw [if_pos hx]
        have hx' : nm = nmMax := h1.symm.trans hx
        refine ⟨h1, hlen, fun e => (hs' e).elim, fun _ => h4 hs', fun e => (hm' e).elim, fun _ => ?_, fun _ e => (e hx').elim⟩
        rw [if_neg hne]
        have h6' := h6 hx'
        show IsMax (if x.n + 1 = 1 ∨ ordV v x.v > 0 then v else x.v) (c ++ [v])
        by_cases hc : c = []
        · subst hc
          rw [if_pos (.inl (by rw [h2]; rfl))]
          exact ⟨by simp, by simp [leV_refl]⟩
        · rw [if_neg hc] at h6'
          have hl : (0 : Int) < c.length := by have := List.length_pos_iff.2 hc; omega
          by_cases ho : ordV v x.v > 0
          · rw [if_pos (.inr ho)]
            refine ⟨by simp, fun u hu => ?_⟩
            rcases List.mem_append.1 hu with hu | hu
            · exact leV_trans (h6'.2 u hu) (by unfold leV; rw [ordV_anti v x.v]; omega)
            · simp at hu; subst hu; exact leV_refl _
          · rw [if_neg (by rintro (e | e); · omega
                           · exact ho e)]
            refine ⟨List.mem_append_left _ h6'.1, fun u hu => ?_⟩
            rcases List.mem_append.1 hu with hu | hu
            · exact h6'.2 u hu
            · simp at hu; subst hu; unfold leV; omega
      · rw [if_neg hx]
        have hx' : nm ≠ nmMax := fun e => hx (h1.trans e)
        exact ⟨h1, hlen, fun e => (hs' e).elim, fun _ => h4 hs', fun e => (hm' e).elim, fun e => (hx' e).elim, fun _ _ => h7 hm' hx'⟩
theorem taken_keeps (x : Acc) (v : Val) : (takenA x v).l = x.l ∧ (takenA x v).distinct = x.distinct ∧ (takenA x v).name = x.name := by
  unfold takenA; repeat' split
  all_goals exact ⟨rfl, rfl, rfl⟩
theorem Core.folded {nm : ByteArray} : ∀ (l : List Val) {c : List Val} {x : Acc}, Core nm c x → (nm = nmSum → ∀ v ∈ l, -bigM ≤ v.n ∧ v.n ≤ bigM) → Core nm (c ++ l) (l.foldl takenA x)
  | [], c, x, h, _ => by simpa using h
  | v :: l, c, x, h, hv => by
    have h1 := h.taken (v := v) (fun e => hv e v (by simp))
    have := Core.folded l h1 (fun e u hu => hv e u (by simp [hu]))
    simpa using this
theorem Core.end_ {nm : ByteArray} {c : List Val} {x : Acc} (h : Core nm c x) : endA x = tellV nm c := by
  obtain ⟨n1, n2, n3, n4, n5, n6, n7, n8, n9, n10, n11⟩ := nm_ne
  obtain ⟨h1, h2, h3, h4, h5, h6, h7⟩ := h
  unfold endA tellV
  rw [h1]
  by_cases hc : nm = nmCount ∨ nm = nmRows
  · rw [if_pos hc, if_pos hc, h2]
  · rw [if_neg hc, if_neg hc]
    by_cases hs : nm = nmSum
    · rw [if_pos hs]
      obtain ⟨a1, a2, a3⟩ := h3 hs
      unfold totalA totV
      by_cases he : c = []
      · rw [if_pos he, if_pos (.inl (by rw [h2, he]; rfl))]
      · rw [if_neg he, if_pos hs]
        have hl : (0 : Int) < c.length := by have := List.length_pos_iff.2 he; omega
        rw [a1]
        by_cases hb : x.hi < -1 ∨ x.hi > 1
        · rw [if_pos (.inr hb)]
          have : inN (sumZ c) = false := by
            unfold inN; rw [decide_eq_false_iff_not]
            have hbm : bigM = 1000000000000000 := rfl
            rw [hbm] at a1 a2 a3
            rcases hb with hb | hb <;> omega
          rw [this]; rfl
        · rw [if_neg (by rintro (e | e); · omega
                         · exact hb e)]
    · rw [if_neg hs]
      by_cases hm : nm = nmMin
      · rw [if_pos (.inl hm)]
        have h5' := h5 hm
        by_cases he : c = []
        · rw [if_pos he] at h5' ⊢; exact h5'
        · rw [if_neg he] at h5' ⊢
          rw [if_neg hs, if_pos hm]
          exact h5'.uniq (isMin_from he) (fun _ => Iff.rfl)
      · by_cases hx : nm = nmMax
        · rw [if_pos (.inr hx)]
          have h6' := h6 hx
          by_cases he : c = []
          · rw [if_pos he] at h6' ⊢; exact h6'
          · rw [if_neg he] at h6' ⊢
            rw [if_neg hs, if_neg hm, if_pos hx]
            exact h6'.uniq (isMax_from he) (fun _ => Iff.rfl)
        · rw [if_neg (by rintro (e | e); exact hm e; exact hx e)]
          by_cases he : c = []
          · rw [if_pos he]
          · rw [if_neg he, if_neg hs, if_neg hm, if_neg hx]
theorem sorted_nodup {l : List Val} (h : l.Pairwise fun a b => ordV a b < 0) : l.Nodup := h.imp fun {a b} hab e => by subst e; rw [ordV_self] at hab; omega
theorem insV_mem (l : List Val) (v u : Val) : u ∈ insV l v ↔ u ∈ l ∨ u = v := by
  unfold insV
  split
  · rename_i h; constructor
    · exact .inl
    · rintro (h1 | rfl); exact h1; exact h
  · rw [List.mem_append, List.mem_cons]
    have : u ∈ l ↔ u ∈ l.take (posV l v) ∨ u ∈ l.drop (posV l v) := by rw [← List.mem_append, List.take_append_drop]
    rw [this]
    constructor
    · rintro (h | h | h); exact .inl (.inl h); exact .inr h; exact .inl (.inr h)
    · rintro ((h | h) | h); exact .inl h; exact .inr (.inr h); exact .inr (.inl h)
theorem takeWhile_all {p : Val → Bool} : ∀ (l : List Val), ∀ u ∈ l.takeWhile p, p u = true
  | [], u, h => by simp at h
  | a :: l, u, h => by
    rw [List.takeWhile_cons] at h
    split at h
    · rename_i hp
      rcases List.mem_cons.1 h with rfl | h
      · exact hp
      · exact takeWhile_all l u h
    · simp at h
theorem dropWhile_head {p : Val → Bool} : ∀ (l : List Val) {y : Val} {r : List Val}, l.dropWhile p = y :: r → p y = false
  | [], y, r, h => by simp at h
  | a :: l, y, r, h => by
    rw [List.dropWhile_cons] at h
    split at h
    · exact dropWhile_head l h
    · rename_i hp
      simp at h
      rw [← h.1]; simpa using hp
theorem posV_below {l : List Val} {v : Val} : ∀ u ∈ l.take (posV l v), ordV u v < 0 := by
  intro u hu
  have e : l.take (posV l v) = l.takeWhile fun x => ordV x v < 0 := by
    unfold posV
    conv => lhs; arg 2; rw [← List.takeWhile_append_dropWhile (p := fun x => decide (ordV x v < 0)) (l := l)]
    rw [List.take_left]
  rw [e] at hu
  have := takeWhile_all l u hu
  simpa using this
theorem posV_above {l : List Val} (h : l.Pairwise fun a b => ordV a b < 0) {v : Val} : ∀ u ∈ l.drop (posV l v), ¬ ordV u v < 0 := by
  have e : l.drop (posV l v) = l.dropWhile fun x => ordV x v < 0 := by
    unfold posV
    conv => lhs; arg 2; rw [← List.takeWhile_append_dropWhile (p := fun x => decide (ordV x v < 0)) (l := l)]
    rw [List.drop_left]
  rw [e]
  intro u hu hlt
  have hp : (l.dropWhile fun x => ordV x v < 0).Pairwise fun a b => ordV a b < 0 := h.sublist (List.dropWhile_sublist _)
  cases hd : l.dropWhile fun x => ordV x v < 0 with
  | nil => rw [hd] at hu; simp at hu
  | cons y r =>
    have hy : ¬ ordV y v < 0 := by
      have := dropWhile_head l hd
      simpa using this
    rw [hd] at hu hp
    rcases List.mem_cons.1 hu with rfl | hu
    · exact hy hlt
    · have := (List.pairwise_cons.1 hp).1 u hu
      exact hy (ordV_trans this hlt)
theorem insV_sorted {l : List Val} (h : l.Pairwise fun a b => ordV a b < 0) (v : Val) : (insV l v).Pairwise fun a b => ordV a b < 0 := by
  unfold insV
  split
  · exact h
  · rename_i hn
    have hs : ∀ u ∈ l.drop (posV l v), ordV v u < 0 := fun u hu => by
      have h1 := posV_above h u hu
      have h2 : ordV u v ≠ 0 := fun e => hn (by rw [ordV_zero] at e; subst e; exact List.mem_of_mem_drop hu)
      rw [ordV_anti u v]; omega
    rw [List.pairwise_append]
    refine ⟨h.sublist (List.take_sublist _ _), List.pairwise_cons.2 ⟨hs, h.sublist (List.drop_sublist _ _)⟩, fun a ha b hb => ?_⟩
    rcases List.mem_cons.1 hb with rfl | hb
    · exact posV_below a ha
    · exact ordV_trans (posV_below a ha) (hs b hb)
open Classical in
theorem addU_mem (c : List Val) (acc : List Val) (u : Val) : u ∈ c.foldl addU acc ↔ u ∈ acc ∨ u ∈ c := by
  induction c generalizing acc with
  | nil => simp
  | cons v c ih =>
    rw [List.foldl_cons, ih]
    have : u ∈ addU acc v ↔ u ∈ acc ∨ u = v := by
      unfold addU
      split
      · rename_i h; constructor
        · exact .inl
        · rintro (h1 | rfl); exact h1; exact h
      · simp
    rw [this]; simp only [List.mem_cons]
    constructor
    · rintro ((h | h) | h); exact .inl h; exact .inr (.inl h); exact .inr (.inr h)
    · rintro (h | h | h); exact .inl (.inl h); exact .inl (.inr h); exact .inr h
theorem addU_nodup (c : List Val) : ∀ {acc : List Val}, acc.Nodup → (c.foldl addU acc).Nodup := by
  induction c with
  | nil => intro acc h; exact h
  | cons v c ih =>
    intro acc h
    rw [List.foldl_cons]
    refine ih ?_
    unfold addU
    split
    · exact h
    · rename_i hn
      rw [List.nodup_append]
      exact ⟨h, by simp, fun a ha b hb e => by simp at hb; subst hb; subst e; exact hn ha⟩
def dedupV (c : List Val) : List Val := c.foldl addU []
theorem dedupV_mem (c : List Val) (u : Val) : u ∈ dedupV c ↔ u ∈ c := by unfold dedupV; rw [addU_mem]; simp
theorem dedupV_nodup (c : List Val) : (dedupV c).Nodup := addU_nodup c List.nodup_nil
theorem perm_same {a b : List Val} (ha : a.Nodup) (hb : b.Nodup) (h : ∀ v, v ∈ a ↔ v ∈ b) : a.Perm b := (List.perm_ext_iff_of_nodup ha hb).2 h
theorem sumZ_bound {c : List Val} (h : ∀ v ∈ c, -bigM ≤ v.n ∧ v.n ≤ bigM) : -((c.length : Int) * bigM) ≤ sumZ c ∧ sumZ c ≤ c.length * bigM := by
  induction c with
  | nil => simp [sumZ]
  | cons v c ih =>
    have h1 := ih fun u hu => h u (by simp [hu])
    have h2 := h v (by simp)
    have e : sumZ (v :: c) = v.n + sumZ c := by simp [sumZ]
    rw [e]
    simp only [List.length_cons, Int.natCast_add, Int.add_mul]
    omega
theorem Core.hi {nm : ByteArray} {c : List Val} {x : Acc} (h : Core nm c x) (hb : nm = nmSum → ∀ v ∈ c, -bigM ≤ v.n ∧ v.n ≤ bigM) : -(c.length : Int) ≤ x.hi ∧ x.hi ≤ c.length := by
  by_cases hs : nm = nmSum
  · obtain ⟨a1, a2, a3⟩ := h.2.2.1 hs
    have := sumZ_bound (hb hs)
    unfold bigM at *
    omega
  · have := (h.2.2.2.1 hs).1; omega
theorem Core.lo {nm : ByteArray} {c : List Val} {x : Acc} (h : Core nm c x) : -bigM < x.lo ∧ x.lo < bigM := by
  by_cases hs : nm = nmSum
  · exact (h.2.2.1 hs).2
  · have := (h.2.2.2.1 hs).2; unfold bigM; omega
theorem counts_sum {nm : ByteArray} {v : Val} (h : countsA nm v = true) (hs : nm = nmSum) : -bigM ≤ v.n ∧ v.n ≤ bigM := by
  subst hs
  unfold countsA at h
  simp only [Bool.or_eq_true, decide_eq_true_eq] at h
  rcases h with h | h
  · exact (nm_ne.2.2.2.2.2.2.1 h).elim
  · exact cntV_sum h
theorem Rep.name {nm : ByteArray} {d : Bool} {c : List Val} {x : Acc} (h : Rep nm d c x) : x.name = nm := by
  cases d with
  | true => exact (h.2.2 rfl).1.1
  | false => exact (h.2.1 rfl).1.1
theorem Rep.step {nm : ByteArray} {d : Bool} {c : List Val} {x : Acc} (h : Rep nm d c x) (v : Val) : Rep nm d (c ++ [v].filter (countsA nm)) (stepA x v) := by
  unfold stepA
  rw [h.name]
  by_cases hc : countsA nm v = true
  · rw [if_pos hc]
    have hf : [v].filter (countsA nm) = [v] := by simp [hc]
    rw [hf]
    cases d with
    | true =>
      obtain ⟨h1, h2, h3⟩ := h.2.2 rfl
      rw [if_pos h.1]
      refine ⟨h.1, fun e => by simp at e, fun _ => ⟨?_, insV_sorted h2 v, fun u => ?_⟩⟩
      · obtain ⟨i1, i2, i3, i4, i5, i6, i7⟩ := h1
        exact ⟨rfl, i2, i3, i4, i5, i6, i7⟩
      · rw [insV_mem, h3, List.mem_append]; simp
    | false =>
      obtain ⟨h1, h2⟩ := h.2.1 rfl
      rw [if_neg (by rw [h.1]; simp)]
      have hk := taken_keeps x v
      exact ⟨hk.2.1.trans h.1, fun _ => ⟨h1.taken (counts_sum hc), hk.1.trans h2⟩, fun e => by simp at e⟩
  · rw [if_neg hc]
    have hf : [v].filter (countsA nm) = [] := by simp [hc]
    rw [hf, List.append_nil]; exact h
theorem Rep.value {nm : ByteArray} {d : Bool} {c : List Val} {x : Acc} (h : Rep nm d c x) (hc : ∀ v ∈ c, countsA nm v = true) : valueA x = tellV nm (if d = true then dedupV c else c) := by
  unfold valueA
  cases d with
  | false =>
    obtain ⟨h1, h2⟩ := h.2.1 rfl
    rw [h2, if_neg (by simp)]; exact h1.end_
  | true =>
    obtain ⟨h1, h2, h3⟩ := h.2.2 rfl
    rw [if_pos rfl]
    have h4 := Core.folded x.l h1 (fun e v hv => counts_sum (hc v ((h3 v).1 hv)) e)
    rw [List.nil_append] at h4
    rw [h4.end_]
    exact tellV_perm (perm_same (sorted_nodup h2) (dedupV_nodup c) fun v => by rw [h3, dedupV_mem])
end
end Go.Proofs.Ytjmpnpkcgkhagaa.B
namespace Go.Proofs.Ytjmpnpkcgkhagaa.B
open Go Go.RowKit
set_option maxRecDepth 100000
noncomputable section
attribute [local irreducible] awp ctxK itersK iterK retQ retGQ awf ctxF loopF
theorem apply_cmp {op : Int} (h : op = 11 ∨ op = 13 ∨ op = 14 ∨ op = 15 ∨ op = 16) (name : ByteArray) (a b : Val) : scalar_Apply op name [a, b] = cmpO op a b := by
  rcases h with rfl | rfl | rfl | rfl | rfl
  all_goals
    unfold scalar_Apply
    rw [if_neg (by unfold cntN; simp)]
    rfl
theorem truth_cmp {op : Int} {a b : Val} (ht : tri_From (cmpO op a b) = 2) : (cmpV a b).2 = true ∧ soB op (cmpV a b).1 = true := by
  unfold cmpO at ht
  split at ht
  · rename_i h
    refine ⟨h, ?_⟩
    cases hb : soB op (cmpV a b).1
    · rw [hb] at ht; exact absurd ht (by decide)
    · rfl
  · exact absurd ht (by decide)
theorem cmp_ord {x v : Val} (hx : rightV x = true) (hv : rightV v = true) (h : (cmpV x v).2 = true) : (cmpV x v).1 = ordV x v := by
  unfold cmpV at h ⊢
  unfold ordV
  by_cases hk : x.kind = v.kind
  · rw [if_pos hk] at h ⊢
    rw [if_pos hk]
    by_cases h3 : x.kind = 3
    · have h3v : v.kind = 3 := by omega
      rw [if_pos h3]
      unfold rightV at hx hv
      rw [if_neg (by omega), if_neg (by omega), if_neg (by omega), if_pos h3] at hx
      rw [if_neg (by omega), if_neg (by omega), if_neg (by omega), if_pos h3v] at hv
      simp only [Bool.and_eq_true, decide_eq_true_eq] at hx hv
      rw [if_pos (by omega)]
    · rw [if_neg h3] at h ⊢
      by_cases h4 : x.kind = 1 ∨ x.kind = 2
      · rw [if_pos h4]
        have sx : x.s.size = 0 := by
          unfold rightV at hx
          rw [if_neg (by omega)] at hx
          rcases h4 with h4 | h4
          · rw [if_pos h4] at hx; simp only [Bool.and_eq_true, decide_eq_true_eq] at hx; exact hx.2
          · rw [if_neg (by omega), if_pos h4] at hx; simp only [Bool.and_eq_true, decide_eq_true_eq] at hx; exact hx.2
        have sv : v.s.size = 0 := by
          have h4v : v.kind = 1 ∨ v.kind = 2 := by omega
          unfold rightV at hv
          rw [if_neg (by omega)] at hv
          rcases h4v with h4 | h4
          · rw [if_pos h4] at hv; simp only [Bool.and_eq_true, decide_eq_true_eq] at hv; exact hv.2
          · rw [if_neg (by omega), if_pos h4] at hv; simp only [Bool.and_eq_true, decide_eq_true_eq] at hv; exact hv.2
        split
        · rename_i hn
          rw [size0 sx, size0 sv, cmpS_zero.2 rfl]
          exact cmpI_zero.2 hn
        · rfl
      · rw [if_neg h4] at h; simp at h
  · rw [if_neg hk] at h; simp at h
def relV (op : Int) (x v : Val) : Prop := (op = 11 ∧ ordV x v = 0) ∨ (op = 13 ∧ ordV x v < 0) ∨ (op = 14 ∧ ordV x v ≤ 0) ∨ (op = 15 ∧ ordV x v > 0) ∨ (op = 16 ∧ ordV x v ≥ 0)
theorem so_rel {op c : Int} (h : soB op c = true) (ho : op = 11 ∨ op = 13 ∨ op = 14 ∨ op = 15 ∨ op = 16) : (op = 11 ∧ c = 0) ∨ (op = 13 ∧ c < 0) ∨ (op = 14 ∧ c ≤ 0) ∨ (op = 15 ∧ c > 0) ∨ (op = 16 ∧ c ≥ 0) := by
  rcases ho with rfl | rfl | rfl | rfl | rfl <;> simp [soB] at h <;> omega
theorem getD_cons2 {t : Term} (h : t.kids.length = 2) : t.kids = [t.kids.getD 0 zeroTerm, t.kids.getD 1 zeroTerm] := by
  match hk : t.kids, h with
  | [a, b], _ => rfl
theorem eval_const {env : List (List Val)} {b : Term} (h : b.op = 1) : evalG scalar_Apply env b = b.v := by rw [evalG_eq, if_pos h]
theorem eval_colr {r : List Val} {a : Term} {col : Int} (h : a.op = 2) (hd : a.depth = 0) (hc : a.at_ = col) (h0 : 0 ≤ col) (h1 : col < (r.length : Int)) : evalG scalar_Apply [r] a = r.getD col.toNat zeroVal := by
  rw [evalG_eq, if_neg (by omega), if_pos h]
  unfold colV
  rw [hd, hc, if_pos ⟨by omega, by simp, h0, by simpa using h1⟩]
  rfl
theorem bnd_true {t : Term} {col op : Int} {v : Val} {r : List Val} (hb : bndT t col = some (op, v)) (h0 : 0 ≤ col) (h1 : col < (r.length : Int)) (hr : r.all rightV = true) (ht : scalar_Truth t [r] = 2) : relV op (r.getD col.toNat zeroVal) v := by
  have hv := (bndT_op hb).2
  have hx : rightV (r.getD col.toNat zeroVal) = true := List.all_eq_true.1 hr _ (by rw [List.getD_eq_getElem?_getD, List.getElem?_eq_getElem (by omega)]; exact List.getElem_mem _)
  unfold bndT at hb
  split at hb
  · rename_i hc
    simp only [Bool.and_eq_true, decide_eq_true_eq] at hc
    obtain ⟨⟨h2, h3⟩, h4⟩ := hc
    simp only [Option.some.injEq, Prod.mk.injEq] at hb
    obtain ⟨rfl, rfl⟩ := hb
    have hop : t.op = 11 ∨ t.op = 13 ∨ t.op = 14 ∨ t.op = 15 ∨ t.op = 16 := by
      unfold compB at h2; simp at h2; omega
    unfold boundsB at h4
    simp only [Bool.and_eq_true, decide_eq_true_eq] at h4
    obtain ⟨⟨⟨⟨⟨a1, a2⟩, a3⟩, a4⟩, _⟩, _⟩ := h4
    have hk := getD_cons2 h3
    have he : scalar_Eval t [r] = cmpO t.op (evalG scalar_Apply [r] (t.kids.getD 0 zeroTerm)) (evalG scalar_Apply [r] (t.kids.getD 1 zeroTerm)) := by
      show evalG scalar_Apply [r] t = _
      rw [evalG_eq, if_neg (by omega), if_neg (by omega), if_neg (by omega)]
      conv => lhs; rw [hk]
      simp only [evalGs]
      exact apply_cmp hop _ _ _
    unfold scalar_Truth at ht
    rw [he] at ht
    by_cases hs : (t.kids.getD 0 zeroTerm).op = 1
    · have e1 : (sides t).1 = t.kids.getD 1 zeroTerm := by unfold sides; rw [if_pos hs]
      have e2 : (sides t).2.1 = t.kids.getD 0 zeroTerm := by unfold sides; rw [if_pos hs]
      have e3 : (sides t).2.2 = turnedI t.op := by unfold sides; rw [if_pos hs]
      rw [e1] at a1 a2 a3
      rw [e2] at a4 hv ⊢
      rw [e3]
      rw [eval_const a4, eval_colr a1 a2 a3 h0 h1] at ht
      obtain ⟨k1, k2⟩ := truth_cmp ht
      rw [cmp_ord hv hx k1, ordV_anti] at k2
      have := so_rel k2 hop
      unfold relV turnedI
      rcases hop with e | e | e | e | e <;> rw [e] at this ⊢ <;> simp at this ⊢ <;> omega
    · have e1 : (sides t).1 = t.kids.getD 0 zeroTerm := by unfold sides; rw [if_neg hs]
      have e2 : (sides t).2.1 = t.kids.getD 1 zeroTerm := by unfold sides; rw [if_neg hs]
      have e3 : (sides t).2.2 = t.op := by unfold sides; rw [if_neg hs]
      rw [e1] at a1 a2 a3
      rw [e2] at a4 hv ⊢
      rw [e3]
      rw [eval_const a4, eval_colr a1 a2 a3 h0 h1] at ht
      obtain ⟨k1, k2⟩ := truth_cmp ht
      rw [cmp_ord hx hv k1] at k2
      exact so_rel k2 hop
  · simp at hb
theorem ordR_snoc : ∀ (k : List Val) (x v : Val), ordR (k ++ [x]) (k ++ [v]) = ordV x v
  | [], x, v => by
    simp only [List.nil_append, ordR]
    split
    · rename_i h; exact h.symm
    · rfl
  | a :: k, x, v => by
    simp only [List.cons_append, ordR]
    rw [if_pos (ordV_self a)]
    exact ordR_snoc k x v
theorem first_true {terms : List Term} {col one other : Int} {i : Nat} {op : Int} {v : Val} {r : List Val} (hf : firstT col one other terms 0 = some (i, op, v)) (h0 : 0 ≤ col) (h1 : col < (r.length : Int)) (hr : r.all rightV = true) (ht : ∀ t ∈ terms, scalar_Truth t [r] = 2) : relV op (r.getD col.toNat zeroVal) v ∧ (op = one ∨ op = other) := by
  obtain ⟨_, g1, g2, g3⟩ := firstT_spec hf
  refine ⟨bnd_true g2 h0 h1 hr (ht _ ?_), g3⟩
  rw [List.getD_eq_getElem?_getD, List.getElem?_eq_getElem (by omega)]; exact List.getElem_mem _
def keyOf (r : List Val) (cols : List Int) : List Val := cols.map fun c => r.getD c.toNat zeroVal
theorem eqs_key {terms : List Term} {r : List Val} (hr : r.all rightV = true) (ht : ∀ t ∈ terms, scalar_Truth t [r] = 2) : ∀ cols : List Int, (∀ c ∈ cols, 0 ≤ c ∧ c < (r.length : Int)) → (eqsT terms cols).1 = (keyOf r cols).take (eqsT terms cols).1.length
  | [], _ => by simp [eqsT]
  | c :: l, hc => by
    have ih := eqs_key hr ht l fun x hx => hc x (by simp [hx])
    have hcc := hc c (by simp)
    simp only [eqsT]
    split
    · rename_i i op v hf
      obtain ⟨g1, g2⟩ := first_true hf hcc.1 hcc.2 hr ht
      have hv : r.getD c.toNat zeroVal = v := by
        unfold relV at g1
        apply ordV_zero.1
        omega
      simp only [List.length_cons, keyOf, List.map_cons, List.take_succ_cons, hv]
      congr 1
    · simp
theorem take_key {r : List Val} {cols : List Int} {f : List Val} {n : Nat} (hf : f = (keyOf r cols).take n) (hn : n < cols.length) : (keyOf r cols).take (n + 1) = f ++ [r.getD (cols.getD n 0).toNat zeroVal] := by
  have e : cols.getD n 0 = cols[n] := by rw [List.getD_eq_getElem?_getD, List.getElem?_eq_getElem hn]; rfl
  rw [List.take_add_one, ← hf, e]
  congr 1
  unfold keyOf
  rw [List.getElem?_map, List.getElem?_eq_getElem hn]
  rfl
theorem end_lo {terms : List Term} {r : List Val} {cols : List Int} {f : List Val} (hr : r.all rightV = true) (ht : ∀ t ∈ terms, scalar_Truth t [r] = 2) (hc : ∀ c ∈ cols, 0 ≤ c ∧ c < (r.length : Int)) (hf : f = (keyOf r cols).take f.length) (hn : f.length < cols.length) (one other : Int) :
    (endT terms f (cols.getD f.length 0) one other).1.key = (keyOf r cols).take f.length ∧ (endT terms f (cols.getD f.length 0) one other).1.key.length = f.length ∧ (endT terms f (cols.getD f.length 0) one other).1.open_ = false ∨
    ∃ v op, (endT terms f (cols.getD f.length 0) one other).1 = ⟨true, op == one, f ++ [v]⟩ ∧ relV op (r.getD (cols.getD f.length 0).toNat zeroVal) v ∧ (op = one ∨ op = other) := by
  have hcc := hc (cols.getD f.length 0) (by rw [List.getD_eq_getElem?_getD, List.getElem?_eq_getElem hn]; exact List.getElem_mem _)
  unfold endT
  split
  · rename_i i op v hf2
    obtain ⟨g1, g2⟩ := first_true hf2 hcc.1 hcc.2 hr ht
    exact .inr ⟨v, op, rfl, g1, g2⟩
  · exact .inl ⟨hf, rfl, rfl⟩
theorem within_law {terms : List Term} {r : List Val} {cols : List Int} (hr : r.all rightV = true) (ht : ∀ t ∈ terms, scalar_Truth t [r] = 2) (hc : ∀ c ∈ cols, 0 ≤ c ∧ c < (r.length : Int)) : withinB (keyOf r cols) (spanT terms cols).lo (spanT terms cols).hi = true := by
  have hk := eqs_key hr ht cols hc
  have hl := (eqsT_len terms cols).1
  have same : ∀ b : List Val, b = (keyOf r cols).take b.length → ordR ((keyOf r cols).take b.length) b = 0 := fun b hb => ordR_zero.2 hb.symm
  unfold spanT
  by_cases hfull : (eqsT terms cols).1.length = cols.length
  · rw [if_pos hfull]
    unfold withinB
    have := same _ hk
    simp only [this]
    simp
  · rw [if_neg hfull]
    have hn : (eqsT terms cols).1.length < cols.length := by omega
    generalize hfd : (eqsT terms cols).1 = f at hk hn
    have tk := take_key hk hn
    have lo : ∀ (b : Bound), b = (endT terms f (cols.getD f.length 0) 15 16).1 → (b.is && (decide (ordR ((keyOf r cols).take b.key.length) b.key < 0) || (b.open_ && decide (ordR ((keyOf r cols).take b.key.length) b.key = 0)))) = false := by
      intro b hb
      rcases end_lo hr ht hc hk hn 15 16 with ⟨k1, k2, k3⟩ | ⟨v, op, k1, k2, k3⟩
      · rw [← hb] at k1 k2 k3
        rw [k2, ← k1, ordR_zero.2 rfl, k3]; simp
      · rw [hb, k1]
        simp only [List.length_append, List.length_singleton, tk, ordR_snoc]
        unfold relV at k2
        rcases k3 with rfl | rfl
        · have : ordV (r.getD (cols.getD f.length 0).toNat zeroVal) v > 0 := by omega
          generalize ordV (r.getD (cols.getD f.length 0).toNat zeroVal) v = q at this
          simp; omega
        · have : ordV (r.getD (cols.getD f.length 0).toNat zeroVal) v ≥ 0 := by omega
          generalize ordV (r.getD (cols.getD f.length 0).toNat zeroVal) v = q at this
          simp; omega
    have hi : ∀ (b : Bound), b = (endT terms f (cols.getD f.length 0) 13 14).1 → (!b.is || decide (ordR ((keyOf r cols).take b.key.length) b.key < 0) || (decide (ordR ((keyOf r cols).take b.key.length) b.key = 0) && !b.open_)) = true := by
      intro b hb
      rcases end_lo hr ht hc hk hn 13 14 with ⟨k1, k2, k3⟩ | ⟨v, op, k1, k2, k3⟩
      · rw [← hb] at k1 k2 k3
        rw [k2, ← k1, ordR_zero.2 rfl, k3]; simp
      · rw [hb, k1]
        simp only [List.length_append, List.length_singleton, tk, ordR_snoc]
        unfold relV at k2
        rcases k3 with rfl | rfl
        · have : ordV (r.getD (cols.getD f.length 0).toNat zeroVal) v < 0 := by omega
          generalize ordV (r.getD (cols.getD f.length 0).toNat zeroVal) v = q at this
          simp [this]
        · have : ordV (r.getD (cols.getD f.length 0).toNat zeroVal) v ≤ 0 := by omega
          generalize ordV (r.getD (cols.getD f.length 0).toNat zeroVal) v = q at this
          simp; omega
    unfold withinB
    simp only
    rw [lo _ rfl, hi _ rfl]
    rfl
theorem span_len (terms : List Term) (cols : List Int) : let s := spanT terms cols; 0 ≤ s.n ∧ s.n ≤ (cols.length : Int) ∧ (s.lo.key.length : Int) ≤ s.n ∧ (s.hi.key.length : Int) ≤ s.n ∧ (s.n > 0 → s.n - 1 ≤ (s.lo.key.length : Int) ∧ s.n - 1 ≤ (s.hi.key.length : Int) ∧ (s.lo.is = true ∨ s.hi.is = true)) ∧ (s.n = 0 → s.lo.is = false ∧ s.hi.is = false) := by
  have hl := (eqsT_len terms cols).1
  intro s
  show 0 ≤ (spanT terms cols).n ∧ _
  unfold s spanT
  by_cases hfull : (eqsT terms cols).1.length = cols.length
  · rw [if_pos hfull]
    simp only
    refine ⟨by omega, by omega, by omega, by omega, fun h => ⟨by omega, by omega, .inl (decide_eq_true (by omega))⟩, fun h => ⟨decide_eq_false (by omega), decide_eq_false (by omega)⟩⟩
  · rw [if_neg hfull]
    have hn : (eqsT terms cols).1.length < cols.length := by omega
    generalize (eqsT terms cols).1 = f at hl hn
    have he : ∀ one other, (endT terms f (cols.getD f.length 0) one other).2 = [] ∧ (endT terms f (cols.getD f.length 0) one other).1 = ⟨decide (f.length > 0), false, f⟩ ∨ (endT terms f (cols.getD f.length 0) one other).2 ≠ [] ∧ (endT terms f (cols.getD f.length 0) one other).1.key.length = f.length + 1 ∧ (endT terms f (cols.getD f.length 0) one other).1.is = true := by
      intro one other
      unfold endT
      split
      · exact .inr ⟨by simp, by simp, rfl⟩
      · exact .inl ⟨rfl, rfl⟩
    simp only
    rcases he 15 16 with ⟨a1, a2⟩ | ⟨a1, a2, a3⟩ <;> rcases he 13 14 with ⟨b1, b2⟩ | ⟨b1, b2, b3⟩
    · rw [if_pos ⟨a1, b1⟩, a2, b2]
      refine ⟨by omega, by omega, by simp, by simp, fun h => ⟨by simp only; omega, by simp only; omega, .inl (decide_eq_true (by omega))⟩, fun h => ⟨decide_eq_false (by omega), decide_eq_false (by omega)⟩⟩
    · rw [if_neg (fun e => b1 e.2), a2, b2, b3]
      refine ⟨by omega, by omega, by simp only; omega, by omega, fun h => ⟨by simp only; omega, by omega, .inr rfl⟩, fun h => by omega⟩
    · rw [if_neg (fun e => a1 e.1), b2, a2, a3]
      refine ⟨by omega, by omega, by omega, by simp only; omega, fun h => ⟨by omega, by simp only; omega, .inl rfl⟩, fun h => by omega⟩
    · rw [if_neg (fun e => a1 e.1), a2, a3, b2, b3]
      refine ⟨by omega, by omega, by omega, by omega, fun h => ⟨by omega, by omega, .inl rfl⟩, fun h => by omega⟩
end
end Go.Proofs.Ytjmpnpkcgkhagaa.B
