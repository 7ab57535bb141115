/- Part 17 of the proof: Saggspec Lordr Ljoinp. -/
import Derived.Sort.Statements
import Derived.Test.YtcmfdbjdbbpomaaDoorJnr16
namespace Go.Proofs.YtcmfdbjdbbpomaaDoor.B
open Go Go.RowKit
set_option maxRecDepth 100000
noncomputable section
attribute [local irreducible] awp ctxK itersK iterK retQ retGQ awf ctxF loopF
def nmCount : ByteArray := ⟨#[99, 111, 117, 110, 116]⟩
def nmSum : ByteArray := ⟨#[115, 117, 109]⟩
def nmMin : ByteArray := ⟨#[109, 105, 110]⟩
def nmMax : ByteArray := ⟨#[109, 97, 120]⟩
def nmRows : ByteArray := ⟨#[114, 111, 119, 115]⟩
def nmNone : ByteArray := ⟨#[]⟩
def numV (n : Int) : Val := ⟨2, n, ⟨#[]⟩⟩
open Classical in
def cntV (nm : ByteArray) (v : Val) : Bool := decide (v.kind ≠ 0) && rightV v && (decide (nm ≠ nmSum) || decide (v.kind = 2))
open Classical in
def addU (acc : List Val) (v : Val) : List Val := if v ∈ acc then acc else acc ++ [v]
def sumZ (c : List Val) : Int := (c.map (·.n)).sum
def minFrom (b : Val) (c : List Val) : Val := c.foldl (fun b v => if ordV v b < 0 then v else b) b
def maxFrom (b : Val) (c : List Val) : Val := c.foldl (fun b v => if ordV v b > 0 then v else b) b
def totV (n : Int) : Val := if inN n then numV n else zeroVal
open Classical in
def tellV (nm : ByteArray) (c : List Val) : Val :=
  if nm = nmCount ∨ nm = nmRows then numV c.length
  else if c = [] then zeroVal
  else if nm = nmSum then totV (sumZ c)
  else if nm = nmMin then minFrom (c.headD zeroVal) c
  else if nm = nmMax then maxFrom (c.headD zeroVal) c
  else zeroVal
theorem cmpI_anti (a b : Int) : cmpI b a = - cmpI a b := by unfold cmpI; split <;> split <;> (try split) <;> omega
theorem cmpL_anti : ∀ a b : List UInt8, cmpL b a = - cmpL a b
  | [], [] => rfl
  | [], _ :: _ => rfl
  | _ :: _, [] => rfl
  | a :: l, b :: r => by
    simp only [cmpL]
    by_cases h : a = b
    · subst h; simp only [if_true]; exact cmpL_anti l r
    · rw [if_neg h, if_neg (Ne.symm h)]; exact cmpI_anti _ _
theorem ordV_anti (a b : Val) : ordV b a = - ordV a b := by
  unfold ordV
  by_cases h : a.kind = b.kind
  · rw [if_pos h, if_pos h.symm]
    by_cases h2 : a.n = b.n
    · rw [if_pos h2, if_pos h2.symm]; exact cmpL_anti _ _
    · rw [if_neg h2, if_neg (Ne.symm h2)]; exact cmpI_anti _ _
  · rw [if_neg h, if_neg (Ne.symm h)]; exact cmpI_anti _ _
theorem cmpI_neg {a b : Int} : cmpI a b < 0 ↔ a < b := by unfold cmpI; split <;> (try split) <;> omega
theorem cmpL_trans : ∀ {a b c : List UInt8}, cmpL a b < 0 → cmpL b c < 0 → cmpL a c < 0
  | [], [], _, h, _ => by simp [cmpL] at h
  | [], _ :: _, [], _, h => by simp [cmpL] at h
  | [], _ :: _, _ :: _, _, _ => by simp [cmpL]
  | _ :: _, [], _, h, _ => by simp [cmpL] at h
  | _ :: _, _ :: _, [], _, h => by simp [cmpL] at h
  | a :: l, b :: r, c :: t, h1, h2 => by
    simp only [cmpL] at h1 h2 ⊢
    by_cases e1 : a = b
    · subst e1
      by_cases e2 : a = c
      · subst e2; simp only [if_true] at h1 h2 ⊢; exact cmpL_trans h1 h2
      · rw [if_neg e2] at h2 ⊢; exact h2
    · rw [if_neg e1] at h1
      by_cases e2 : b = c
      · subst e2; rw [if_neg e1]; exact h1
      · rw [if_neg e2] at h2
        rw [cmpI_neg] at h1 h2
        have : a ≠ c := by rintro rfl; omega
        rw [if_neg this, cmpI_neg]; omega
theorem ordV_trans {a b c : Val} (h1 : ordV a b < 0) (h2 : ordV b c < 0) : ordV a c < 0 := by
  unfold ordV at h1 h2 ⊢
  by_cases k1 : a.kind = b.kind
  · rw [if_pos k1] at h1
    by_cases k2 : b.kind = c.kind
    · rw [if_pos k2] at h2
      rw [if_pos (k1.trans k2)]
      by_cases n1 : a.n = b.n
      · rw [if_pos n1] at h1
        by_cases n2 : b.n = c.n
        · rw [if_pos n2] at h2; rw [if_pos (n1.trans n2)]; exact cmpL_trans h1 h2
        · rw [if_neg n2] at h2; rw [if_neg (by rw [n1]; exact n2), n1]; exact h2
      · rw [if_neg n1, cmpI_neg] at h1
        by_cases n2 : b.n = c.n
        · rw [if_neg (by rw [← n2]; exact n1), ← n2, cmpI_neg]; exact h1
        · rw [if_neg n2, cmpI_neg] at h2; rw [if_neg (by omega), cmpI_neg]; omega
    · rw [if_neg k2] at h2; rw [if_neg (by rw [k1]; exact k2), k1]; exact h2
  · rw [if_neg k1, cmpI_neg] at h1
    by_cases k2 : b.kind = c.kind
    · rw [if_neg (by rw [← k2]; exact k1), ← k2, cmpI_neg]; exact h1
    · rw [if_neg k2, cmpI_neg] at h2; rw [if_neg (by omega), cmpI_neg]; omega
theorem ordV_self (a : Val) : ordV a a = 0 := ordV_zero.2 rfl
def leV (a b : Val) : Prop := ordV a b ≤ 0
theorem leV_refl (a : Val) : leV a a := by unfold leV; rw [ordV_self]; omega
theorem leV_anti {a b : Val} (h1 : leV a b) (h2 : leV b a) : a = b := by
  unfold leV at h1 h2; rw [ordV_anti a b] at h2; exact ordV_zero.1 (by omega)
theorem leV_trans {a b c : Val} (h1 : leV a b) (h2 : leV b c) : leV a c := by
  unfold leV at *
  by_cases e1 : ordV a b = 0
  · rw [ordV_zero] at e1; subst e1; exact h2
  · by_cases e2 : ordV b c = 0
    · rw [ordV_zero] at e2; subst e2; exact h1
    · have := ordV_trans (a := a) (b := b) (c := c) (by omega) (by omega); omega
theorem minFrom_spec : ∀ (c : List Val) (b : Val), (minFrom b c = b ∨ minFrom b c ∈ c) ∧ leV (minFrom b c) b ∧ ∀ v ∈ c, leV (minFrom b c) v
  | [], b => ⟨.inl rfl, leV_refl b, by simp⟩
  | v :: c, b => by
    have ih := minFrom_spec c (if ordV v b < 0 then v else b)
    have e : minFrom b (v :: c) = minFrom (if ordV v b < 0 then v else b) c := rfl
    rw [e]
    by_cases h : ordV v b < 0
    · rw [if_pos h] at ih ⊢
      have hvb : leV v b := by unfold leV; omega
      refine ⟨.inr ?_, leV_trans ih.2.1 hvb, fun x hx => ?_⟩
      · rcases ih.1 with h1 | h1
        · rw [h1]; simp
        · exact List.mem_cons_of_mem _ h1
      · rcases List.mem_cons.1 hx with rfl | hx
        · exact ih.2.1
        · exact ih.2.2 x hx
    · rw [if_neg h] at ih ⊢
      have hbv : leV b v := by unfold leV; rw [ordV_anti v b]; omega
      refine ⟨?_, ih.2.1, fun x hx => ?_⟩
      · rcases ih.1 with h1 | h1
        · exact .inl h1
        · exact .inr (List.mem_cons_of_mem _ h1)
      · rcases List.mem_cons.1 hx with rfl | hx
        · exact leV_trans ih.2.1 hbv
        · exact ih.2.2 x hx
theorem maxFrom_spec : ∀ (c : List Val) (b : Val), (maxFrom b c = b ∨ maxFrom b c ∈ c) ∧ leV b (maxFrom b c) ∧ ∀ v ∈ c, leV v (maxFrom b c)
  | [], b => ⟨.inl rfl, leV_refl b, by simp⟩
  | v :: c, b => by
    have ih := maxFrom_spec c (if ordV v b > 0 then v else b)
    have e : maxFrom b (v :: c) = maxFrom (if ordV v b > 0 then v else b) c := rfl
    rw [e]
    by_cases h : ordV v b > 0
    · rw [if_pos h] at ih ⊢
      have hvb : leV b v := by unfold leV; rw [ordV_anti v b]; omega
      refine ⟨.inr ?_, leV_trans hvb ih.2.1, fun x hx => ?_⟩
      · rcases ih.1 with h1 | h1
        · rw [h1]; simp
        · exact List.mem_cons_of_mem _ h1
      · rcases List.mem_cons.1 hx with rfl | hx
        · exact ih.2.1
        · exact ih.2.2 x hx
    · rw [if_neg h] at ih ⊢
      have hbv : leV v b := by unfold leV; omega
      refine ⟨?_, ih.2.1, fun x hx => ?_⟩
      · rcases ih.1 with h1 | h1
        · exact .inl h1
        · exact .inr (List.mem_cons_of_mem _ h1)
      · rcases List.mem_cons.1 hx with rfl | hx
        · exact leV_trans hbv ih.2.1
        · exact ih.2.2 x hx
def IsMin (m : Val) (c : List Val) : Prop := m ∈ c ∧ ∀ v ∈ c, leV m v
def IsMax (m : Val) (c : List Val) : Prop := m ∈ c ∧ ∀ v ∈ c, leV v m
theorem IsMin.uniq {m m' : Val} {c c' : List Val} (h : IsMin m c) (h' : IsMin m' c') (hp : ∀ v, v ∈ c ↔ v ∈ c') : m = m' := leV_anti (h.2 _ ((hp _).2 h'.1)) (h'.2 _ ((hp _).1 h.1))
theorem IsMax.uniq {m m' : Val} {c c' : List Val} (h : IsMax m c) (h' : IsMax m' c') (hp : ∀ v, v ∈ c ↔ v ∈ c') : m = m' := leV_anti (h'.2 _ ((hp _).1 h.1)) (h.2 _ ((hp _).2 h'.1))
theorem isMin_from {c : List Val} (hc : c ≠ []) : IsMin (minFrom (c.headD zeroVal) c) c := by
  cases c with
  | nil => exact (hc rfl).elim
  | cons v c =>
    have h := minFrom_spec (v :: c) v
    refine ⟨?_, h.2.2⟩
    rcases h.1 with h1 | h1
    · simp only [List.headD_cons]; rw [h1]; simp
    · exact h1
theorem isMax_from {c : List Val} (hc : c ≠ []) : IsMax (maxFrom (c.headD zeroVal) c) c := by
  cases c with
  | nil => exact (hc rfl).elim
  | cons v c =>
    have h := maxFrom_spec (v :: c) v
    refine ⟨?_, h.2.2⟩
    rcases h.1 with h1 | h1
    · simp only [List.headD_cons]; rw [h1]; simp
    · exact h1
theorem sumZ_perm {c c' : List Val} (h : c.Perm c') : sumZ c = sumZ c' := by
  unfold sumZ
  induction h with
  | nil => rfl
  | cons x _ ih => simp only [List.map_cons, List.sum_cons, ih]
  | swap x y l => simp only [List.map_cons, List.sum_cons]; omega
  | trans _ _ h1 h2 => exact h1.trans h2
theorem sumZ_append (a b : List Val) : sumZ (a ++ b) = sumZ a + sumZ b := by unfold sumZ; rw [List.map_append, List.sum_append]
theorem tellV_perm {nm : ByteArray} {c c' : List Val} (h : c.Perm c') : tellV nm c = tellV nm c' := by
  unfold tellV
  rw [h.length_eq, sumZ_perm h]
  have hn : c = [] ↔ c' = [] := by rw [← List.length_eq_zero_iff, ← List.length_eq_zero_iff, h.length_eq]
  by_cases hc : c = []
  · have hc' := hn.1 hc; subst hc; subst hc'; rfl
  · have hc' : c' ≠ [] := fun e => hc (hn.2 e)
    rw [if_neg hc, if_neg hc', (isMin_from hc).uniq (isMin_from hc') (fun v => h.mem_iff), (isMax_from hc).uniq (isMax_from hc') (fun v => h.mem_iff)]
def bigM : Int := 1000000000000000
open Classical in
def countsA (nm : ByteArray) (v : Val) : Bool := decide (nm = nmRows) || cntV nm v
open Classical in
def takenA (x : Acc) (v : Val) : Acc :=
  if x.name = nmSum then ⟨x.name, x.distinct, x.n + 1, x.hi + (x.lo + v.n).tdiv bigM, (x.lo + v.n).tmod bigM, x.v, x.l⟩
  else if x.name = nmMin then ⟨x.name, x.distinct, x.n + 1, x.hi, x.lo, if x.n + 1 = 1 ∨ ordV v x.v < 0 then v else x.v, x.l⟩
  else if x.name = nmMax then ⟨x.name, x.distinct, x.n + 1, x.hi, x.lo, if x.n + 1 = 1 ∨ ordV v x.v > 0 then v else x.v, x.l⟩
  else ⟨x.name, x.distinct, x.n + 1, x.hi, x.lo, x.v, x.l⟩
def posV (l : List Val) (v : Val) : Nat := (l.takeWhile fun x => ordV x v < 0).length
open Classical in
def insV (l : List Val) (v : Val) : List Val := if v ∈ l then l else l.take (posV l v) ++ v :: l.drop (posV l v)
def stepA (x : Acc) (v : Val) : Acc :=
  if countsA x.name v = true then (if x.distinct = true then ⟨x.name, x.distinct, x.n, x.hi, x.lo, x.v, insV x.l v⟩ else takenA x v) else x
def totalA (x : Acc) : Val := if x.n = 0 ∨ x.hi < -1 ∨ x.hi > 1 then zeroVal else if inN (x.hi * bigM + x.lo) then numV (x.hi * bigM + x.lo) else zeroVal
open Classical in
def endA (x : Acc) : Val :=
  if x.name = nmCount ∨ x.name = nmRows then numV x.n else if x.name = nmSum then totalA x else if x.name = nmMin ∨ x.name = nmMax then x.v else zeroVal
def valueA (x : Acc) : Val := endA (x.l.foldl takenA x)
def Core (nm : ByteArray) (c : List Val) (x : Acc) : Prop :=
  x.name = nm ∧ x.n = c.length ∧ (nm = nmSum → x.hi * bigM + x.lo = sumZ c ∧ -bigM < x.lo ∧ x.lo < bigM) ∧ (nm ≠ nmSum → x.hi = 0 ∧ x.lo = 0) ∧
  (nm = nmMin → if c = [] then x.v = zeroVal else IsMin x.v c) ∧ (nm = nmMax → if c = [] then x.v = zeroVal else IsMax x.v c) ∧ (nm ≠ nmMin → nm ≠ nmMax → x.v = zeroVal)
def Rep (nm : ByteArray) (d : Bool) (c : List Val) (x : Acc) : Prop :=
  x.distinct = d ∧ (d = false → Core nm c x ∧ x.l = []) ∧ (d = true → Core nm [] x ∧ x.l.Pairwise (fun a b => ordV a b < 0) ∧ ∀ v, v ∈ x.l ↔ v ∈ c)
theorem rightV_int {v : Val} (h : rightV v = true) (hk : v.kind = 2) : -bigM ≤ v.n ∧ v.n ≤ bigM := by
  unfold rightV at h
  rw [hk] at h
  simp [inN] at h
  unfold bigM; omega
theorem cntV_sum {v : Val} (h : cntV nmSum v = true) : -bigM ≤ v.n ∧ v.n ≤ bigM := by
  unfold cntV at h
  simp only [Bool.and_eq_true, Bool.or_eq_true, decide_eq_true_eq, ne_eq, not_true_eq_false, false_or] at h
  exact rightV_int h.1.2 h.2
theorem nm_ne : nmCount ≠ nmSum ∧ nmCount ≠ nmMin ∧ nmCount ≠ nmMax ∧ nmCount ≠ nmRows ∧ nmSum ≠ nmMin ∧ nmSum ≠ nmMax ∧ nmSum ≠ nmRows ∧ nmMin ≠ nmMax ∧ nmMin ≠ nmRows ∧ nmMax ≠ nmRows ∧ nmNone ≠ nmCount ∧ nmNone ≠ nmSum ∧ nmNone ≠ nmMin ∧ nmNone ≠ nmMax ∧ nmNone ≠ nmRows := by
  simp [nmCount, nmSum, nmMin, nmMax, nmRows, nmNone]
theorem div_mod_big {n : Int} : n.tdiv bigM * bigM + n.tmod bigM = n := by rw [Int.mul_comm]; exact Int.mul_tdiv_add_tmod n bigM
theorem tmod_big (n : Int) : -bigM < n.tmod bigM ∧ n.tmod bigM < bigM := by
  have hb : (0 : Int) < bigM := by decide
  refine ⟨?_, Int.tmod_lt_of_pos n hb⟩
  have := Int.tmod_lt_of_pos (-n) hb
  rw [Int.neg_tmod] at this; omega
theorem Core.taken {nm : ByteArray} {c : List Val} {x : Acc} (h : Core nm c x) {v : Val} (hv : nm = nmSum → -bigM ≤ v.n ∧ v.n ≤ bigM) : Core nm (c ++ [v]) (takenA x v) := by
  obtain ⟨n1, n2, n3, n4, n5, n6, n7, n8, n9, n10, n11⟩ := nm_ne
  obtain ⟨h1, h2, h3, h4, h5, h6, h7⟩ := h
  have hlen : x.n + 1 = ((c ++ [v]).length : Int) := by rw [h2]; simp
  have hne : c ++ [v] ≠ [] := by simp
  unfold takenA
  by_cases hs : x.name = nmSum
  · rw [if_pos hs]
    have hs' : nm = nmSum := h1.symm.trans hs
    obtain ⟨a1, a2, a3⟩ := h3 hs'
    have hv' := hv hs'
    have hd := div_mod_big (n := x.lo + v.n)
    have hm := tmod_big (x.lo + v.n)
    refine ⟨h1, hlen, fun _ => ⟨?_, hm.1, hm.2⟩, fun e => (e hs').elim, fun e => ?_, fun e => ?_, fun e1 e2 => h7 e1 e2⟩
    · rw [sumZ_append, ← a1]
      have : sumZ [v] = v.n := by simp [sumZ]
      rw [this]
      show (x.hi + (x.lo + v.n).tdiv bigM) * bigM + (x.lo + v.n).tmod bigM = _
      rw [Int.add_mul]; omega
    · rw [hs'] at e; exact (n5 e).elim
    · rw [hs'] at e; exact (n6 e).elim
  · rw [if_neg hs]
    have hs' : nm ≠ nmSum := fun e => hs (h1.trans e)
    by_cases hm : x.name = nmMin
    · rw [if_pos hm]
      have hm' : nm = nmMin := h1.symm.trans hm
      refine ⟨h1, hlen, fun e => (hs' e).elim, fun _ => h4 hs', fun _ => ?_, fun e => by rw [hm'] at e; exact (n8 e).elim, fun e => (e hm').elim⟩
      rw [if_neg hne]
      have h5' := h5 hm'
      show IsMin (if x.n + 1 = 1 ∨ ordV v x.v < 0 then v else x.v) (c ++ [v])
      by_cases hc : c = []
      · subst hc
        rw [if_pos (.inl (by rw [h2]; rfl))]
        exact ⟨by simp, by simp [leV_refl]⟩
      · rw [if_neg hc] at h5'
        have hl : (0 : Int) < c.length := by have := List.length_pos_iff.2 hc; omega
        by_cases ho : ordV v x.v < 0
        · rw [if_pos (.inr ho)]
          refine ⟨by simp, fun u hu => ?_⟩
          rcases List.mem_append.1 hu with hu | hu
          · exact leV_trans (by unfold leV; omega) (h5'.2 u hu)
          · simp at hu; subst hu; exact leV_refl _
        · rw [if_neg (by rintro (e | e); · omega
                         · exact ho e)]
          refine ⟨List.mem_append_left _ h5'.1, fun u hu => ?_⟩
          rcases List.mem_append.1 hu with hu | hu
          · exact h5'.2 u hu
          · simp at hu; subst hu; unfold leV; rw [ordV_anti u x.v]; omega
    · rw [if_neg hm]
      have hm' : nm ≠ nmMin := fun e => hm (h1.trans e)
      by_cases hx : x.name = nmMax
      · rw [if_pos hx]
        have hx' : nm = nmMax := h1.symm.trans hx
        refine ⟨h1, hlen, fun e => (hs' e).elim, fun _ => h4 hs', fun e => (hm' e).elim, fun _ => ?_, fun _ e => (e hx').elim⟩
        rw [if_neg hne]
        have h6' := h6 hx'
        show IsMax (if x.n + 1 = 1 ∨ ordV v x.v > 0 then v else x.v) (c ++ [v])
        by_cases hc : c = []
        · subst hc
          rw [if_pos (.inl (by rw [h2]; rfl))]
          exact ⟨by simp, by simp [leV_refl]⟩
        · rw [if_neg hc] at h6'
          have hl : (0 : Int) < c.length := by have := List.length_pos_iff.2 hc; omega
          by_cases ho : ordV v x.v > 0
          · rw [if_pos (.inr ho)]
            refine ⟨by simp, fun u hu => ?_⟩
            rcases List.mem_append.1 hu with hu | hu
            · exact leV_trans (h6'.2 u hu) (by unfold leV; rw [ordV_anti v x.v]; omega)
            · simp at hu; subst hu; exact leV_refl _
          · rw [if_neg (by rintro (e | e); · omega
                           · exact ho e)]
            refine ⟨List.mem_append_left _ h6'.1, fun u hu => ?_⟩
            rcases List.mem_append.1 hu with hu | hu
            · exact h6'.2 u hu
            · simp at hu; subst hu; unfold leV; omega
      · rw [if_neg hx]
        have hx' : nm ≠ nmMax := fun e => hx (h1.trans e)
        exact ⟨h1, hlen, fun e => (hs' e).elim, fun _ => h4 hs', fun e => (hm' e).elim, fun e => (hx' e).elim, fun _ _ => h7 hm' hx'⟩
theorem taken_keeps (x : Acc) (v : Val) : (takenA x v).l = x.l ∧ (takenA x v).distinct = x.distinct ∧ (takenA x v).name = x.name := by
  unfold takenA; repeat' split
  all_goals exact ⟨rfl, rfl, rfl⟩
theorem Core.folded {nm : ByteArray} : ∀ (l : List Val) {c : List Val} {x : Acc}, Core nm c x → (nm = nmSum → ∀ v ∈ l, -bigM ≤ v.n ∧ v.n ≤ bigM) → Core nm (c ++ l) (l.foldl takenA x)
  | [], c, x, h, _ => by simpa using h
  | v :: l, c, x, h, hv => by
    have h1 := h.taken (v := v) (fun e => hv e v (by simp))
    have := Core.folded l h1 (fun e u hu => hv e u (by simp [hu]))
    simpa using this
theorem Core.end_ {nm : ByteArray} {c : List Val} {x : Acc} (h : Core nm c x) : endA x = tellV nm c := by
  obtain ⟨n1, n2, n3, n4, n5, n6, n7, n8, n9, n10, n11⟩ := nm_ne
  obtain ⟨h1, h2, h3, h4, h5, h6, h7⟩ := h
  unfold endA tellV
  rw [h1]
  by_cases hc : nm = nmCount ∨ nm = nmRows
  · rw [if_pos hc, if_pos hc, h2]
  · rw [if_neg hc, if_neg hc]
    by_cases hs : nm = nmSum
    · rw [if_pos hs]
      obtain ⟨a1, a2, a3⟩ := h3 hs
      unfold totalA totV
      by_cases he : c = []
      · rw [if_pos he, if_pos (.inl (by rw [h2, he]; rfl))]
      · rw [if_neg he, if_pos hs]
        have hl : (0 : Int) < c.length := by have := List.length_pos_iff.2 he; omega
        rw [a1]
        by_cases hb : x.hi < -1 ∨ x.hi > 1
        · rw [if_pos (.inr hb)]
          have : inN (sumZ c) = false := by
            unfold inN; rw [decide_eq_false_iff_not]
            have hbm : bigM = 1000000000000000 := rfl
            rw [hbm] at a1 a2 a3
            rcases hb with hb | hb <;> omega
          rw [this]; rfl
        · rw [if_neg (by rintro (e | e); · omega
                         · exact hb e)]
    · rw [if_neg hs]
      by_cases hm : nm = nmMin
      · rw [if_pos (.inl hm)]
        have h5' := h5 hm
        by_cases he : c = []
        · rw [if_pos he] at h5' ⊢; exact h5'
        · rw [if_neg he] at h5' ⊢
          rw [if_neg hs, if_pos hm]
          exact h5'.uniq (isMin_from he) (fun _ => Iff.rfl)
      · by_cases hx : nm = nmMax
        · rw [if_pos (.inr hx)]
          have h6' := h6 hx
          by_cases he : c = []
          · rw [if_pos he] at h6' ⊢; exact h6'
          · rw [if_neg he] at h6' ⊢
            rw [if_neg hs, if_neg hm, if_pos hx]
            exact h6'.uniq (isMax_from he) (fun _ => Iff.rfl)
        · rw [if_neg (by rintro (e | e); exact hm e; exact hx e)]
          by_cases he : c = []
          · rw [if_pos he]
          · rw [if_neg he, if_neg hs, if_neg hm, if_neg hx]
theorem sorted_nodup {l : List Val} (h : l.Pairwise fun a b => ordV a b < 0) : l.Nodup := h.imp fun {a b} hab e => by subst e; rw [ordV_self] at hab; omega
theorem insV_mem (l : List Val) (v u : Val) : u ∈ insV l v ↔ u ∈ l ∨ u = v := by
  unfold insV
  split
  · rename_i h; constructor
    · exact .inl
    · rintro (h1 | rfl); exact h1; exact h
  · rw [List.mem_append, List.mem_cons]
    have : u ∈ l ↔ u ∈ l.take (posV l v) ∨ u ∈ l.drop (posV l v) := by rw [← List.mem_append, List.take_append_drop]
    rw [this]
    constructor
    · rintro (h | h | h); exact .inl (.inl h); exact .inr h; exact .inl (.inr h)
    · rintro ((h | h) | h); exact .inl h; exact .inr (.inr h); exact .inr (.inl h)
theorem takeWhile_all {p : Val → Bool} : ∀ (l : List Val), ∀ u ∈ l.takeWhile p, p u = true
  | [], u, h => by simp at h
  | a :: l, u, h => by
    rw [List.takeWhile_cons] at h
    split at h
    · rename_i hp
      rcases List.mem_cons.1 h with rfl | h
      · exact hp
      · exact takeWhile_all l u h
    · simp at h
theorem dropWhile_head {p : Val → Bool} : ∀ (l : List Val) {y : Val} {r : List Val}, l.dropWhile p = y :: r → p y = false
  | [], y, r, h => by simp at h
  | a :: l, y, r, h => by
    rw [List.dropWhile_cons] at h
    split at h
    · exact dropWhile_head l h
    · rename_i hp
      simp at h
      rw [← h.1]; simpa using hp
theorem posV_below {l : List Val} {v : Val} : ∀ u ∈ l.take (posV l v), ordV u v < 0 := by
  intro u hu
  have e : l.take (posV l v) = l.takeWhile fun x => ordV x v < 0 := by
    unfold posV
    conv => lhs; arg 2; rw [← List.takeWhile_append_dropWhile (p := fun x => decide (ordV x v < 0)) (l := l)]
    rw [List.take_left]
  rw [e] at hu
  have := takeWhile_all l u hu
  simpa using this
theorem posV_above {l : List Val} (h : l.Pairwise fun a b => ordV a b < 0) {v : Val} : ∀ u ∈ l.drop (posV l v), ¬ ordV u v < 0 := by
  have e : l.drop (posV l v) = l.dropWhile fun x => ordV x v < 0 := by
    unfold posV
    conv => lhs; arg 2; rw [← List.takeWhile_append_dropWhile (p := fun x => decide (ordV x v < 0)) (l := l)]
    rw [List.drop_left]
  rw [e]
  intro u hu hlt
  have hp : (l.dropWhile fun x => ordV x v < 0).Pairwise fun a b => ordV a b < 0 := h.sublist (List.dropWhile_sublist _)
  cases hd : l.dropWhile fun x => ordV x v < 0 with
  | nil => rw [hd] at hu; simp at hu
  | cons y r =>
    have hy : ¬ ordV y v < 0 := by
      have := dropWhile_head l hd
      simpa using this
    rw [hd] at hu hp
    rcases List.mem_cons.1 hu with rfl | hu
    · exact hy hlt
    · have := (List.pairwise_cons.1 hp).1 u hu
      exact hy (ordV_trans this hlt)
theorem insV_sorted {l : List Val} (h : l.Pairwise fun a b => ordV a b < 0) (v : Val) : (insV l v).Pairwise fun a b => ordV a b < 0 := by
  unfold insV
  split
  · exact h
  · rename_i hn
    have hs : ∀ u ∈ l.drop (posV l v), ordV v u < 0 := fun u hu => by
      have h1 := posV_above h u hu
      have h2 : ordV u v ≠ 0 := fun e => hn (by rw [ordV_zero] at e; subst e; exact List.mem_of_mem_drop hu)
      rw [ordV_anti u v]; omega
    rw [List.pairwise_append]
    refine ⟨h.sublist (List.take_sublist _ _), List.pairwise_cons.2 ⟨hs, h.sublist (List.drop_sublist _ _)⟩, fun a ha b hb => ?_⟩
    rcases List.mem_cons.1 hb with rfl | hb
    · exact posV_below a ha
    · exact ordV_trans (posV_below a ha) (hs b hb)
open Classical in
theorem addU_mem (c : List Val) (acc : List Val) (u : Val) : u ∈ c.foldl addU acc ↔ u ∈ acc ∨ u ∈ c := by
  induction c generalizing acc with
  | nil => simp
  | cons v c ih =>
    rw [List.foldl_cons, ih]
    have : u ∈ addU acc v ↔ u ∈ acc ∨ u = v := by
      unfold addU
      split
      · rename_i h; constructor
        · exact .inl
        · rintro (h1 | rfl); exact h1; exact h
      · simp
    rw [this]; simp only [List.mem_cons]
    constructor
    · rintro ((h | h) | h); exact .inl h; exact .inr (.inl h); exact .inr (.inr h)
    · rintro (h | h | h); exact .inl (.inl h); exact .inl (.inr h); exact .inr h
theorem addU_nodup (c : List Val) : ∀ {acc : List Val}, acc.Nodup → (c.foldl addU acc).Nodup := by
  induction c with
  | nil => intro acc h; exact h
  | cons v c ih =>
    intro acc h
    rw [List.foldl_cons]
    refine ih ?_
    unfold addU
    split
    · exact h
    · rename_i hn
      rw [List.nodup_append]
      exact ⟨h, by simp, fun a ha b hb e => by simp at hb; subst hb; subst e; exact hn ha⟩
def dedupV (c : List Val) : List Val := c.foldl addU []
theorem dedupV_mem (c : List Val) (u : Val) : u ∈ dedupV c ↔ u ∈ c := by unfold dedupV; rw [addU_mem]; simp
theorem dedupV_nodup (c : List Val) : (dedupV c).Nodup := addU_nodup c List.nodup_nil
theorem perm_same {a b : List Val} (ha : a.Nodup) (hb : b.Nodup) (h : ∀ v, v ∈ a ↔ v ∈ b) : a.Perm b := (List.perm_ext_iff_of_nodup ha hb).2 h
theorem sumZ_bound {c : List Val} (h : ∀ v ∈ c, -bigM ≤ v.n ∧ v.n ≤ bigM) : -((c.length : Int) * bigM) ≤ sumZ c ∧ sumZ c ≤ c.length * bigM := by
  induction c with
  | nil => simp [sumZ]
  | cons v c ih =>
    have h1 := ih fun u hu => h u (by simp [hu])
    have h2 := h v (by simp)
    have e : sumZ (v :: c) = v.n + sumZ c := by simp [sumZ]
    rw [e]
    simp only [List.length_cons, Int.natCast_add, Int.add_mul]
    omega
theorem Core.hi {nm : ByteArray} {c : List Val} {x : Acc} (h : Core nm c x) (hb : nm = nmSum → ∀ v ∈ c, -bigM ≤ v.n ∧ v.n ≤ bigM) : -(c.length : Int) ≤ x.hi ∧ x.hi ≤ c.length := by
  by_cases hs : nm = nmSum
  · obtain ⟨a1, a2, a3⟩ := h.2.2.1 hs
    have := sumZ_bound (hb hs)
    unfold bigM at *
    omega
  · have := (h.2.2.2.1 hs).1; omega
theorem Core.lo {nm : ByteArray} {c : List Val} {x : Acc} (h : Core nm c x) : -bigM < x.lo ∧ x.lo < bigM := by
  by_cases hs : nm = nmSum
  · exact (h.2.2.1 hs).2
  · have := (h.2.2.2.1 hs).2; unfold bigM; omega
theorem counts_sum {nm : ByteArray} {v : Val} (h : countsA nm v = true) (hs : nm = nmSum) : -bigM ≤ v.n ∧ v.n ≤ bigM := by
  subst hs
  unfold countsA at h
  simp only [Bool.or_eq_true, decide_eq_true_eq] at h
  rcases h with h | h
  · exact (nm_ne.2.2.2.2.2.2.1 h).elim
  · exact cntV_sum h
theorem Rep.name {nm : ByteArray} {d : Bool} {c : List Val} {x : Acc} (h : Rep nm d c x) : x.name = nm := by
  cases d with
  | true => exact (h.2.2 rfl).1.1
  | false => exact (h.2.1 rfl).1.1
theorem Rep.step {nm : ByteArray} {d : Bool} {c : List Val} {x : Acc} (h : Rep nm d c x) (v : Val) : Rep nm d (c ++ [v].filter (countsA nm)) (stepA x v) := by
  unfold stepA
  rw [h.name]
  by_cases hc : countsA nm v = true
  · rw [if_pos hc]
    have hf : [v].filter (countsA nm) = [v] := by simp [hc]
    rw [hf]
    cases d with
    | true =>
      obtain ⟨h1, h2, h3⟩ := h.2.2 rfl
      rw [if_pos h.1]
      refine ⟨h.1, fun e => by simp at e, fun _ => ⟨?_, insV_sorted h2 v, fun u => ?_⟩⟩
      · obtain ⟨i1, i2, i3, i4, i5, i6, i7⟩ := h1
        exact ⟨rfl, i2, i3, i4, i5, i6, i7⟩
      · rw [insV_mem, h3, List.mem_append]; simp
    | false =>
      obtain ⟨h1, h2⟩ := h.2.1 rfl
      rw [if_neg (by rw [h.1]; simp)]
      have hk := taken_keeps x v
      exact ⟨hk.2.1.trans h.1, fun _ => ⟨h1.taken (counts_sum hc), hk.1.trans h2⟩, fun e => by simp at e⟩
  · rw [if_neg hc]
    have hf : [v].filter (countsA nm) = [] := by simp [hc]
    rw [hf, List.append_nil]; exact h
theorem Rep.value {nm : ByteArray} {d : Bool} {c : List Val} {x : Acc} (h : Rep nm d c x) (hc : ∀ v ∈ c, countsA nm v = true) : valueA x = tellV nm (if d = true then dedupV c else c) := by
  unfold valueA
  cases d with
  | false =>
    obtain ⟨h1, h2⟩ := h.2.1 rfl
    rw [h2, if_neg (by simp)]; exact h1.end_
  | true =>
    obtain ⟨h1, h2, h3⟩ := h.2.2 rfl
    rw [if_pos rfl]
    have h4 := Core.folded x.l h1 (fun e v hv => counts_sum (hc v ((h3 v).1 hv)) e)
    rw [List.nil_append] at h4
    rw [h4.end_]
    exact tellV_perm (perm_same (sorted_nodup h2) (dedupV_nodup c) fun v => by rw [h3, dedupV_mem])
end
end Go.Proofs.YtcmfdbjdbbpomaaDoor.B
namespace Go.Proofs.YtcmfdbjdbbpomaaDoor.B
open Go Go.RowKit
set_option linter.unusedVariables false
theorem ordR_anti : ∀ a b : List Val, ordR b a = - ordR a b
  | [], [] => rfl
  | [], _ :: _ => rfl
  | _ :: _, [] => rfl
  | a :: l, b :: r => by
    simp only [ordR]
    have h := ordV_anti a b
    by_cases e : ordV a b = 0
    · rw [if_pos e, if_pos (by omega)]; exact ordR_anti l r
    · rw [if_neg e, if_neg (by omega)]; exact h
theorem ordR_trans : ∀ {a b c : List Val}, ordR a b < 0 → ordR b c < 0 → ordR a c < 0
  | [], [], _, h, _ => by simp [ordR] at h
  | [], _ :: _, [], _, h => by simp [ordR] at h
  | [], _ :: _, _ :: _, _, _ => by simp [ordR]
  | _ :: _, [], _, h, _ => by simp [ordR] at h
  | _ :: _, _ :: _, [], _, h => by simp [ordR] at h
  | a :: l, b :: r, c :: t, h1, h2 => by
    simp only [ordR] at h1 h2 ⊢
    by_cases e1 : ordV a b = 0
    · rw [if_pos e1] at h1
      rw [ordV_zero] at e1; subst e1
      by_cases e2 : ordV a c = 0
      · rw [if_pos e2] at h2 ⊢; exact ordR_trans h1 h2
      · rw [if_neg e2] at h2 ⊢; exact h2
    · rw [if_neg e1] at h1
      by_cases e2 : ordV b c = 0
      · rw [ordV_zero] at e2; subst e2
        rw [if_neg e1]; exact h1
      · rw [if_neg e2] at h2
        have := ordV_trans h1 h2
        rw [if_neg (by omega)]; exact this
end Go.Proofs.YtcmfdbjdbbpomaaDoor.B
namespace Go.Proofs.YtcmfdbjdbbpomaaDoor.B
open Go Go.RowKit
set_option linter.unusedVariables false
noncomputable section
theorem cmpInt_neg {a b : Int} : Lib.compareInt a b < 0 ↔ a < b := by unfold Lib.compareInt; split <;> (try split) <;> omega
theorem or2_neg {z c : Int} : orI [z, c] < 0 ↔ z < 0 ∨ (z = 0 ∧ c < 0) := by
  simp only [orI]
  split
  · split <;> omega
  · omega
theorem uni_of {β : Type} {p : β → β → Int} (irr : ∀ x, ¬ p x x < 0) (tr : ∀ x y z, p x y < 0 → p y z < 0 → p x z < 0) (eq : ∀ x y, ¬ p x y < 0 → ¬ p y x < 0 → x = y) (l : List β) : uniQ p l where
  irr := fun x _ => irr x
  tr := fun x _ y _ z _ => tr x y z
  ntr := fun x _ y _ z _ h1 h2 h3 => by
    by_cases h : p y x < 0
    · exact h2 (tr _ _ _ h h3)
    · obtain rfl := eq x y h1 h
      exact h2 h3
  eq := fun x _ y _ => eq x y
theorem rkC_neg {l : List (List Val)} {a b : Int} : rkC l a b < 0 ↔ ordR (jAt l a) (jAt l b) < 0 ∨ (jAt l a = jAt l b ∧ a < b) := by
  unfold rkC
  rw [or2_neg, cmpInt_neg, ordR_zero]
  exact Iff.rfl
theorem ordR_lt_irr (a : List Val) : ¬ ordR a a < 0 := by rw [ordR_zero.2 rfl]; omega
theorem rk_irr (l : List (List Val)) (x : Int) : ¬ rkC l x x < 0 := by
  rw [rkC_neg]
  rintro (h | ⟨_, h⟩)
  · exact ordR_lt_irr _ h
  · omega
theorem rk_tr (l : List (List Val)) (x y z : Int) (h1 : rkC l x y < 0) (h2 : rkC l y z < 0) : rkC l x z < 0 := by
  rw [rkC_neg] at *
  rcases h1 with h1 | ⟨h1, g1⟩ <;> rcases h2 with h2 | ⟨h2, g2⟩
  · exact .inl (ordR_trans h1 h2)
  · rw [← h2]; exact .inl h1
  · rw [h1]; exact .inl h2
  · exact .inr ⟨h1.trans h2, by omega⟩
theorem rk_eq (l : List (List Val)) (x y : Int) (h1 : ¬ rkC l x y < 0) (h2 : ¬ rkC l y x < 0) : x = y := by
  rw [rkC_neg] at *
  have ha := ordR_anti (jAt l x) (jAt l y)
  have e : ordR (jAt l x) (jAt l y) = 0 := by
    have g1 : ¬ ordR (jAt l x) (jAt l y) < 0 := fun h => h1 (.inl h)
    have g2 : ¬ ordR (jAt l y) (jAt l x) < 0 := fun h => h2 (.inl h)
    omega
  rw [ordR_zero] at e
  have g1 : ¬ x < y := fun h => h1 (.inr ⟨e, h⟩)
  have g2 : ¬ y < x := fun h => h2 (.inr ⟨e.symm, h⟩)
  omega
theorem rk_uni (l : List (List Val)) (xs : List Int) : uniQ (rkC l) xs := uni_of (rk_irr l) (rk_tr l) (rk_eq l) xs
theorem prC_neg {x y : Int × Int} : prC x y < 0 ↔ x.1 < y.1 ∨ (x.1 = y.1 ∧ x.2 < y.2) := by
  unfold prC
  rw [or2_neg, cmpInt_neg, cmpInt_neg]
  have : Lib.compareInt x.1 y.1 = 0 ↔ x.1 = y.1 := by unfold Lib.compareInt; split <;> (try split) <;> omega
  rw [this]
theorem pr_uni (xs : List (Int × Int)) : uniQ prC xs := by
  refine uni_of (fun x => ?_) (fun x y z h1 h2 => ?_) (fun x y h1 h2 => ?_) xs
  · rw [prC_neg]; omega
  · rw [prC_neg] at *; omega
  · rw [prC_neg] at *
    obtain ⟨a, b⟩ := x
    obtain ⟨c, d⟩ := y
    simp only at h1 h2
    have e1 : a = c := by omega
    have e2 : b = d := by omega
    rw [e1, e2]
theorem perm_srtQ {α : Type} {le : α → α → Prop} : ∀ {l r : List α}, l.Perm r → l.Pairwise le → r.Pairwise le → (∀ a b, le a b → le b a → a = b) → l = r
  | [], r, hp, _, _, _ => (List.nil_perm.1 hp).symm
  | a :: l, [], hp, _, _, _ => by have := hp.length_eq; simp at this
  | a :: l, b :: r, hp, h1, h2, h3 => by
    obtain ⟨a1, a2⟩ := List.pairwise_cons.1 h1
    obtain ⟨b1, b2⟩ := List.pairwise_cons.1 h2
    have e : a = b := by
      have ha : a ∈ b :: r := hp.subset List.mem_cons_self
      have hb : b ∈ a :: l := hp.symm.subset List.mem_cons_self
      rcases List.mem_cons.1 ha with e | ha
      · exact e
      · rcases List.mem_cons.1 hb with e | hb
        · exact e.symm
        · exact h3 a b (a1 b hb) (b1 a ha)
    subst e
    rw [perm_srtQ (List.perm_cons a |>.1 hp) a2 b2 h3]
theorem sortQ_srt {β : Type} {p : β → β → Int} (tr : ∀ x y z, ¬ p y x < 0 → ¬ p z y < 0 → ¬ p z x < 0) (to : ∀ x y, ¬ p x y < 0 ∨ ¬ p y x < 0) (l : List β) : (sortQ p l).Pairwise fun a b => ¬ p b a < 0 := by
  have := List.pairwise_mergeSort (le := fun a b => !decide (p b a < 0)) (fun a b c h1 h2 => by
    simp only [Bool.not_eq_true', decide_eq_false_iff_not] at *
    exact tr a b c h1 h2) (fun a b => by
    rcases to a b with h | h <;> simp [h]) l
  refine this.imp fun {a b} h => ?_
  simpa using h
theorem rk_srt (l : List (List Val)) (xs : List Int) : (sortQ (rkC l) xs).Pairwise fun a b => ¬ rkC l b a < 0 :=
  sortQ_srt (fun x y z h1 h2 => (rk_uni l [x, y, z]).ntr z (by simp) y (by simp) x (by simp) h2 h1) (fun x y => by
    by_cases h : rkC l x y < 0
    · exact .inr fun h2 => rk_irr l x (rk_tr l x y x h h2)
    · exact .inl h) xs
theorem pr_srt (xs : List (Int × Int)) : (sortQ prC xs).Pairwise fun a b => ¬ prC b a < 0 :=
  sortQ_srt (fun x y z h1 h2 => (pr_uni [x, y, z]).ntr z (by simp) y (by simp) x (by simp) h2 h1) (fun x y => by rw [prC_neg, prC_neg]; omega) xs
def rkList (l : List (List Val)) : List Int := ((List.range l.length).filter fun i : Nat => wholeR (l.getD i [])).map fun i : Nat => (i : Int)
def joiner_ranked (l : List (List Val)) : List Int := sortQ (rkC l) (rkList l)
theorem rkList_len (l : List (List Val)) : (rkList l).length ≤ l.length := by
  unfold rkList
  rw [List.length_map]
  exact Nat.le_trans (List.length_filter_le _ _) (by rw [List.length_range]; exact Nat.le_refl _)
theorem rkList_in (l : List (List Val)) : jIn l (rkList l) := fun p hp => by
  unfold rkList at hp
  obtain ⟨i, hi, rfl⟩ := List.mem_map.1 hp
  have := (List.mem_filter.1 hi).1
  rw [List.mem_range] at this
  omega
theorem rank_perm (l : List (List Val)) : (joiner_ranked l).Perm (rkList l) := sortQ_perm _ _
theorem rank_in (l : List (List Val)) : jIn l (joiner_ranked l) := fun p hp => rkList_in l p ((rank_perm l).subset hp)
theorem rank_len (l : List (List Val)) : (joiner_ranked l).length ≤ l.length := by rw [(rank_perm l).length_eq]; exact rkList_len l
theorem ordR_lt_le {a b c : List Val} (h1 : ordR a b < 0) (h2 : ordR b c ≤ 0) : ordR a c < 0 := by
  by_cases e : ordR b c = 0
  · rw [ordR_zero] at e; rw [← e]; exact h1
  · exact ordR_trans h1 (by omega)
theorem rank_le (l : List (List Val)) {s t : Nat} (hst : s ≤ t) (ht : t < (joiner_ranked l).length) : ordR (jAt l ((joiner_ranked l).getD s 0)) (jAt l ((joiner_ranked l).getD t 0)) ≤ 0 := by
  by_cases e : s = t
  · subst e; rw [ordR_zero.2 rfl]; omega
  · have := List.pairwise_iff_getElem.1 (rk_srt l (rkList l)) s t (by show s < (joiner_ranked l).length; omega) ht (by omega)
    rw [rkC_neg] at this
    have hs : s < (joiner_ranked l).length := by omega
    rw [List.getD_eq_getElem?_getD, List.getElem?_eq_getElem hs, List.getD_eq_getElem?_getD, List.getElem?_eq_getElem ht]
    have h1 : ¬ ordR (jAt l ((joiner_ranked l)[t])) (jAt l ((joiner_ranked l)[s])) < 0 := fun h => this (.inl h)
    have h2 := ordR_anti (jAt l ((joiner_ranked l)[t])) (jAt l ((joiner_ranked l)[s]))
    show ordR (jAt l ((joiner_ranked l)[s])) (jAt l ((joiner_ranked l)[t])) ≤ 0
    omega
theorem run_facts (l : List (List Val)) {i : Nat} (hi : i < (joiner_ranked l).length) : 1 ≤ runN l (joiner_ranked l) i ∧ i + runN l (joiner_ranked l) i ≤ (joiner_ranked l).length ∧
    (∀ t, i ≤ t → t < i + runN l (joiner_ranked l) i → jAt l ((joiner_ranked l).getD t 0) = jAt l ((joiner_ranked l).getD i 0)) ∧
    ∀ t, i + runN l (joiner_ranked l) i ≤ t → t < (joiner_ranked l).length → ordR (jAt l ((joiner_ranked l).getD i 0)) (jAt l ((joiner_ranked l).getD t 0)) < 0 := by
  have hle := fun s t => rank_le l (s := s) (t := t)
  generalize joiner_ranked l = A at hi hle ⊢
  obtain ⟨n, hn⟩ : ∃ n, n = ((A.drop (i + 1)).takeWhile fun p => decide (jAt l (A.getD i 0) = jAt l p)).length := ⟨_, rfl⟩
  have hr : runN l A i = 1 + n := by rw [hn]; rfl
  have hpre : ((A.drop (i + 1)).takeWhile fun p => decide (jAt l (A.getD i 0) = jAt l p)) <+: A.drop (i + 1) := List.takeWhile_prefix _
  have hnl : n ≤ A.length - (i + 1) := by
    have := hpre.length_le
    rw [← hn, List.length_drop] at this
    exact this
  have hin : ∀ t, t < n → jAt l (A.getD i 0) = jAt l (A.getD (i + 1 + t) 0) := fun t ht => by
    have h1 := List.all_takeWhile (p := fun p => decide (jAt l (A.getD i 0) = jAt l p)) (l := A.drop (i + 1))
    have ht2 : t < ((A.drop (i + 1)).takeWhile fun p => decide (jAt l (A.getD i 0) = jAt l p)).length := by rw [← hn]; exact ht
    have h2 := List.all_eq_true.1 h1 _ (List.getElem_mem ht2)
    have h3 := hpre.getElem ht2
    rw [h3, decide_eq_true_eq, List.getElem_drop] at h2
    rw [List.getD_eq_getElem?_getD (i := i + 1 + t), List.getElem?_eq_getElem (by omega)]
    exact h2
  have hout : i + 1 + n < A.length → jAt l (A.getD i 0) ≠ jAt l (A.getD (i + 1 + n) 0) := fun h e => by
    have hd : (A.drop (i + 1)).dropWhile (fun p => decide (jAt l (A.getD i 0) = jAt l p)) = A.drop (i + 1 + n) := by
      have e1 := List.takeWhile_append_dropWhile (p := fun p => decide (jAt l (A.getD i 0) = jAt l p)) (l := A.drop (i + 1))
      have e2 := congrArg (List.drop n) e1
      rw [List.drop_append_of_le_length (by rw [← hn]; exact Nat.le_refl _), List.drop_of_length_le (by rw [← hn]; exact Nat.le_refl _), List.nil_append, List.drop_drop] at e2
      exact e2
    have h4 := List.head?_dropWhile_not (fun p => decide (jAt l (A.getD i 0) = jAt l p)) (A.drop (i + 1))
    rw [hd, List.head?_drop, List.getElem?_eq_getElem h] at h4
    simp only [decide_eq_false_iff_not] at h4
    rw [List.getD_eq_getElem?_getD (i := i + 1 + n), List.getElem?_eq_getElem h] at e
    exact h4 e
  rw [hr]
  refine ⟨by omega, by omega, fun t h1 h2 => ?_, fun t h1 h2 => ?_⟩
  · by_cases e : t = i
    · rw [e]
    · have := hin (t - (i + 1)) (by omega)
      rw [show i + 1 + (t - (i + 1)) = t by omega] at this
      exact this.symm
  · have g1 := hle i (i + 1 + n) (by omega) (by omega)
    have g2 := hout (by omega)
    have g3 := hle (i + 1 + n) t (by omega) h2
    refine ordR_lt_le ?_ g3
    have : ordR (jAt l (A.getD i 0)) (jAt l (A.getD (i + 1 + n) 0)) ≠ 0 := fun e => g2 (ordR_zero.1 e)
    omega
def keqJ (l r : List (List Val)) (x y : Int) : Bool := decide (jAt l x = jAt r y)
def rowJ (l r : List (List Val)) (B : List Int) (x : Int) : List (Int × Int) := (B.filter (keqJ l r x)).map fun y => (x, y)
def mergeM (l r : List (List Val)) : List (Int × Int) := (joiner_ranked l).flatMap (rowJ l r (joiner_ranked r))
theorem rowJ_len (l r : List (List Val)) (B : List Int) (x : Int) : (rowJ l r B x).length ≤ B.length := by
  unfold rowJ; rw [List.length_map]; exact List.length_filter_le _ _
theorem flatJ_len (l r : List (List Val)) (B : List Int) : ∀ A : List Int, (A.flatMap (rowJ l r B)).length ≤ A.length * B.length
  | [] => by simp
  | x :: A => by
    have h1 := flatJ_len l r B A
    have h2 := rowJ_len l r B x
    rw [List.flatMap_cons, List.length_append, List.length_cons, Nat.succ_mul]
    omega
theorem seg_get (L : List Int) : ∀ (n k : Nat), k + n ≤ L.length → (L.drop k).take n = (List.range n).map fun y => L.getD (k + y) 0
  | 0, k, _ => by simp
  | n + 1, k, h => by
    rw [List.take_add_one, seg_get L n k (by omega), List.range_succ, List.map_append, List.getElem?_drop, List.getElem?_eq_getElem (by omega)]
    simp [List.getD_eq_getElem?_getD, List.getElem?_eq_getElem (show k + n < L.length by omega)]
theorem row_run {l r : List (List Val)} {x : Int} {k : Nat} (hk : k < (joiner_ranked r).length) (hx : jAt l x = jAt r ((joiner_ranked r).getD k 0)) (hpre : ∀ y ∈ (joiner_ranked r).take k, ordR (jAt r y) (jAt l x) < 0) :
    rowJ l r (joiner_ranked r) x = (List.range (runN r (joiner_ranked r) k)).map fun y => (x, (joiner_ranked r).getD (k + y) 0) := by
  obtain ⟨_, f2, f3, f4⟩ := run_facts r hk
  generalize hB : joiner_ranked r = B at *
  generalize runN r B k = n at *
  have e : B = B.take k ++ ((B.drop k).take n ++ B.drop (k + n)) := by
    rw [← List.drop_drop, List.take_append_drop, List.take_append_drop]
  unfold rowJ
  have e1 : (B.take k).filter (keqJ l r x) = [] := by
    rw [List.filter_eq_nil_iff]
    intro y hy h
    have h1 := hpre y hy
    unfold keqJ at h
    rw [decide_eq_true_eq] at h
    rw [← h] at h1
    exact ordR_lt_irr _ h1
  have e2 : ((B.drop k).take n).filter (keqJ l r x) = (B.drop k).take n := by
    rw [List.filter_eq_self]
    intro y hy
    rw [seg_get B n k f2] at hy
    obtain ⟨t, ht, rfl⟩ := List.mem_map.1 hy
    rw [List.mem_range] at ht
    unfold keqJ
    rw [decide_eq_true_eq, hx, f3 (k + t) (by omega) (by omega)]
  have e3 : (B.drop (k + n)).filter (keqJ l r x) = [] := by
    rw [List.filter_eq_nil_iff]
    intro y hy h
    obtain ⟨t, ht, rfl⟩ := List.mem_iff_getElem.1 hy
    rw [List.length_drop] at ht
    have := f4 (k + n + t) (by omega) (by omega)
    rw [List.getD_eq_getElem?_getD (i := k + n + t), List.getElem?_eq_getElem (by omega)] at this
    unfold keqJ at h
    rw [decide_eq_true_eq, hx, List.getElem_drop] at h
    have h5 : jAt r (B.getD k 0) = jAt r ((some B[k + n + t]).getD 0) := h
    rw [h5] at this
    exact ordR_lt_irr _ this
  conv => lhs; rw [e]
  rw [List.filter_append, List.filter_append, e1, e2, e3, List.nil_append, List.append_nil, seg_get B n k f2, List.map_map]
  rfl
theorem row_none {l r : List (List Val)} {x : Int} {B : List Int} (h : ∀ y ∈ B, jAt l x ≠ jAt r y) : rowJ l r B x = [] := by
  unfold rowJ
  have : B.filter (keqJ l r x) = [] := by
    rw [List.filter_eq_nil_iff]
    intro y hy h2
    unfold keqJ at h2
    rw [decide_eq_true_eq] at h2
    exact h y hy h2
  rw [this]; rfl
theorem flat_none {l r : List (List Val)} {A B : List Int} (h : ∀ x ∈ A, ∀ y ∈ B, jAt l x ≠ jAt r y) : A.flatMap (rowJ l r B) = [] := by
  induction A with
  | nil => rfl
  | cons x A ih =>
    rw [List.flatMap_cons, row_none (h x List.mem_cons_self), ih fun y hy => h y (List.mem_cons_of_mem _ hy)]
    rfl
theorem row_rk (l r : List (List Val)) (i : Nat) (hw : wholeR (l.getD i []) = true) : rowJ l r (rkList r) (i : Int) = jRow l r i := by
  have key : ∀ n, ((((List.range n).filter fun k : Nat => wholeR (r.getD k [])).map fun k : Nat => (k : Int)).filter (keqJ l r (i : Int))).map (fun y => ((i : Int), y)) = ((List.range n).filter fun k : Nat => meetR (l.getD i []) (r.getD k [])).map fun k : Nat => ((i : Int), (k : Int)) := by
    intro n
    induction n with
    | zero => rfl
    | succ n ih =>
      rw [List.range_succ, List.filter_append, List.map_append, List.filter_append, List.map_append, ih, List.filter_append, List.map_append]
      congr 1
      have hk : keqJ l r (i : Int) (n : Int) = decide (l.getD i [] = r.getD n []) := rfl
      have hm : meetR (l.getD i []) (r.getD n []) = decide (l.getD i [] = r.getD n []) := by unfold meetR; rw [hw]; rfl
      by_cases e : l.getD i [] = r.getD n []
      · have hwr : wholeR (r.getD n []) = true := by rw [← e]; exact hw
        rw [List.filter_cons, if_pos hwr, List.filter_nil, List.map_cons, List.map_nil, List.filter_cons, if_pos (by rw [hk]; exact decide_eq_true e), List.filter_nil, List.filter_cons, if_pos (by rw [hm]; exact decide_eq_true e), List.filter_nil]
        rfl
      · rw [List.filter_cons (xs := []) (p := fun k : Nat => meetR (l.getD i []) (r.getD k [])), if_neg (by rw [hm, decide_eq_true_eq]; exact e)]
        cases hwr : wholeR (r.getD n []) with
        | true => rw [List.filter_cons, if_pos hwr, List.filter_nil, List.map_cons, List.map_nil, List.filter_cons, if_neg (by rw [hk, decide_eq_true_eq]; exact e)]; rfl
        | false => rw [List.filter_cons, if_neg (by rw [hwr]; simp)]; rfl
  exact key r.length
theorem flat_rk (l r : List (List Val)) : (rkList l).flatMap (rowJ l r (rkList r)) = jPairs l r := by
  have key : ∀ n, (((List.range n).filter fun i : Nat => wholeR (l.getD i [])).map fun i : Nat => (i : Int)).flatMap (rowJ l r (rkList r)) = (List.range n).flatMap (jRow l r) := by
    intro n
    induction n with
    | zero => rfl
    | succ n ih =>
      rw [List.range_succ, List.filter_append, List.map_append, List.flatMap_append, ih, List.flatMap_append]
      congr 1
      cases hw : wholeR (l.getD n []) with
      | true => rw [List.filter_cons, if_pos hw, List.filter_nil, List.map_cons, List.map_nil, List.flatMap_cons, row_rk l r n hw]; rfl
      | false =>
        rw [List.filter_cons, if_neg (by rw [hw]; simp)]
        have : jRow l r n = [] := by
          unfold jRow
          rw [List.filter_eq_nil_iff.2 fun k _ => by unfold meetR; rw [hw]; simp]
          rfl
        rw [List.flatMap_cons, this]; rfl
  exact key l.length
theorem perm_flat {α β : Type} {f g : α → List β} : ∀ (l : List α), (∀ x ∈ l, (f x).Perm (g x)) → (l.flatMap f).Perm (l.flatMap g)
  | [], _ => List.Perm.refl _
  | x :: l, h => by
    rw [List.flatMap_cons, List.flatMap_cons]
    exact (h x List.mem_cons_self).append (perm_flat l fun y hy => h y (List.mem_cons_of_mem _ hy))
theorem merge_perm (l r : List (List Val)) : (mergeM l r).Perm (jPairs l r) := by
  rw [← flat_rk]
  unfold mergeM
  refine ((rank_perm l).flatMap_right _).trans ?_
  refine perm_flat _ fun x _ => ?_
  unfold rowJ
  exact ((rank_perm r).filter _).map _
theorem jRow_srt (l r : List (List Val)) (i : Nat) : (jRow l r i).Pairwise fun x y => ¬ prC y x < 0 := by
  unfold jRow
  refine List.pairwise_map.2 (List.Pairwise.filter _ ?_)
  refine List.pairwise_lt_range.imp fun {a b} h => ?_
  rw [prC_neg]
  simp only
  omega
theorem jRow_fst {l r : List (List Val)} {i : Nat} {x : Int × Int} (h : x ∈ jRow l r i) : x.1 = (i : Int) := by
  unfold jRow at h
  obtain ⟨k, _, rfl⟩ := List.mem_map.1 h
  rfl
theorem jPairs_srt (l r : List (List Val)) : (jPairs l r).Pairwise fun x y => ¬ prC y x < 0 := by
  have key : ∀ n, ((List.range n).flatMap (jRow l r)).Pairwise fun x y => ¬ prC y x < 0 := by
    intro n
    induction n with
    | zero => exact List.Pairwise.nil
    | succ n ih =>
      rw [List.range_succ, List.flatMap_append]
      refine List.pairwise_append.2 ⟨ih, ?_, fun x hx y hy => ?_⟩
      · simpa using jRow_srt l r n
      · obtain ⟨i, hi, hx⟩ := List.mem_flatMap.1 hx
        rw [List.mem_range] at hi
        have hy : y ∈ jRow l r n := by simpa using hy
        have h1 := jRow_fst hx
        have h2 := jRow_fst hy
        rw [prC_neg]
        omega
  exact key l.length
theorem merge_sorted (l r : List (List Val)) : sortQ prC (mergeM l r) = jPairs l r :=
  perm_srtQ ((sortQ_perm _ _).trans (merge_perm l r)) (pr_srt _) (jPairs_srt l r) fun a b h1 h2 => (pr_uni [a, b]).eq a (by simp) b (by simp) h2 h1
end
end Go.Proofs.YtcmfdbjdbbpomaaDoor.B
