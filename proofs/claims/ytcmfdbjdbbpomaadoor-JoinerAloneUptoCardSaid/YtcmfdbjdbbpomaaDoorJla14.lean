/- Part 14 of the proof: Saggspec Lordr Sdeqp Sgrpp Slcmp. -/
import Derived.Sort.Statements
import Derived.Test.YtcmfdbjdbbpomaaDoorJla13
namespace Go.Proofs.YtcmfdbjdbbpomaaDoor.B
open Go Go.RowKit
set_option maxRecDepth 100000
noncomputable section
attribute [local irreducible] awp ctxK itersK iterK retQ retGQ awf ctxF loopF
def nmCount : ByteArray := ⟨#[99, 111, 117, 110, 116]⟩
def nmSum : ByteArray := ⟨#[115, 117, 109]⟩
def nmMin : ByteArray := ⟨#[109, 105, 110]⟩
def nmMax : ByteArray := ⟨#[109, 97, 120]⟩
def nmRows : ByteArray := ⟨#[114, 111, 119, 115]⟩
def nmNone : ByteArray := ⟨#[]⟩
def numV (n : Int) : Val := ⟨2, n, ⟨#[]⟩⟩
open Classical in
def cntV (nm : ByteArray) (v : Val) : Bool := decide (v.kind ≠ 0) && rightV v && (decide (nm ≠ nmSum) || decide (v.kind = 2))
open Classical in
def addU (acc : List Val) (v : Val) : List Val := if v ∈ acc then acc else acc ++ [v]
def sumZ (c : List Val) : Int := (c.map (·.n)).sum
def minFrom (b : Val) (c : List Val) : Val := c.foldl (fun b v => if ordV v b < 0 then v else b) b
def maxFrom (b : Val) (c : List Val) : Val := c.foldl (fun b v => if ordV v b > 0 then v else b) b
def totV (n : Int) : Val := if inN n then numV n else zeroVal
open Classical in
def tellV (nm : ByteArray) (c : List Val) : Val :=
  if nm = nmCount ∨ nm = nmRows then numV c.length
  else if c = [] then zeroVal
  else if nm = nmSum then totV (sumZ c)
  else if nm = nmMin then minFrom (c.headD zeroVal) c
  else if nm = nmMax then maxFrom (c.headD zeroVal) c
  else zeroVal
theorem cmpI_anti (a b : Int) : cmpI b a = - cmpI a b := by unfold cmpI; split <;> split <;> (try split) <;> omega
theorem cmpL_anti : ∀ a b : List UInt8, cmpL b a = - cmpL a b
  | [], [] => rfl
  | [], _ :: _ => rfl
  | _ :: _, [] => rfl
  | a :: l, b :: r => by
    simp only [cmpL]
    by_cases h : a = b
    · subst h; simp only [if_true]; exact cmpL_anti l r
    · rw [if_neg h, if_neg (Ne.symm h)]; exact cmpI_anti _ _
theorem ordV_anti (a b : Val) : ordV b a = - ordV a b := by
  unfold ordV
  by_cases h : a.kind = b.kind
  · rw [if_pos h, if_pos h.symm]
    by_cases h2 : a.n = b.n
    · rw [if_pos h2, if_pos h2.symm]; exact cmpL_anti _ _
    · rw [if_neg h2, if_neg (Ne.symm h2)]; exact cmpI_anti _ _
  · rw [if_neg h, if_neg (Ne.symm h)]; exact cmpI_anti _ _
theorem cmpI_neg {a b : Int} : cmpI a b < 0 ↔ a < b := by unfold cmpI; split <;> (try split) <;> omega
theorem cmpL_trans : ∀ {a b c : List UInt8}, cmpL a b < 0 → cmpL b c < 0 → cmpL a c < 0
  | [], [], _, h, _ => by simp [cmpL] at h
  | [], _ :: _, [], _, h => by simp [cmpL] at h
  | [], _ :: _, _ :: _, _, _ => by simp [cmpL]
  | _ :: _, [], _, h, _ => by simp [cmpL] at h
  | _ :: _, _ :: _, [], _, h => by simp [cmpL] at h
  | a :: l, b :: r, c :: t, h1, h2 => by
    simp only [cmpL] at h1 h2 ⊢
    by_cases e1 : a = b
    · subst e1
      by_cases e2 : a = c
      · subst e2; simp only [if_true] at h1 h2 ⊢; exact cmpL_trans h1 h2
      · rw [if_neg e2] at h2 ⊢; exact h2
    · rw [if_neg e1] at h1
      by_cases e2 : b = c
      · subst e2; rw [if_neg e1]; exact h1
      · rw [if_neg e2] at h2
        rw [cmpI_neg] at h1 h2
        have : a ≠ c := by rintro rfl; omega
        rw [if_neg this, cmpI_neg]; omega
theorem ordV_trans {a b c : Val} (h1 : ordV a b < 0) (h2 : ordV b c < 0) : ordV a c < 0 := by
  unfold ordV at h1 h2 ⊢
  by_cases k1 : a.kind = b.kind
  · rw [if_pos k1] at h1
    by_cases k2 : b.kind = c.kind
    · rw [if_pos k2] at h2
      rw [if_pos (k1.trans k2)]
      by_cases n1 : a.n = b.n
      · rw [if_pos n1] at h1
        by_cases n2 : b.n = c.n
        · rw [if_pos n2] at h2; rw [if_pos (n1.trans n2)]; exact cmpL_trans h1 h2
        · rw [if_neg n2] at h2; rw [if_neg (by rw [n1]; exact n2), n1]; exact h2
      · rw [if_neg n1, cmpI_neg] at h1
        by_cases n2 : b.n = c.n
        · rw [if_neg (by rw [← n2]; exact n1), ← n2, cmpI_neg]; exact h1
        · rw [if_neg n2, cmpI_neg] at h2; rw [if_neg (by omega), cmpI_neg]; omega
    · rw [if_neg k2] at h2; rw [if_neg (by rw [k1]; exact k2), k1]; exact h2
  · rw [if_neg k1, cmpI_neg] at h1
    by_cases k2 : b.kind = c.kind
    · rw [if_neg (by rw [← k2]; exact k1), ← k2, cmpI_neg]; exact h1
    · rw [if_neg k2, cmpI_neg] at h2; rw [if_neg (by omega), cmpI_neg]; omega
theorem ordV_self (a : Val) : ordV a a = 0 := ordV_zero.2 rfl
def leV (a b : Val) : Prop := ordV a b ≤ 0
theorem leV_refl (a : Val) : leV a a := by unfold leV; rw [ordV_self]; omega
theorem leV_anti {a b : Val} (h1 : leV a b) (h2 : leV b a) : a = b := by
  unfold leV at h1 h2; rw [ordV_anti a b] at h2; exact ordV_zero.1 (by omega)
theorem leV_trans {a b c : Val} (h1 : leV a b) (h2 : leV b c) : leV a c := by
  unfold leV at *
  by_cases e1 : ordV a b = 0
  · rw [ordV_zero] at e1; subst e1; exact h2
  · by_cases e2 : ordV b c = 0
    · rw [ordV_zero] at e2; subst e2; exact h1
    · have := ordV_trans (a := a) (b := b) (c := c) (by omega) (by omega); omega
theorem minFrom_spec : ∀ (c : List Val) (b : Val), (minFrom b c = b ∨ minFrom b c ∈ c) ∧ leV (minFrom b c) b ∧ ∀ v ∈ c, leV (minFrom b c) v
  | [], b => ⟨.inl rfl, leV_refl b, by simp⟩
  | v :: c, b => by
    have ih := minFrom_spec c (if ordV v b < 0 then v else b)
    have e : minFrom b (v :: c) = minFrom (if ordV v b < 0 then v else b) c := rfl
    rw [e]
    by_cases h : ordV v b < 0
    · rw [if_pos h] at ih ⊢
      have hvb : leV v b := by unfold leV; omega
      refine ⟨.inr ?_, leV_trans ih.2.1 hvb, fun x hx => ?_⟩
      · rcases ih.1 with h1 | h1
        · rw [h1]; simp
        · exact List.mem_cons_of_mem _ h1
      · rcases List.mem_cons.1 hx with rfl | hx
        · exact ih.2.1
        · exact ih.2.2 x hx
    · rw [if_neg h] at ih ⊢
      have hbv : leV b v := by unfold leV; rw [ordV_anti v b]; omega
      refine ⟨?_, ih.2.1, fun x hx => ?_⟩
      · rcases ih.1 with h1 | h1
        · exact .inl h1
        · exact .inr (List.mem_cons_of_mem _ h1)
      · rcases List.mem_cons.1 hx with rfl | hx
        · exact leV_trans ih.2.1 hbv
        · exact ih.2.2 x hx
theorem maxFrom_spec : ∀ (c : List Val) (b : Val), (maxFrom b c = b ∨ maxFrom b c ∈ c) ∧ leV b (maxFrom b c) ∧ ∀ v ∈ c, leV v (maxFrom b c)
  | [], b => ⟨.inl rfl, leV_refl b, by simp⟩
  | v :: c, b => by
    have ih := maxFrom_spec c (if ordV v b > 0 then v else b)
    have e : maxFrom b (v :: c) = maxFrom (if ordV v b > 0 then v else b) c := rfl
    rw [e]
    by_cases h : ordV v b > 0
    · rw [if_pos h] at ih ⊢
      have hvb : leV b v := by unfold leV; rw [ordV_anti v b]; omega
      refine ⟨.inr ?_, leV_trans hvb ih.2.1, fun x hx => ?_⟩
      · rcases ih.1 with h1 | h1
        · rw [h1]; simp
        · exact List.mem_cons_of_mem _ h1
      · rcases List.mem_cons.1 hx with rfl | hx
        · exact ih.2.1
        · exact ih.2.2 x hx
    · rw [if_neg h] at ih ⊢
      have hbv : leV v b := by unfold leV; omega
      refine ⟨?_, ih.2.1, fun x hx => ?_⟩
      · rcases ih.1 with h1 | h1
        · exact .inl h1
        · exact .inr (List.mem_cons_of_mem _ h1)
      · rcases List.mem_cons.1 hx with rfl | hx
        · exact leV_trans hbv ih.2.1
        · exact ih.2.2 x hx
def IsMin (m : Val) (c : List Val) : Prop := m ∈ c ∧ ∀ v ∈ c, leV m v
def IsMax (m : Val) (c : List Val) : Prop := m ∈ c ∧ ∀ v ∈ c, leV v m
theorem IsMin.uniq {m m' : Val} {c c' : List Val} (h : IsMin m c) (h' : IsMin m' c') (hp : ∀ v, v ∈ c ↔ v ∈ c') : m = m' := leV_anti (h.2 _ ((hp _).2 h'.1)) (h'.2 _ ((hp _).1 h.1))
theorem IsMax.uniq {m m' : Val} {c c' : List Val} (h : IsMax m c) (h' : IsMax m' c') (hp : ∀ v, v ∈ c ↔ v ∈ c') : m = m' := leV_anti (h'.2 _ ((hp _).1 h.1)) (h.2 _ ((hp _).2 h'.1))
theorem isMin_from {c : List Val} (hc : c ≠ []) : IsMin (minFrom (c.headD zeroVal) c) c := by
  cases c with
  | nil => exact (hc rfl).elim
  | cons v c =>
    have h := minFrom_spec (v :: c) v
    refine ⟨?_, h.2.2⟩
    rcases h.1 with h1 | h1
    · simp only [List.headD_cons]; rw [h1]; simp
    · exact h1
theorem isMax_from {c : List Val} (hc : c ≠ []) : IsMax (maxFrom (c.headD zeroVal) c) c := by
  cases c with
  | nil => exact (hc rfl).elim
  | cons v c =>
    have h := maxFrom_spec (v :: c) v
    refine ⟨?_, h.2.2⟩
    rcases h.1 with h1 | h1
    · simp only [List.headD_cons]; rw [h1]; simp
    · exact h1
theorem sumZ_perm {c c' : List Val} (h : c.Perm c') : sumZ c = sumZ c' := by
  unfold sumZ
  induction h with
  | nil => rfl
  | cons x _ ih => simp only [List.map_cons, List.sum_cons, ih]
  | swap x y l => simp only [List.map_cons, List.sum_cons]; omega
  | trans _ _ h1 h2 => exact h1.trans h2
theorem sumZ_append (a b : List Val) : sumZ (a ++ b) = sumZ a + sumZ b := by unfold sumZ; rw [List.map_append, List.sum_append]
theorem tellV_perm {nm : ByteArray} {c c' : List Val} (h : c.Perm c') : tellV nm c = tellV nm c' := by
  unfold tellV
  rw [h.length_eq, sumZ_perm h]
  have hn : c = [] ↔ c' = [] := by rw [← List.length_eq_zero_iff, ← List.length_eq_zero_iff, h.length_eq]
  by_cases hc : c = []
  · have hc' := hn.1 hc; subst hc; subst hc'; rfl
  · have hc' : c' ≠ [] := fun e => hc (hn.2 e)
    rw [if_neg hc, if_neg hc', (isMin_from hc).uniq (isMin_from hc') (fun v => h.mem_iff), (isMax_from hc).uniq (isMax_from hc') (fun v => h.mem_iff)]
def bigM : Int := 1000000000000000
open Classical in
def countsA (nm : ByteArray) (v : Val) : Bool := decide (nm = nmRows) || cntV nm v
open Classical in
def takenA (x : Acc) (v : Val) : Acc :=
  if x.name = nmSum then ⟨x.name, x.distinct, x.n + 1, x.hi + (x.lo + v.n).tdiv bigM, (x.lo + v.n).tmod bigM, x.v, x.l⟩
  else if x.name = nmMin then ⟨x.name, x.distinct, x.n + 1, x.hi, x.lo, if x.n + 1 = 1 ∨ ordV v x.v < 0 then v else x.v, x.l⟩
  else if x.name = nmMax then ⟨x.name, x.distinct, x.n + 1, x.hi, x.lo, if x.n + 1 = 1 ∨ ordV v x.v > 0 then v else x.v, x.l⟩
  else ⟨x.name, x.distinct, x.n + 1, x.hi, x.lo, x.v, x.l⟩
def posV (l : List Val) (v : Val) : Nat := (l.takeWhile fun x => ordV x v < 0).length
open Classical in
def insV (l : List Val) (v : Val) : List Val := if v ∈ l then l else l.take (posV l v) ++ v :: l.drop (posV l v)
def stepA (x : Acc) (v : Val) : Acc :=
  if countsA x.name v = true then (if x.distinct = true then ⟨x.name, x.distinct, x.n, x.hi, x.lo, x.v, insV x.l v⟩ else takenA x v) else x
def totalA (x : Acc) : Val := if x.n = 0 ∨ x.hi < -1 ∨ x.hi > 1 then zeroVal else if inN (x.hi * bigM + x.lo) then numV (x.hi * bigM + x.lo) else zeroVal
open Classical in
def endA (x : Acc) : Val :=
  if x.name = nmCount ∨ x.name = nmRows then numV x.n else if x.name = nmSum then totalA x else if x.name = nmMin ∨ x.name = nmMax then x.v else zeroVal
def valueA (x : Acc) : Val := endA (x.l.foldl takenA x)
def Core (nm : ByteArray) (c : List Val) (x : Acc) : Prop :=
  x.name = nm ∧ x.n = c.length ∧ (nm = nmSum → x.hi * bigM + x.lo = sumZ c ∧ -bigM < x.lo ∧ x.lo < bigM) ∧ (nm ≠ nmSum → x.hi = 0 ∧ x.lo = 0) ∧
  (nm = nmMin → if c = [] then x.v = zeroVal else IsMin x.v c) ∧ (nm = nmMax → if c = [] then x.v = zeroVal else IsMax x.v c) ∧ (nm ≠ nmMin → nm ≠ nmMax → x.v = zeroVal)
def Rep (nm : ByteArray) (d : Bool) (c : List Val) (x : Acc) : Prop :=
  x.distinct = d ∧ (d = false → Core nm c x ∧ x.l = []) ∧ (d = true → Core nm [] x ∧ x.l.Pairwise (fun a b => ordV a b < 0) ∧ ∀ v, v ∈ x.l ↔ v ∈ c)
theorem rightV_int {v : Val} (h : rightV v = true) (hk : v.kind = 2) : -bigM ≤ v.n ∧ v.n ≤ bigM := by
  unfold rightV at h
  rw [hk] at h
  simp [inN] at h
  unfold bigM; omega
theorem cntV_sum {v : Val} (h : cntV nmSum v = true) : -bigM ≤ v.n ∧ v.n ≤ bigM := by
  unfold cntV at h
  simp only [Bool.and_eq_true, Bool.or_eq_true, decide_eq_true_eq, ne_eq, not_true_eq_false, false_or] at h
  exact rightV_int h.1.2 h.2
theorem nm_ne : nmCount ≠ nmSum ∧ nmCount ≠ nmMin ∧ nmCount ≠ nmMax ∧ nmCount ≠ nmRows ∧ nmSum ≠ nmMin ∧ nmSum ≠ nmMax ∧ nmSum ≠ nmRows ∧ nmMin ≠ nmMax ∧ nmMin ≠ nmRows ∧ nmMax ≠ nmRows ∧ nmNone ≠ nmCount ∧ nmNone ≠ nmSum ∧ nmNone ≠ nmMin ∧ nmNone ≠ nmMax ∧ nmNone ≠ nmRows := by
  simp [nmCount, nmSum, nmMin, nmMax, nmRows, nmNone]
theorem div_mod_big {n : Int} : n.tdiv bigM * bigM + n.tmod bigM = n := by rw [Int.mul_comm]; exact Int.mul_tdiv_add_tmod n bigM
theorem tmod_big (n : Int) : -bigM < n.tmod bigM ∧ n.tmod bigM < bigM := by
  have hb : (0 : Int) < bigM := by decide
  refine ⟨?_, Int.tmod_lt_of_pos n hb⟩
  have := Int.tmod_lt_of_pos (-n) hb
  rw [Int.neg_tmod] at this; omega
theorem Core.taken {nm : ByteArray} {c : List Val} {x : Acc} (h : Core nm c x) {v : Val} (hv : nm = nmSum → -bigM ≤ v.n ∧ v.n ≤ bigM) : Core nm (c ++ [v]) (takenA x v) := by
  obtain ⟨n1, n2, n3, n4, n5, n6, n7, n8, n9, n10, n11⟩ := nm_ne
  obtain ⟨h1, h2, h3, h4, h5, h6, h7⟩ := h
  have hlen : x.n + 1 = ((c ++ [v]).length : Int) := by rw [h2]; simp
  have hne : c ++ [v] ≠ [] := by simp
  unfold takenA
  by_cases hs : x.name = nmSum
  · rw [if_pos hs]
    have hs' : nm = nmSum := h1.symm.trans hs
    obtain ⟨a1, a2, a3⟩ := h3 hs'
    have hv' := hv hs'
    have hd := div_mod_big (n := x.lo + v.n)
    have hm := tmod_big (x.lo + v.n)
    refine ⟨h1, hlen, fun _ => ⟨?_, hm.1, hm.2⟩, fun e => (e hs').elim, fun e => ?_, fun e => ?_, fun e1 e2 => h7 e1 e2⟩
    · rw [sumZ_append, ← a1]
      have : sumZ [v] = v.n := by simp [sumZ]
      rw [this]
      show (x.hi + (x.lo + v.n).tdiv bigM) * bigM + (x.lo + v.n).tmod bigM = _
      rw [Int.add_mul]; omega
    · rw [hs'] at e; exact (n5 e).elim
    · rw [hs'] at e; exact (n6 e).elim
  · rw [if_neg hs]
    have hs' : nm ≠ nmSum := fun e => hs (h1.trans e)
    by_cases hm : x.name = nmMin
    · rw [if_pos hm]
      have hm' : nm = nmMin := h1.symm.trans hm
      refine ⟨h1, hlen, fun e => (hs' e).elim, fun _ => h4 hs', fun _ => ?_, fun e => by rw [hm'] at e; exact (n8 e).elim, fun e => (e hm').elim⟩
      rw [if_neg hne]
      have h5' := h5 hm'
      show IsMin (if x.n + 1 = 1 ∨ ordV v x.v < 0 then v else x.v) (c ++ [v])
      by_cases hc : c = []
      · subst hc
        rw [if_pos (.inl (by rw [h2]; rfl))]
        exact ⟨by simp, by simp [leV_refl]⟩
      · rw [if_neg hc] at h5'
        have hl : (0 : Int) < c.length := by have := List.length_pos_iff.2 hc; omega
        by_cases ho : ordV v x.v < 0
        · rw [if_pos (.inr ho)]
          refine ⟨by simp, fun u hu => ?_⟩
          rcases List.mem_append.1 hu with hu | hu
          · exact leV_trans (by unfold leV; omega) (h5'.2 u hu)
          · simp at hu; subst hu; exact leV_refl _
        · rw [if_neg (by rintro (e | e); · omega
                         · exact ho e)]
          refine ⟨List.mem_append_left _ h5'.1, fun u hu => ?_⟩
          rcases List.mem_append.1 hu with hu | hu
          · exact h5'.2 u hu
          · simp at hu; subst hu; unfold leV; rw [ordV_anti u x.v]; omega
    · rw [if_neg hm]
      have hm' : nm ≠ nmMin := fun e => hm (h1.trans e)
      by_cases hx : x.name = nmMax
      · rw [if_pos hx]
        have hx' : nm = nmMax := h1.symm.trans hx
        refine ⟨h1, hlen, fun e => (hs' e).elim, fun _ => h4 hs', fun e => (hm' e).elim, fun _ => ?_, fun _ e => (e hx').elim⟩
        rw [if_neg hne]
        have h6' := h6 hx'
        show IsMax (if x.n + 1 = 1 ∨ ordV v x.v > 0 then v else x.v) (c ++ [v])
        by_cases hc : c = []
        · subst hc
          rw [if_pos (.inl (by rw [h2]; rfl))]
          exact ⟨by simp, by simp [leV_refl]⟩
        · rw [if_neg hc] at h6'
          have hl : (0 : Int) < c.length := by have := List.length_pos_iff.2 hc; omega
          by_cases ho : ordV v x.v > 0
          · rw [if_pos (.inr ho)]
            refine ⟨by simp, fun u hu => ?_⟩
            rcases List.mem_append.1 hu with hu | hu
            · exact leV_trans (h6'.2 u hu) (by unfold leV; rw [ordV_anti v x.v]; omega)
            · simp at hu; subst hu; exact leV_refl _
          · rw [if_neg (by rintro (e | e); · omega
                           · exact ho e)]
            refine ⟨List.mem_append_left _ h6'.1, fun u hu => ?_⟩
            rcases List.mem_append.1 hu with hu | hu
            · exact h6'.2 u hu
            · simp at hu; subst hu; unfold leV; omega
      · rw [if_neg hx]
        have hx' : nm ≠ nmMax := fun e => hx (h1.trans e)
        exact ⟨h1, hlen, fun e => (hs' e).elim, fun _ => h4 hs', fun e => (hm' e).elim, fun e => (hx' e).elim, fun _ _ => h7 hm' hx'⟩
theorem taken_keeps (x : Acc) (v : Val) : (takenA x v).l = x.l ∧ (takenA x v).distinct = x.distinct ∧ (takenA x v).name = x.name := by
  unfold takenA; repeat' split
  all_goals exact ⟨rfl, rfl, rfl⟩
theorem Core.folded {nm : ByteArray} : ∀ (l : List Val) {c : List Val} {x : Acc}, Core nm c x → (nm = nmSum → ∀ v ∈ l, -bigM ≤ v.n ∧ v.n ≤ bigM) → Core nm (c ++ l) (l.foldl takenA x)
  | [], c, x, h, _ => by simpa using h
  | v :: l, c, x, h, hv => by
    have h1 := h.taken (v := v) (fun e => hv e v (by simp))
    have := Core.folded l h1 (fun e u hu => hv e u (by simp [hu]))
    simpa using this
theorem Core.end_ {nm : ByteArray} {c : List Val} {x : Acc} (h : Core nm c x) : endA x = tellV nm c := by
  obtain ⟨n1, n2, n3, n4, n5, n6, n7, n8, n9, n10, n11⟩ := nm_ne
  obtain ⟨h1, h2, h3, h4, h5, h6, h7⟩ := h
  unfold endA tellV
  rw [h1]
  by_cases hc : nm = nmCount ∨ nm = nmRows
  · rw [if_pos hc, if_pos hc, h2]
  · rw [if_neg hc, if_neg hc]
    by_cases hs : nm = nmSum
    · rw [if_pos hs]
      obtain ⟨a1, a2, a3⟩ := h3 hs
      unfold totalA totV
      by_cases he : c = []
      · rw [if_pos he, if_pos (.inl (by rw [h2, he]; rfl))]
      · rw [if_neg he, if_pos hs]
        have hl : (0 : Int) < c.length := by have := List.length_pos_iff.2 he; omega
        rw [a1]
        by_cases hb : x.hi < -1 ∨ x.hi > 1
        · rw [if_pos (.inr hb)]
          have : inN (sumZ c) = false := by
            unfold inN; rw [decide_eq_false_iff_not]
            have hbm : bigM = 1000000000000000 := rfl
            rw [hbm] at a1 a2 a3
            rcases hb with hb | hb <;> omega
          rw [this]; rfl
        · rw [if_neg (by rintro (e | e); · omega
                         · exact hb e)]
    · rw [if_neg hs]
      by_cases hm : nm = nmMin
      · rw [if_pos (.inl hm)]
        have h5' := h5 hm
        by_cases he : c = []
        · rw [if_pos he] at h5' ⊢; exact h5'
        · rw [if_neg he] at h5' ⊢
          rw [if_neg hs, if_pos hm]
          exact h5'.uniq (isMin_from he) (fun _ => Iff.rfl)
      · by_cases hx : nm = nmMax
        · rw [if_pos (.inr hx)]
          have h6' := h6 hx
          by_cases he : c = []
          · rw [if_pos he] at h6' ⊢; exact h6'
          · rw [if_neg he] at h6' ⊢
            rw [if_neg hs, if_neg hm, if_pos hx]
            exact h6'.uniq (isMax_from he) (fun _ => Iff.rfl)
        · rw [if_neg (by rintro (e | e); exact hm e; exact hx e)]
          by_cases he : c = []
          · rw [if_pos he]
          · rw [if_neg he, if_neg hs, if_neg hm, if_neg hx]
theorem sorted_nodup {l : List Val} (h : l.Pairwise fun a b => ordV a b < 0) : l.Nodup := h.imp fun {a b} hab e => by subst e; rw [ordV_self] at hab; omega
theorem insV_mem (l : List Val) (v u : Val) : u ∈ insV l v ↔ u ∈ l ∨ u = v := by
  unfold insV
  split
  · rename_i h; constructor
    · exact .inl
    · rintro (h1 | rfl); exact h1; exact h
  · rw [List.mem_append, List.mem_cons]
    have : u ∈ l ↔ u ∈ l.take (posV l v) ∨ u ∈ l.drop (posV l v) := by rw [← List.mem_append, List.take_append_drop]
    rw [this]
    constructor
    · rintro (h | h | h); exact .inl (.inl h); exact .inr h; exact .inl (.inr h)
    · rintro ((h | h) | h); exact .inl h; exact .inr (.inr h); exact .inr (.inl h)
theorem takeWhile_all {p : Val → Bool} : ∀ (l : List Val), ∀ u ∈ l.takeWhile p, p u = true
  | [], u, h => by simp at h
  | a :: l, u, h => by
    rw [List.takeWhile_cons] at h
    split at h
    · rename_i hp
      rcases List.mem_cons.1 h with rfl | h
      · exact hp
      · exact takeWhile_all l u h
    · simp at h
theorem dropWhile_head {p : Val → Bool} : ∀ (l : List Val) {y : Val} {r : List Val}, l.dropWhile p = y :: r → p y = false
  | [], y, r, h => by simp at h
  | a :: l, y, r, h => by
    rw [List.dropWhile_cons] at h
    split at h
    · exact dropWhile_head l h
    · rename_i hp
      simp at h
      rw [← h.1]; simpa using hp
theorem posV_below {l : List Val} {v : Val} : ∀ u ∈ l.take (posV l v), ordV u v < 0 := by
  intro u hu
  have e : l.take (posV l v) = l.takeWhile fun x => ordV x v < 0 := by
    unfold posV
    conv => lhs; arg 2; rw [← List.takeWhile_append_dropWhile (p := fun x => decide (ordV x v < 0)) (l := l)]
    rw [List.take_left]
  rw [e] at hu
  have := takeWhile_all l u hu
  simpa using this
theorem posV_above {l : List Val} (h : l.Pairwise fun a b => ordV a b < 0) {v : Val} : ∀ u ∈ l.drop (posV l v), ¬ ordV u v < 0 := by
  have e : l.drop (posV l v) = l.dropWhile fun x => ordV x v < 0 := by
    unfold posV
    conv => lhs; arg 2; rw [← List.takeWhile_append_dropWhile (p := fun x => decide (ordV x v < 0)) (l := l)]
    rw [List.drop_left]
  rw [e]
  intro u hu hlt
  have hp : (l.dropWhile fun x => ordV x v < 0).Pairwise fun a b => ordV a b < 0 := h.sublist (List.dropWhile_sublist _)
  cases hd : l.dropWhile fun x => ordV x v < 0 with
  | nil => rw [hd] at hu; simp at hu
  | cons y r =>
    have hy : ¬ ordV y v < 0 := by
      have := dropWhile_head l hd
      simpa using this
    rw [hd] at hu hp
    rcases List.mem_cons.1 hu with rfl | hu
    · exact hy hlt
    · have := (List.pairwise_cons.1 hp).1 u hu
      exact hy (ordV_trans this hlt)
theorem insV_sorted {l : List Val} (h : l.Pairwise fun a b => ordV a b < 0) (v : Val) : (insV l v).Pairwise fun a b => ordV a b < 0 := by
  unfold insV
  split
  · exact h
  · rename_i hn
    have hs : ∀ u ∈ l.drop (posV l v), ordV v u < 0 := fun u hu => by
      have h1 := posV_above h u hu
      have h2 : ordV u v ≠ 0 := fun e => hn (by rw [ordV_zero] at e; subst e; exact List.mem_of_mem_drop hu)
      rw [ordV_anti u v]; omega
    rw [List.pairwise_append]
    refine ⟨h.sublist (List.take_sublist _ _), List.pairwise_cons.2 ⟨hs, h.sublist (List.drop_sublist _ _)⟩, fun a ha b hb => ?_⟩
    rcases List.mem_cons.1 hb with rfl | hb
    · exact posV_below a ha
    · exact ordV_trans (posV_below a ha) (hs b hb)
open Classical in
theorem addU_mem (c : List Val) (acc : List Val) (u : Val) : u ∈ c.foldl addU acc ↔ u ∈ acc ∨ u ∈ c := by
  induction c generalizing acc with
  | nil => simp
  | cons v c ih =>
    rw [List.foldl_cons, ih]
    have : u ∈ addU acc v ↔ u ∈ acc ∨ u = v := by
      unfold addU
      split
      · rename_i h; constructor
        · exact .inl
        · rintro (h1 | rfl); exact h1; exact h
      · simp
    rw [this]; simp only [List.mem_cons]
    constructor
    · rintro ((h | h) | h); exact .inl h; exact .inr (.inl h); exact .inr (.inr h)
    · rintro (h | h | h); exact .inl (.inl h); exact .inl (.inr h); exact .inr h
theorem addU_nodup (c : List Val) : ∀ {acc : List Val}, acc.Nodup → (c.foldl addU acc).Nodup := by
  induction c with
  | nil => intro acc h; exact h
  | cons v c ih =>
    intro acc h
    rw [List.foldl_cons]
    refine ih ?_
    unfold addU
    split
    · exact h
    · rename_i hn
      rw [List.nodup_append]
      exact ⟨h, by simp, fun a ha b hb e => by simp at hb; subst hb; subst e; exact hn ha⟩
def dedupV (c : List Val) : List Val := c.foldl addU []
theorem dedupV_mem (c : List Val) (u : Val) : u ∈ dedupV c ↔ u ∈ c := by unfold dedupV; rw [addU_mem]; simp
theorem dedupV_nodup (c : List Val) : (dedupV c).Nodup := addU_nodup c List.nodup_nil
theorem perm_same {a b : List Val} (ha : a.Nodup) (hb : b.Nodup) (h : ∀ v, v ∈ a ↔ v ∈ b) : a.Perm b := (List.perm_ext_iff_of_nodup ha hb).2 h
theorem sumZ_bound {c : List Val} (h : ∀ v ∈ c, -bigM ≤ v.n ∧ v.n ≤ bigM) : -((c.length : Int) * bigM) ≤ sumZ c ∧ sumZ c ≤ c.length * bigM := by
  induction c with
  | nil => simp [sumZ]
  | cons v c ih =>
    have h1 := ih fun u hu => h u (by simp [hu])
    have h2 := h v (by simp)
    have e : sumZ (v :: c) = v.n + sumZ c := by simp [sumZ]
    rw [e]
    simp only [List.length_cons, Int.natCast_add, Int.add_mul]
    omega
theorem Core.hi {nm : ByteArray} {c : List Val} {x : Acc} (h : Core nm c x) (hb : nm = nmSum → ∀ v ∈ c, -bigM ≤ v.n ∧ v.n ≤ bigM) : -(c.length : Int) ≤ x.hi ∧ x.hi ≤ c.length := by
  by_cases hs : nm = nmSum
  · obtain ⟨a1, a2, a3⟩ := h.2.2.1 hs
    have := sumZ_bound (hb hs)
    unfold bigM at *
    omega
  · have := (h.2.2.2.1 hs).1; omega
theorem Core.lo {nm : ByteArray} {c : List Val} {x : Acc} (h : Core nm c x) : -bigM < x.lo ∧ x.lo < bigM := by
  by_cases hs : nm = nmSum
  · exact (h.2.2.1 hs).2
  · have := (h.2.2.2.1 hs).2; unfold bigM; omega
theorem counts_sum {nm : ByteArray} {v : Val} (h : countsA nm v = true) (hs : nm = nmSum) : -bigM ≤ v.n ∧ v.n ≤ bigM := by
  subst hs
  unfold countsA at h
  simp only [Bool.or_eq_true, decide_eq_true_eq] at h
  rcases h with h | h
  · exact (nm_ne.2.2.2.2.2.2.1 h).elim
  · exact cntV_sum h
theorem Rep.name {nm : ByteArray} {d : Bool} {c : List Val} {x : Acc} (h : Rep nm d c x) : x.name = nm := by
  cases d with
  | true => exact (h.2.2 rfl).1.1
  | false => exact (h.2.1 rfl).1.1
theorem Rep.step {nm : ByteArray} {d : Bool} {c : List Val} {x : Acc} (h : Rep nm d c x) (v : Val) : Rep nm d (c ++ [v].filter (countsA nm)) (stepA x v) := by
  unfold stepA
  rw [h.name]
  by_cases hc : countsA nm v = true
  · rw [if_pos hc]
    have hf : [v].filter (countsA nm) = [v] := by simp [hc]
    rw [hf]
    cases d with
    | true =>
      obtain ⟨h1, h2, h3⟩ := h.2.2 rfl
      rw [if_pos h.1]
      refine ⟨h.1, fun e => by simp at e, fun _ => ⟨?_, insV_sorted h2 v, fun u => ?_⟩⟩
      · obtain ⟨i1, i2, i3, i4, i5, i6, i7⟩ := h1
        exact ⟨rfl, i2, i3, i4, i5, i6, i7⟩
      · rw [insV_mem, h3, List.mem_append]; simp
    | false =>
      obtain ⟨h1, h2⟩ := h.2.1 rfl
      rw [if_neg (by rw [h.1]; simp)]
      have hk := taken_keeps x v
      exact ⟨hk.2.1.trans h.1, fun _ => ⟨h1.taken (counts_sum hc), hk.1.trans h2⟩, fun e => by simp at e⟩
  · rw [if_neg hc]
    have hf : [v].filter (countsA nm) = [] := by simp [hc]
    rw [hf, List.append_nil]; exact h
theorem Rep.value {nm : ByteArray} {d : Bool} {c : List Val} {x : Acc} (h : Rep nm d c x) (hc : ∀ v ∈ c, countsA nm v = true) : valueA x = tellV nm (if d = true then dedupV c else c) := by
  unfold valueA
  cases d with
  | false =>
    obtain ⟨h1, h2⟩ := h.2.1 rfl
    rw [h2, if_neg (by simp)]; exact h1.end_
  | true =>
    obtain ⟨h1, h2, h3⟩ := h.2.2 rfl
    rw [if_pos rfl]
    have h4 := Core.folded x.l h1 (fun e v hv => counts_sum (hc v ((h3 v).1 hv)) e)
    rw [List.nil_append] at h4
    rw [h4.end_]
    exact tellV_perm (perm_same (sorted_nodup h2) (dedupV_nodup c) fun v => by rw [h3, dedupV_mem])
end
end Go.Proofs.YtcmfdbjdbbpomaaDoor.B
namespace Go.Proofs.YtcmfdbjdbbpomaaDoor.B
open Go Go.RowKit
set_option linter.unusedVariables false
theorem ordR_anti : ∀ a b : List Val, ordR b a = - ordR a b
  | [], [] => rfl
  | [], _ :: _ => rfl
  | _ :: _, [] => rfl
  | a :: l, b :: r => by
    simp only [ordR]
    have h := ordV_anti a b
    by_cases e : ordV a b = 0
    · rw [if_pos e, if_pos (by omega)]; exact ordR_anti l r
    · rw [if_neg e, if_neg (by omega)]; exact h
theorem ordR_trans : ∀ {a b c : List Val}, ordR a b < 0 → ordR b c < 0 → ordR a c < 0
  | [], [], _, h, _ => by simp [ordR] at h
  | [], _ :: _, [], _, h => by simp [ordR] at h
  | [], _ :: _, _ :: _, _, _ => by simp [ordR]
  | _ :: _, [], _, h, _ => by simp [ordR] at h
  | _ :: _, _ :: _, [], _, h => by simp [ordR] at h
  | a :: l, b :: r, c :: t, h1, h2 => by
    simp only [ordR] at h1 h2 ⊢
    by_cases e1 : ordV a b = 0
    · rw [if_pos e1] at h1
      rw [ordV_zero] at e1; subst e1
      by_cases e2 : ordV a c = 0
      · rw [if_pos e2] at h2 ⊢; exact ordR_trans h1 h2
      · rw [if_neg e2] at h2 ⊢; exact h2
    · rw [if_neg e1] at h1
      by_cases e2 : ordV b c = 0
      · rw [ordV_zero] at e2; subst e2
        rw [if_neg e1]; exact h1
      · rw [if_neg e2] at h2
        have := ordV_trans h1 h2
        rw [if_neg (by omega)]; exact this
end Go.Proofs.YtcmfdbjdbbpomaaDoor.B
namespace Go.Proofs.YtcmfdbjdbbpomaaDoor.B
open Go Go.RowKit
set_option maxRecDepth 100000
noncomputable section
attribute [local irreducible] awp ctxK itersK iterK retQ retGQ awf ctxF loopF
noncomputable def deq {α : Type} (a b : α) : Bool := @decide (a = b) (Classical.propDecidable _)
theorem deq_iff {α : Type} {a b : α} : deq a b = true ↔ a = b := by unfold deq; exact @decide_eq_true_iff _ (Classical.propDecidable _)
theorem deq_of {α : Type} {a b : α} {x : Bool} (h : x = true ↔ a = b) : x = deq a b := by
  rw [Bool.eq_iff_iff, h, deq_iff]
theorem loop_pre {α β : Type} {L : S Un → Option (EX Un)} {st : Int → S Un} {C : Exit → S Un → Option β} (R : Bool → Option β) {a b : List α} {d : α} {e : Exit} (hl : a.length ≤ 9223372036854775807)
    (step : ∀ i : Nat, i < a.length → i < b.length → L (st i) = if deq (a.getD i d) (b.getD i d) = true then L (st (IntKind.i64.wrap ((i : Int) + 1))) else some (.ret, st i))
    (stop : ∀ i : Nat, ¬ (i < a.length ∧ i < b.length) → L (st i) = some (e, st i)) (cr : ∀ i : Nat, C .ret (st i) = R false) (ce : ∀ i : Nat, C e (st i) = R ((a.length : Int) == (b.length : Int))) : (L (st (0 : Int))).bind (thenX C) = R (deq a b) := by
  have key : ∀ (k i : Nat), i + k = a.length → i ≤ b.length → (L (st i)).bind (thenX C) = R (deq (a.drop i) (b.drop i)) := by
    intro k
    induction k with
    | zero =>
      intro i hi hb
      obtain rfl : i = a.length := by omega
      rw [loop_end (stop _ (by omega)), ce]
      congr 1
      refine deq_of ?_
      rw [List.drop_length, beq_iff_eq]
      constructor
      · intro h; rw [List.drop_eq_nil_of_le (by omega)]
      · intro h
        have := congrArg List.length h
        rw [List.length_drop, List.length_nil] at this; omega
    | succ k ih =>
      intro i hi hb
      have h1 : i < a.length := by omega
      by_cases h2 : i < b.length
      · have ga : a.getD i d = a[i] := by rw [List.getD_eq_getElem?_getD, List.getElem?_eq_getElem h1]; rfl
        have gb : b.getD i d = b[i] := by rw [List.getD_eq_getElem?_getD, List.getElem?_eq_getElem h2]; rfl
        have hs := step i h1 h2
        rw [ga, gb] at hs
        rw [List.drop_eq_getElem_cons h1, List.drop_eq_getElem_cons h2]
        by_cases hq : deq a[i] b[i] = true
        · rw [if_pos hq, wrap_next h1 hl] at hs
          rw [hs, ih (i + 1) (by omega) (by omega)]
          rw [deq_iff] at hq
          congr 1
          refine deq_of ?_
          rw [deq_iff, hq]
          exact ⟨fun h => by rw [h], fun h => (List.cons.inj h).2⟩
        · rw [if_neg hq] at hs
          rw [loop_end hs, cr]
          congr 1
          refine deq_of ?_
          rw [deq_iff] at hq
          exact ⟨fun h => absurd h (by decide), fun h => absurd (List.cons.inj h).1 hq⟩
      · rw [loop_end (stop _ (by omega)), ce]
        congr 1
        refine deq_of ?_
        rw [beq_iff_eq]
        constructor
        · intro h; omega
        · intro h
          have := congrArg List.length h
          rw [List.length_drop, List.length_drop] at this; omega
  exact key a.length 0 (by omega) (by omega)
end
end Go.Proofs.YtcmfdbjdbbpomaaDoor.B
namespace Go.Proofs.YtcmfdbjdbbpomaaDoor.B
open Go Go.RowKit
set_option maxRecDepth 100000
noncomputable section
attribute [local irreducible] awp ctxK itersK iterK retQ retGQ awf ctxF loopF
section
variable {K : Type} [DecidableEq K] (key : Int → K)
def gAt (x : K) (out : List (List Int)) : Nat := out.findIdx fun g => decide (key (g.headD 0) = x)
def gAdd (out : List (List Int)) (k : Nat) (i : Int) : List (List Int) := if k < out.length then out.set k (out.getD k [] ++ [i]) else out ++ [[i]]
def gStep (out : List (List Int)) (i : Nat) : List (List Int) := gAdd out (gAt key (key (i : Int)) out) (i : Int)
structure GI (n : Nat) (out : List (List Int)) : Prop where
  ne : ∀ k, k < out.length → out.getD k [] ≠ []
  mem : ∀ k p, p ∈ out.getD k [] → 0 ≤ p ∧ p < (n : Int) ∧ key p = key ((out.getD k []).headD 0)
  dis : ∀ j k, j < out.length → k < out.length → key ((out.getD j []).headD 0) = key ((out.getD k []).headD 0) → j = k
  all : ∀ p : Int, 0 ≤ p → p < (n : Int) → ∃ k, k < out.length ∧ p ∈ out.getD k []
  inc : ∀ k, (out.getD k []).Pairwise (· < ·)
theorem getD_set' {α : Type} (l : List α) (i j : Nat) (x d : α) (hi : i < l.length) : (l.set i x).getD j d = if j = i then x else l.getD j d := by
  rw [List.getD_eq_getElem?_getD, List.getD_eq_getElem?_getD, List.getElem?_set]
  by_cases h : j = i
  · subst h; rw [if_pos rfl, if_pos hi, if_pos rfl]; rfl
  · rw [if_neg (fun e => h e.symm), if_neg h]
theorem getD_snoc (out : List (List Int)) (g : List Int) (j : Nat) : (out ++ [g]).getD j [] = if j = out.length then g else out.getD j [] := by
  rw [List.getD_eq_getElem?_getD, List.getD_eq_getElem?_getD]
  by_cases h : j = out.length
  · subst h; rw [if_pos rfl, List.getElem?_append_right (Nat.le_refl _), Nat.sub_self]; rfl
  · rw [if_neg h]
    by_cases h2 : j < out.length
    · rw [List.getElem?_append_left h2]
    · rw [List.getElem?_eq_none (by rw [List.length_append, List.length_singleton]; omega), List.getElem?_eq_none (by omega)]
theorem gAt_lt {x : K} {out : List (List Int)} (h : gAt key x out < out.length) : key ((out.getD (gAt key x out) []).headD 0) = x := by
  unfold gAt at h ⊢
  have := List.findIdx_getElem (p := fun g : List Int => decide (key (g.headD 0) = x)) (xs := out) (w := h)
  rw [decide_eq_true_eq] at this
  rw [List.getD_eq_getElem?_getD, List.getElem?_eq_getElem h]
  exact this
theorem gAt_not {x : K} {out : List (List Int)} (h : ¬ gAt key x out < out.length) : ∀ k, k < out.length → key ((out.getD k []).headD 0) ≠ x := by
  intro k hk e
  unfold gAt at h
  have h2 : k < out.findIdx (fun g => decide (key (g.headD 0) = x)) := by omega
  have h3 := List.not_of_lt_findIdx h2
  rw [List.getD_eq_getElem?_getD, List.getElem?_eq_getElem hk] at e
  rw [decide_eq_false (fun e2 => ?_)] at h3 <;> skip
  all_goals simp_all
theorem GI.nil : GI key 0 [] := (fun (_ : DecidableEq K) => ⟨fun k h => by simp at h, fun k p h => by simp at h, fun j k h => by simp at h, fun p h0 h1 => by omega, fun k => by simp⟩) inferInstance
theorem GI.step {n : Nat} {out : List (List Int)} (h : GI key n out) : GI key (n + 1) (gStep key out n) := by
  unfold gStep gAdd
  by_cases hl : gAt key (key (n : Int)) out < out.length
  · rw [if_pos hl]
    have hx := gAt_lt key hl
    obtain ⟨g, hg⟩ : ∃ g, g = gAt key (key (n : Int)) out := ⟨_, rfl⟩
    rw [← hg] at hl hx ⊢
    have hne := h.ne g hl
    have hd : (out.getD g [] ++ [(n : Int)]).headD 0 = (out.getD g []).headD 0 := by
      cases hc : out.getD g [] with
      | nil => exact (hne hc).elim
      | cons a l => rfl
    have hget : ∀ j, (out.set g (out.getD g [] ++ [(n : Int)])).getD j [] = if j = g then out.getD g [] ++ [(n : Int)] else out.getD j [] := fun j => getD_set' _ _ _ _ _ hl
    have hhd : ∀ j, ((out.set g (out.getD g [] ++ [(n : Int)])).getD j []).headD 0 = (out.getD j []).headD 0 := fun j => by
      rw [hget]
      by_cases e : j = g
      · rw [if_pos e, hd, e]
      · rw [if_neg e]
    refine ⟨fun k hk => ?_, fun k p hp => ?_, fun j k hj hk e => ?_, fun p h0 h1 => ?_, fun k => ?_⟩
    · rw [List.length_set] at hk
      rw [hget]
      split
      · simp
      · exact h.ne k hk
    · rw [hhd]
      rw [hget] at hp
      split at hp
      · rename_i e
        rw [e]
        rcases List.mem_append.1 hp with hp | hp
        · obtain ⟨a, b, c⟩ := h.mem g p hp; exact ⟨a, by omega, c⟩
        · rw [List.mem_singleton] at hp; subst hp; exact ⟨by omega, by omega, hx.symm⟩
      · obtain ⟨a, b, c⟩ := h.mem k p hp; exact ⟨a, by omega, c⟩
    · rw [List.length_set] at hj hk
      rw [hhd, hhd] at e
      exact h.dis j k hj hk e
    · by_cases e : p = (n : Int)
      · exact ⟨g, by rw [List.length_set]; exact hl, by rw [hget, if_pos rfl, e]; simp⟩
      · obtain ⟨k, hk, hm⟩ := h.all p h0 (by omega)
        refine ⟨k, by rw [List.length_set]; exact hk, ?_⟩
        rw [hget]
        split
        · rename_i e2; subst e2; exact List.mem_append_left _ hm
        · exact hm
    · rw [hget]
      split
      · refine List.pairwise_append.2 ⟨h.inc g, by simp, fun a ha b hb => ?_⟩
        rw [List.mem_singleton] at hb
        have := (h.mem g a ha).2.1
        omega
      · exact h.inc k
  · rw [if_neg hl]
    have hno := gAt_not key hl
    refine ⟨fun k hk => ?_, fun k p hp => ?_, fun j k hj hk e => ?_, fun p h0 h1 => ?_, fun k => ?_⟩
    · rw [List.length_append, List.length_singleton] at hk
      rw [getD_snoc]
      split
      · simp
      · exact h.ne k (by omega)
    · rw [getD_snoc] at hp ⊢
      split at hp
      · rename_i e
        rw [if_pos e]
        rw [List.mem_singleton] at hp; subst hp
        exact ⟨by omega, by omega, rfl⟩
      · rename_i e
        rw [if_neg e]
        obtain ⟨a, b, c⟩ := h.mem k p hp; exact ⟨a, by omega, c⟩
    · rw [List.length_append, List.length_singleton] at hj hk
      rw [getD_snoc, getD_snoc] at e
      by_cases ej : j = out.length
      · by_cases ek : k = out.length
        · omega
        · rw [if_pos ej, if_neg ek] at e
          exact (hno k (by omega) e.symm).elim
      · by_cases ek : k = out.length
        · rw [if_neg ej, if_pos ek] at e
          exact (hno j (by omega) e).elim
        · rw [if_neg ej, if_neg ek] at e
          exact h.dis j k (by omega) (by omega) e
    · by_cases e : p = (n : Int)
      · exact ⟨out.length, by simp, by rw [getD_snoc, if_pos rfl, e]; simp⟩
      · obtain ⟨k, hk, hm⟩ := h.all p h0 (by omega)
        exact ⟨k, by simp; omega, by rw [getD_snoc, if_neg (by omega)]; exact hm⟩
    · rw [getD_snoc]
      split
      · simp
      · exact h.inc k
theorem pw_len : ∀ (l : List Int) (n : Nat), l.Pairwise (· < ·) → (∀ p ∈ l, 0 ≤ p ∧ p < (n : Int)) → l.length ≤ n := by
  intro l n
  induction n generalizing l with
  | zero =>
    intro _ h
    cases l with
    | nil => simp
    | cons a r => have := h a List.mem_cons_self; omega
  | succ n ih =>
    intro hp h
    rcases List.eq_nil_or_concat l with rfl | ⟨r, a, rfl⟩
    · simp
    · rw [List.concat_eq_append] at hp h ⊢
      obtain ⟨h1, _, h3⟩ := List.pairwise_append.1 hp
      have ha := h a (by simp)
      have := ih r h1 fun p hp => by
        have q1 := h p (by simp [hp])
        have q2 := h3 p hp a (by simp)
        omega
      simp; omega
theorem GI.len {n : Nat} {out : List (List Int)} (h : GI key n out) (k : Nat) : (out.getD k []).length ≤ n :=
  (fun (_ : DecidableEq K) => pw_len _ n (h.inc k) fun p hp => by obtain ⟨a, b, _⟩ := h.mem k p hp; exact ⟨a, b⟩) inferInstance
end
noncomputable instance valsDec : DecidableEq (List Val) := fun a b => Classical.propDecidable (a = b)
end
end Go.Proofs.YtcmfdbjdbbpomaaDoor.B
namespace Go.Proofs.YtcmfdbjdbbpomaaDoor.B
open Go Go.RowKit
set_option maxRecDepth 100000
noncomputable section
attribute [local irreducible] awp ctxK itersK iterK retQ retGQ
def M_strings_Compare : Mc Un := mach (tbl [(57, F_internal_bytealg_CompareString)]) (tbl []) (tbl []) (tbl []) (tbl [])
def N_strings_Compare : Nat → NS := fun l => (look l []).getD ⟨[], [], [], [], [], false⟩
def A_strings_Compare (r : Int) : List (A Un) := [.c (.s (.int .i64 r))]
def O_strings_Compare (_r : Int) : List (Ob Un) := []
theorem strings_Compare_in (a : ByteArray) (b : ByteArray) (K : List (A Un) → List (Ob Un) → Prop) :
    awp M_strings_Compare N_strings_Compare (bodyOf Tryd.f40) (entry Tryd.f40.ntmps 0 [.d (.v (cs a)), .d (.v (cs b))]) (retQ M_strings_Compare Tryd.f40.results.toList [.d] K) =
(K (A_strings_Compare (cmpS a b)) (O_strings_Compare (cmpS a b))) := by kernel_rfl
def strings_Compare_fn (a : ByteArray) (b : ByteArray) : Option (Int) :=
  some (cmpS a b)
theorem strings_Compare_run {a : ByteArray} {b : ByteArray} {r : Int} (h : strings_Compare_fn a b = some r) : Runs (awp M_strings_Compare N_strings_Compare (bodyOf Tryd.f40) (entry Tryd.f40.ntmps 0 [.d (.v (cs a)), .d (.v (cs b))]) (retQ M_strings_Compare Tryd.f40.results.toList [.d] fun rs os => rs = A_strings_Compare r ∧ os = O_strings_Compare r)) := by
  constructor
  rw [strings_Compare_in a b (fun rs os => rs = A_strings_Compare r ∧ os = O_strings_Compare r)]
  unfold strings_Compare_fn at h
  cases h
  exact ⟨rfl, rfl⟩
def strings_Compare (a : ByteArray) (b : ByteArray) : Int :=
  (cmpS a b)
theorem strings_Compare_eq (a : ByteArray) (b : ByteArray) : strings_Compare_fn a b = some (strings_Compare a b) := by unfold strings_Compare_fn strings_Compare; repeat (first | rfl | split)
def F_strings_Compare : FnC Un := fun args => match args with
  | [x0, x1] => (dStr x0).bind fun a => (dStr x1).bind fun b => some ([], A_strings_Compare (strings_Compare a b), O_strings_Compare (strings_Compare a b))
  | _ => none
theorem ok_strings_Compare : FnOK 40 F_strings_Compare := by
  intro args ob rs os h hob
  unfold F_strings_Compare at h
  split at h
  · simp only [Option.bind_eq_some_iff, Option.some.injEq, Prod.mk.injEq] at h
    obtain ⟨a, e0, b, e1, rfl, rfl, rfl⟩ := h
    obtain rfl := dStr_eq e0
    obtain rfl := dStr_eq e1
    exact ⟨fn_contract (M := M_strings_Compare) rfl (tbl_ok (l1 := [(57, F_internal_bytealg_CompareString)]) (l2 := []) (l3 := []) (l4 := []) (l5 := []) ⟨ok_internal_bytealg_CompareString, trivial⟩ trivial trivial trivial trivial) Tryd.func40 (by kernel_rfl) N_strings_Compare 0 [.d] (fun hwf => strings_Compare_run (strings_Compare_eq a b)), hasBody_of Tryd.func40 (by kernel_rfl) (by kernel_rfl)⟩
  · simp at h
def M_cmp_isNaN : Mc Un := mach (tbl []) (tbl []) (tbl []) (tbl []) (tbl [])
def N_cmp_isNaN : Nat → NS := fun l => (look l []).getD ⟨[], [], [], [], [], false⟩
def A_cmp_isNaN (r : Bool) : List (A Un) := [.c (.s (.bool r))]
def O_cmp_isNaN (_r : Bool) : List (Ob Un) := []
theorem cmp_isNaN_in (x : Int) (K : List (A Un) → List (Ob Un) → Prop) :
    awp M_cmp_isNaN N_cmp_isNaN (bodyOf Tryd.f39) (entry Tryd.f39.ntmps 0 [.d (.v (.s (.int .i64 x)))]) (retQ M_cmp_isNaN Tryd.f39.results.toList [.d] K) =
(K (A_cmp_isNaN (x != x)) (O_cmp_isNaN (x != x))) := by kernel_rfl
def cmp_isNaN_fn (x : Int) : Option (Bool) :=
  some (x != x)
theorem cmp_isNaN_run {x : Int} {r : Bool} (h : cmp_isNaN_fn x = some r) : Runs (awp M_cmp_isNaN N_cmp_isNaN (bodyOf Tryd.f39) (entry Tryd.f39.ntmps 0 [.d (.v (.s (.int .i64 x)))]) (retQ M_cmp_isNaN Tryd.f39.results.toList [.d] fun rs os => rs = A_cmp_isNaN r ∧ os = O_cmp_isNaN r)) := by
  constructor
  rw [cmp_isNaN_in x (fun rs os => rs = A_cmp_isNaN r ∧ os = O_cmp_isNaN r)]
  unfold cmp_isNaN_fn at h
  cases h
  exact ⟨rfl, rfl⟩
def cmp_isNaN (x : Int) : Bool :=
  (x != x)
theorem cmp_isNaN_eq (x : Int) : cmp_isNaN_fn x = some (cmp_isNaN x) := by unfold cmp_isNaN_fn cmp_isNaN; repeat (first | rfl | split)
def F_cmp_isNaN : FnC Un := fun args => match args with
  | [x0] => (dI .i64 x0).bind fun x => some ([], A_cmp_isNaN (cmp_isNaN x), O_cmp_isNaN (cmp_isNaN x))
  | _ => none
theorem ok_cmp_isNaN : FnOK 39 F_cmp_isNaN := by
  intro args ob rs os h hob
  unfold F_cmp_isNaN at h
  split at h
  · simp only [Option.bind_eq_some_iff, Option.some.injEq, Prod.mk.injEq] at h
    obtain ⟨x, e0, rfl, rfl, rfl⟩ := h
    obtain rfl := dI_eq e0
    exact ⟨fn_contract (M := M_cmp_isNaN) rfl (tbl_ok (l1 := []) (l2 := []) (l3 := []) (l4 := []) (l5 := []) trivial trivial trivial trivial trivial) Tryd.func39 (by kernel_rfl) N_cmp_isNaN 0 [.d] (fun hwf => cmp_isNaN_run (cmp_isNaN_eq x)), hasBody_of Tryd.func39 (by kernel_rfl) (by kernel_rfl)⟩
  · simp at h
def M_cmp_Compare : Mc Un := mach (tbl [(39, F_cmp_isNaN)]) (tbl []) (tbl []) (tbl []) (tbl [])
def N_cmp_Compare : Nat → NS := fun l => (look l []).getD ⟨[], [], [], [], [], false⟩
def A_cmp_Compare (r : Int) : List (A Un) := [.c (.s (.int .i64 r))]
def O_cmp_Compare (_r : Int) : List (Ob Un) := []
theorem cmp_Compare_in (x : Int) (y : Int) (K : List (A Un) → List (Ob Un) → Prop) :
    awp M_cmp_Compare N_cmp_Compare (bodyOf Tryd.f25) (entry Tryd.f25.ntmps 0 [.d (.v (.s (.int .i64 x))), .d (.v (.s (.int .i64 y)))]) (retQ M_cmp_Compare Tryd.f25.results.toList [.d] K) =
(cnd (cmp_isNaN x)
 (cnd (cmp_isNaN y)
  (K (A_cmp_Compare ((0 : Int))) (O_cmp_Compare ((0 : Int))))
  (K (A_cmp_Compare ((-1 : Int))) (O_cmp_Compare ((-1 : Int)))))
 (cnd (cmp_isNaN y)
  (K (A_cmp_Compare ((1 : Int))) (O_cmp_Compare ((1 : Int))))
  (cnd (decide (x < y))
   (K (A_cmp_Compare ((-1 : Int))) (O_cmp_Compare ((-1 : Int))))
   (cnd (decide (x > y))
    (K (A_cmp_Compare ((1 : Int))) (O_cmp_Compare ((1 : Int))))
    (K (A_cmp_Compare ((0 : Int))) (O_cmp_Compare ((0 : Int)))))))) := by kernel_rfl
def cmp_Compare_fn (x : Int) (y : Int) : Option (Int) :=
  if (cmp_isNaN x) = true then
   if (cmp_isNaN y) = true then
    some ((0 : Int))
   else
    some ((-1 : Int))
  else
   if (cmp_isNaN y) = true then
    some ((1 : Int))
   else
    if (decide (x < y)) = true then
     some ((-1 : Int))
    else
     if (decide (x > y)) = true then
      some ((1 : Int))
     else
      some ((0 : Int))
theorem cmp_Compare_run {x : Int} {y : Int} {r : Int} (h : cmp_Compare_fn x y = some r) : Runs (awp M_cmp_Compare N_cmp_Compare (bodyOf Tryd.f25) (entry Tryd.f25.ntmps 0 [.d (.v (.s (.int .i64 x))), .d (.v (.s (.int .i64 y)))]) (retQ M_cmp_Compare Tryd.f25.results.toList [.d] fun rs os => rs = A_cmp_Compare r ∧ os = O_cmp_Compare r)) := by
  constructor
  rw [cmp_Compare_in x y (fun rs os => rs = A_cmp_Compare r ∧ os = O_cmp_Compare r)]
  unfold cmp_Compare_fn at h
  rcases ite_some h with ⟨c1, h2⟩ | ⟨c1, h2⟩
  · rcases ite_some h2 with ⟨c3, h4⟩ | ⟨c3, h4⟩
    · cases h4
      exact (cnd_t c1 (cnd_t c3 ⟨rfl, rfl⟩))
    · cases h4
      exact (cnd_t c1 (cnd_f (bfalse c3) ⟨rfl, rfl⟩))
  · rcases ite_some h2 with ⟨c5, h6⟩ | ⟨c5, h6⟩
    · cases h6
      exact (cnd_f (bfalse c1) (cnd_t c5 ⟨rfl, rfl⟩))
    · rcases ite_some h6 with ⟨c7, h8⟩ | ⟨c7, h8⟩
      · cases h8
        exact (cnd_f (bfalse c1) (cnd_f (bfalse c5) (cnd_t c7 ⟨rfl, rfl⟩)))
      · rcases ite_some h8 with ⟨c9, h10⟩ | ⟨c9, h10⟩
        · cases h10
          exact (cnd_f (bfalse c1) (cnd_f (bfalse c5) (cnd_f (bfalse c7) (cnd_t c9 ⟨rfl, rfl⟩))))
        · cases h10
          exact (cnd_f (bfalse c1) (cnd_f (bfalse c5) (cnd_f (bfalse c7) (cnd_f (bfalse c9) ⟨rfl, rfl⟩))))
def cmp_Compare (x : Int) (y : Int) : Int :=
  if (cmp_isNaN x) = true then
   if (cmp_isNaN y) = true then
    ((0 : Int))
   else
    ((-1 : Int))
  else
   if (cmp_isNaN y) = true then
    ((1 : Int))
   else
    if (decide (x < y)) = true then
     ((-1 : Int))
    else
     if (decide (x > y)) = true then
      ((1 : Int))
     else
      ((0 : Int))
theorem cmp_Compare_eq (x : Int) (y : Int) : cmp_Compare_fn x y = some (cmp_Compare x y) := by unfold cmp_Compare_fn cmp_Compare; repeat (first | rfl | split)
def F_cmp_Compare : FnC Un := fun args => match args with
  | [x0, x1] => (dI .i64 x0).bind fun x => (dI .i64 x1).bind fun y => some ([], A_cmp_Compare (cmp_Compare x y), O_cmp_Compare (cmp_Compare x y))
  | _ => none
theorem ok_cmp_Compare : FnOK 25 F_cmp_Compare := by
  intro args ob rs os h hob
  unfold F_cmp_Compare at h
  split at h
  · simp only [Option.bind_eq_some_iff, Option.some.injEq, Prod.mk.injEq] at h
    obtain ⟨x, e0, y, e1, rfl, rfl, rfl⟩ := h
    obtain rfl := dI_eq e0
    obtain rfl := dI_eq e1
    exact ⟨fn_contract (M := M_cmp_Compare) rfl (tbl_ok (l1 := [(39, F_cmp_isNaN)]) (l2 := []) (l3 := []) (l4 := []) (l5 := []) ⟨ok_cmp_isNaN, trivial⟩ trivial trivial trivial trivial) Tryd.func25 (by kernel_rfl) N_cmp_Compare 0 [.d] (fun hwf => cmp_Compare_run (cmp_Compare_eq x y)), hasBody_of Tryd.func25 (by kernel_rfl) (by kernel_rfl)⟩
  · simp at h
@[simp] theorem cmp_Compare_spec (x y : Int) : cmp_Compare x y = cmpI x y := by
  unfold cmp_Compare cmp_isNaN cmpI
  simp
@[simp] theorem strings_Compare_spec (a b : ByteArray) : strings_Compare a b = cmpS a b := rfl
def M_cmp_Or : Mc Un := mach (tbl []) (tbl []) (tbl []) (tbl []) (tbl [])
def N_cmp_Or : Nat → NS := fun l => (look l [(3, { ts := [false, false, true, true, false, false, true, true, true, false, false, false, false, false, false, false, false, false], bs := [false, false, false, false, false, false, false, false, false, false, false, false, false, false, false, false, false, false], nm := [], gb := [], gs := [] })]).getD ⟨[], [], [], [], [], false⟩
def A_cmp_Or (r : Int) : List (A Un) := [.c (.s (.int .i64 r))]
def O_cmp_Or (_r : Int) : List (Ob Un) := []
def cmp_Or_s3 (vals : List Int) (v0 : Int) : S Un := (st 18 18 72 0 [(2, AV.one (A.c (C.s (Value.int IntKind.i64 (0 : Int))))), (3, AV.one (A.c (C.s (Value.int IntKind.i64 (0 : Int))))), (6, AV.one (A.c (C.sl Ty.int vals false))), (7, AV.one (A.c (C.s (Value.int IntKind.i64 (↑vals.length : Int))))), (8, AV.one (A.c (C.s (Value.int IntKind.i64 v0))))] [] [])
def cmp_Or_e3_ret (vals : List Int) (v0 : Int) (v1 : Int) : S Un := (st 18 18 72 0 [(2, AV.one (A.c (C.s (Value.int IntKind.i64 v1)))), (3, AV.one (A.c (C.s (Value.int IntKind.i64 (0 : Int))))), (6, AV.one (A.c (C.sl Ty.int vals false))), (7, AV.one (A.c (C.s (Value.int IntKind.i64 (↑vals.length : Int))))), (8, AV.one (A.c (C.s (Value.int IntKind.i64 v0))))] [] [])
theorem cmp_Or_in (vals : List Int) (K : List (A Un) → List (Ob Un) → Prop) :
    awp M_cmp_Or N_cmp_Or (bodyOf Tryd.f24) (entry Tryd.f24.ntmps 0 [.d (.v (.dat (U := Un) Ty.int vals))]) (retQ M_cmp_Or Tryd.f24.results.toList [.d] K) =
(itersK (N_cmp_Or 3) (awp M_cmp_Or N_cmp_Or (sub (bodyOf Tryd.f24) [1, 1, 0, 1, 2, 2])) (ctxK M_cmp_Or N_cmp_Or (bodyOf Tryd.f24) [1, 1, 0, 1, 2] (retQ M_cmp_Or Tryd.f24.results.toList [.d] K)) (cmp_Or_s3 vals (0 : Int))) := by kernel_rfl
theorem cmp_Or_l3 (vals : List Int) (v0 : Int) (k : Nat) (Q : Exit → S Un → Prop) :
    iterK (N_cmp_Or 3) (awp M_cmp_Or N_cmp_Or (sub (bodyOf Tryd.f24) [1, 1, 0, 1, 2, 2])) Q (k + 1) (cmp_Or_s3 vals v0) =
(cnd (decide (v0 < (↑vals.length : Int)))
 (((0 : Int) ≤ v0 ∧ v0 < (↑vals.length : Int)) ∧
 (cnd (vals.getD v0.toNat (0 : Int) != (0 : Int))
  (Q .ret (cmp_Or_e3_ret vals v0 (vals.getD v0.toNat (0 : Int))))
  (iterK (N_cmp_Or 3) (awp M_cmp_Or N_cmp_Or (sub (bodyOf Tryd.f24) [1, 1, 0, 1, 2, 2])) Q k (cmp_Or_s3 vals (IntKind.i64.wrap (v0 + (1 : Int)))))))
 (Q (.exit 0) (cmp_Or_s3 vals v0))) := by kernel_rfl
theorem cmp_Or_a3_ret (vals : List Int) (v0 : Int) (v1 : Int) (K : List (A Un) → List (Ob Un) → Prop) :
    ctxK M_cmp_Or N_cmp_Or (bodyOf Tryd.f24) [1, 1, 0, 1, 2] (retQ M_cmp_Or Tryd.f24.results.toList [.d] K) .ret (cmp_Or_e3_ret vals v0 v1) =
(K (A_cmp_Or (v1)) (O_cmp_Or (v1))) := by kernel_rfl
theorem cmp_Or_a3_x0 (vals : List Int) (v0 : Int) (K : List (A Un) → List (Ob Un) → Prop) :
    ctxK M_cmp_Or N_cmp_Or (bodyOf Tryd.f24) [1, 1, 0, 1, 2] (retQ M_cmp_Or Tryd.f24.results.toList [.d] K) (.exit 0) (cmp_Or_s3 vals v0) =
(K (A_cmp_Or ((0 : Int))) (O_cmp_Or ((0 : Int)))) := by kernel_rfl
def cmp_Or_S3 (vals : List Int) (v : Int) : Option ((Int) ⊕ ((Int × Int) ⊕ (Int))) :=
  if (decide (v < (↑vals.length : Int))) = true then
   if (0 : Int) ≤ v ∧ v < (↑vals.length : Int) then
    if (vals.getD v.toNat (0 : Int) != (0 : Int)) = true then
     some (.inr (.inl (v, (vals.getD v.toNat (0 : Int)))))
    else
     some (.inl (IntKind.i64.wrap (v + (1 : Int))))
   else none
  else
   some (.inr (.inr v))
def cmp_Or_L3 (vals : List Int) (v : Int) : Option ((Int × Int) ⊕ (Int)) := loopO (cmp_Or_S3 vals) v
theorem cmp_Or_L3_eq (vals : List Int) (v : Int) : cmp_Or_L3 vals v = stepB (cmp_Or_L3 vals) (cmp_Or_S3 vals v) := loopO_eq _ _
def cmp_Or_Q3 (vals : List Int) (r : (Int × Int) ⊕ (Int)) (Q : Exit → S Un → Prop) : Prop := match r with | .inl x => Q .ret (cmp_Or_e3_ret vals x.1 x.2) | .inr x => Q (.exit 0) (cmp_Or_s3 vals x)
theorem cmp_Or_Q3_ret {vals : List Int} {x : Int × Int} {Q : Exit → S Un → Prop} (h : Q .ret (cmp_Or_e3_ret vals x.1 x.2)) : cmp_Or_Q3 vals (.inl x) Q := h
theorem cmp_Or_Q3_x0 {vals : List Int} {x : Int} {Q : Exit → S Un → Prop} (h : Q (.exit 0) (cmp_Or_s3 vals x)) : cmp_Or_Q3 vals (.inr x) Q := h
theorem cmp_Or_L3_run {vals : List Int} {v : Int} {r : (Int × Int) ⊕ (Int)} (h : cmp_Or_L3 vals v = some r) (Q : Exit → S Un → Prop) (hQ : cmp_Or_Q3 vals r Q) : itersK (N_cmp_Or 3) (awp M_cmp_Or N_cmp_Or (sub (bodyOf Tryd.f24) [1, 1, 0, 1, 2, 2])) Q (cmp_Or_s3 vals v) := by
  refine @loop_run _ _ (cmp_Or_S3 vals) (fun v => itersK (N_cmp_Or 3) (awp M_cmp_Or N_cmp_Or (sub (bodyOf Tryd.f24) [1, 1, 0, 1, 2, 2])) Q (cmp_Or_s3 vals v)) (fun r => cmp_Or_Q3 vals r Q) ?_ v r h hQ
  intro v o h hI
  unfold cmp_Or_S3 at h
  rcases ite_some h with ⟨c1, h2⟩ | ⟨c1, h2⟩
  · obtain ⟨c3, h4⟩ := ob_some h2
    rcases ite_some h4 with ⟨c5, h6⟩ | ⟨c5, h6⟩
    · cases h6
      exact itersK_mk 1 (mpr (cmp_Or_l3 vals v 0 Q) (cnd_t c1 (And.intro c3 (cnd_t c5 hI))))
    · cases h6
      obtain ⟨k7, hk8⟩ := itersK_get hI
      exact itersK_mk (k7 + 1) (mpr (cmp_Or_l3 vals v k7 Q) (cnd_t c1 (And.intro c3 (cnd_f (bfalse c5) hk8))))
  · cases h2
    exact itersK_mk 1 (mpr (cmp_Or_l3 vals v 0 Q) (cnd_f (bfalse c1) hI))
def cmp_Or_fn (vals : List Int) : Option (Int) :=
  (cmp_Or_L3 vals (0 : Int)) >>= fun o9 => match o9 with
   | .inl o10 =>
     some (o10.2)
   | .inr o11 =>
     some ((0 : Int))
theorem cmp_Or_run {vals : List Int} {r : Int} (h : cmp_Or_fn vals = some r) : Runs (awp M_cmp_Or N_cmp_Or (bodyOf Tryd.f24) (entry Tryd.f24.ntmps 0 [.d (.v (.dat (U := Un) Ty.int vals))]) (retQ M_cmp_Or Tryd.f24.results.toList [.d] fun rs os => rs = A_cmp_Or r ∧ os = O_cmp_Or r)) := by
  constructor
  rw [cmp_Or_in vals (fun rs os => rs = A_cmp_Or r ∧ os = O_cmp_Or r)]
  unfold cmp_Or_fn at h
  obtain ⟨o12, ho13, h14⟩ := bind_some h
  rcases o12 with o15 | o16
  · cases h14
    exact (cmp_Or_L3_run ho13 _ (cmp_Or_Q3_ret (mpr (cmp_Or_a3_ret vals o15.1 o15.2 _) ⟨rfl, rfl⟩)))
  · cases h14
    exact (cmp_Or_L3_run ho13 _ (cmp_Or_Q3_x0 (mpr (cmp_Or_a3_x0 vals o16 _) ⟨rfl, rfl⟩)))
def orL : List Int → Int
  | [] => 0
  | x :: r => if x = 0 then orL r else x
def cmp_Or (vals : List Int) : Int := orL vals
@[simp] theorem cmp_Or_eq (vals : List Int) : cmp_Or vals = orL vals := by unfold cmp_Or; rfl
theorem cmp_Or_loop (vals : List Int) (h : WL .int vals) : ∀ (r : List Int) (i : Nat), vals.drop i = r →
    ∃ o, cmp_Or_L3 vals i = some o ∧ (match o with | .inl o => o.2 | .inr _ => 0) = orL r := by
  intro r
  induction r with
  | nil =>
    intro i h1
    have e1 := drop_nil h1
    have hn : ¬ ((i : Int) < vals.length) := by omega
    exact ⟨.inr i, by rw [cmp_Or_L3_eq, cmp_Or_S3]; simp [hn], rfl⟩
  | cons x r ih =>
    intro i h1
    obtain ⟨a1, a2, a3, _⟩ := drop_cons h1
    have hp : (i : Int) < vals.length := by omega
    have hi : (0 : Int) ≤ i := by omega
    rw [cmp_Or_L3_eq, cmp_Or_S3]
    simp only [hp, hi, decide_true, if_true, and_self, Int.toNat_natCast, a2, bne_iff_ne, ne_eq, ite_not, orL]
    by_cases hx : x = 0
    · rw [if_pos hx, if_pos hx, wrap_succ a1 h.len, stepB_inl]; exact ih (i + 1) a3
    · exact ⟨_, by rw [if_neg hx, stepB_inr], by rw [if_neg hx]⟩
theorem cmp_Or_spec (vals : List Int) (h : WL .int vals) : cmp_Or_fn vals = some (cmp_Or vals) := by
  obtain ⟨o, ho, e⟩ := cmp_Or_loop vals h _ 0 rfl
  unfold cmp_Or_fn cmp_Or
  simp only [List.drop_zero] at e
  rw [← e]
  have ho' : cmp_Or_L3 vals 0 = some o := ho
  rw [ho']
  cases o <;> rfl
def F_cmp_Or : FnC Un := fun args => match args with
  | [x0] => (dL .int x0).bind fun vals => some ([], A_cmp_Or (cmp_Or vals), O_cmp_Or (cmp_Or vals))
  | _ => none
theorem ok_cmp_Or : FnOK 24 F_cmp_Or := by
  intro args ob rs os h hob
  unfold F_cmp_Or at h
  split at h
  · simp only [Option.bind_eq_some_iff, Option.some.injEq, Prod.mk.injEq] at h
    obtain ⟨vals, e0, rfl, rfl, rfl⟩ := h
    obtain rfl := dL_eq e0
    exact ⟨fn_contract (M := M_cmp_Or) rfl (tbl_ok (l1 := []) (l2 := []) (l3 := []) (l4 := []) (l5 := []) trivial trivial trivial trivial trivial) Tryd.func24 (by kernel_rfl) N_cmp_Or 0 [.d] (fun hwf => cmp_Or_run (cmp_Or_spec vals (wfArg hwf (a := .d (.v (.dat (U := Un) Ty.int vals))) (List.mem_of_getElem? (i := 0) rfl)))), hasBody_of Tryd.func24 (by kernel_rfl) (by kernel_rfl)⟩
  · simp at h
end
end Go.Proofs.YtcmfdbjdbbpomaaDoor.B
