/- Part 24 of the proof: Slarge Slargesz. -/
import Derived.Test.YtjmpnpkcgkhagaaGreatCtr23
namespace Go.Proofs.YtjmpnpkcgkhagaaGreat.B
open Go Go.RowKit
set_option maxRecDepth 100000
noncomputable section
attribute [local irreducible] awp ctxK itersK iterK retQ retGQ
abbrev SpP := (List Term → Int → Int) × (List Rel → Int → Int)
def loopT (p : SpP) : List Term → Int → Int
  | [], n => n
  | t :: r, n => if n ≤ 0 then n else loopT p r (p.1 t.kids (p.2 t.sub (n - 1)))
def loopA (p : SpP) : List Agg → Int → Int
  | [], n => n
  | a :: r, n => if n ≤ 0 then n else loopA p r (p.1 a.t (n - 1))
def loopR (p : SpP) : List Rel → Int → Int
  | [], n => n
  | x :: r, n => if n ≤ 0 then n else loopR p r (p.2 x.kids (loopA p x.aggs (p.1 x.terms (n - 1 - x.rows.length))))
def spD : Nat → SpP
  | 0 => (fun l n => if l = [] ∨ n ≤ 0 then n else 0, fun l n => if l = [] ∨ n ≤ 0 then n else 0)
  | d + 1 => (loopT (spD d), loopR (spD d))
def SpLe (p : SpP) : Prop := (∀ l n, p.1 l n ≤ max n 0) ∧ ∀ l n, p.2 l n ≤ max n 0
theorem loopT_le {p : SpP} (h : SpLe p) : ∀ l n, loopT p l n ≤ max n 0
  | [], n => by simp only [loopT]; omega
  | t :: r, n => by
    simp only [loopT]; split
    · omega
    · have h1 := loopT_le h r (p.1 t.kids (p.2 t.sub (n - 1)))
      have h2 := h.1 t.kids (p.2 t.sub (n - 1)); have h3 := h.2 t.sub (n - 1)
      omega
theorem loopA_le {p : SpP} (h : SpLe p) : ∀ l n, loopA p l n ≤ max n 0
  | [], n => by simp only [loopA]; omega
  | a :: r, n => by
    simp only [loopA]; split
    · omega
    · have h1 := loopA_le h r (p.1 a.t (n - 1))
      have h2 := h.1 a.t (n - 1)
      omega
theorem loopR_le {p : SpP} (h : SpLe p) : ∀ l n, loopR p l n ≤ max n 0
  | [], n => by simp only [loopR]; omega
  | x :: r, n => by
    simp only [loopR]; split
    · omega
    · have h1 := loopR_le h r (p.2 x.kids (loopA p x.aggs (p.1 x.terms (n - 1 - x.rows.length))))
      have h2 := h.2 x.kids (loopA p x.aggs (p.1 x.terms (n - 1 - x.rows.length)))
      have h3 := loopA_le h x.aggs (p.1 x.terms (n - 1 - x.rows.length))
      have h4 := h.1 x.terms (n - 1 - x.rows.length)
      omega
theorem spD_le : ∀ d, SpLe (spD d)
  | 0 => by constructor <;> (intro l n; simp only [spD]; split <;> omega)
  | d + 1 => ⟨loopT_le (spD_le d), loopR_le (spD_le d)⟩
def l21_spent (l : List Term) (n deep : Int) : Int := (spD deep.toNat).1 l n
def l21_spentR (l : List Rel) (n deep : Int) : Int := (spD deep.toNat).2 l n
def A_l21_spent (r : Int) : List (A Un) := [.c (.s (.int .i64 r))]
def O_l21_spent (_r : Int) : List (Ob Un) := []
def Fm_l21_spent (m : Nat) : FnC Un := fun args => match args with
  | [x0, x1, x2] => (dL .term x0).bind fun l => (dI .i64 x1).bind fun n => (dI .i64 x2).bind fun deep => some ([deep.toNat < m, 0 ≤ deep], A_l21_spent (l21_spent l n deep), O_l21_spent (l21_spent l n deep))
  | _ => none
def A_l21_spentR (r : Int) : List (A Un) := [.c (.s (.int .i64 r))]
def O_l21_spentR (_r : Int) : List (Ob Un) := []
def Fm_l21_spentR (m : Nat) : FnC Un := fun args => match args with
  | [x0, x1, x2] => (dL .rel x0).bind fun l => (dI .i64 x1).bind fun n => (dI .i64 x2).bind fun deep => some ([deep.toNat < m, 0 ≤ deep], A_l21_spentR (l21_spentR l n deep), O_l21_spentR (l21_spentR l n deep))
  | _ => none
def M_l21_spent (m : Nat) : Mc Un := mach (tbl [(56, Fm_l21_spentR m), (19, Fm_l21_spent m)]) (tbl []) (tbl []) (tbl []) (tbl [])
def N_l21_spent : Nat → NS := fun l => (look l [(2, { ts := [true, true, true, false, false, false, true, true, false, false, false, false, false, false, false, false, false, false, false, false, false, false, false, false, false, false, false, false, false, false, false, false, false, false, false, false, false, false, false], bs := [false, false, false, false, false, false, false, false, false, false, false, false, false, false, false, false, false, false, false, false, false, false, false, false, false, false, false, false, false, false, false, false, false, false, false, false, false, false, false], nm := [], gb := [], gs := [] })]).getD ⟨[], [], [], [], [], false⟩
def l21_spent_s2 (m : Nat) (l : List Term) (n : Int) (deep : Int) (v0 : Int) (v1 : Int) : S Un := (st 39 39 156 0 [(0, AV.one (A.c (C.sl Ty.term l false))), (1, AV.one (A.c (C.s (Value.int IntKind.i64 v0)))), (2, AV.one (A.c (C.s (Value.int IntKind.i64 deep)))), (6, AV.one (A.c (C.s (Value.int IntKind.i64 (0 : Int))))), (7, AV.one (A.c (C.s (Value.int IntKind.i64 v1))))] [] [])
theorem l21_spent_in (m : Nat) (l : List Term) (n : Int) (deep : Int) (K : List (A Un) → List (Ob Un) → Prop) :
    awp (M_l21_spent m) N_l21_spent (bodyOf Tryz.f19) (entry Tryz.f19.ntmps 0 [.d (.v (.dat (U := Un) Ty.term l)), .d (.v (.s (.int .i64 n))), .d (.v (.s (.int .i64 deep)))]) (retQ (M_l21_spent m) Tryz.f19.results.toList [.d] K) =
(itersK (N_l21_spent 2) (awp (M_l21_spent m) N_l21_spent (sub (bodyOf Tryz.f19) [1, 0, 1, 2, 2])) (ctxK (M_l21_spent m) N_l21_spent (bodyOf Tryz.f19) [1, 0, 1, 2] (retQ (M_l21_spent m) Tryz.f19.results.toList [.d] K)) (l21_spent_s2 m l n deep n (0 : Int))) := by kernel_rfl
theorem l21_spent_l2 (m : Nat) (l : List Term) (n : Int) (deep : Int) (v0 : Int) (v1 : Int) (k : Nat) (Q : Exit → S Un → Prop) :
    iterK (N_l21_spent 2) (awp (M_l21_spent m) N_l21_spent (sub (bodyOf Tryz.f19) [1, 0, 1, 2, 2])) Q (k + 1) (l21_spent_s2 m l n deep v0 v1) =
(cnd (decide (v1 < (↑l.length : Int)))
 (cnd (decide (v0 > (0 : Int)))
  (cnd (deep == (0 : Int))
   (Q .ret (l21_spent_s2 m l n deep v0 v1))
   (((0 : Int) ≤ v1 ∧ v1 < (↑l.length : Int)) ∧
   (((0 : Int) ≤ v1 ∧ v1 < (↑l.length : Int)) ∧
   (((IntKind.i64.wrap (deep - (1 : Int))).toNat < m) ∧
   (((0 : Int) ≤ IntKind.i64.wrap (deep - (1 : Int))) ∧
   (((IntKind.i64.wrap (deep - (1 : Int))).toNat < m) ∧
   (((0 : Int) ≤ IntKind.i64.wrap (deep - (1 : Int))) ∧
   (iterK (N_l21_spent 2) (awp (M_l21_spent m) N_l21_spent (sub (bodyOf Tryz.f19) [1, 0, 1, 2, 2])) Q k (l21_spent_s2 m l n deep (l21_spent (Term.kids (l.getD v1.toNat zeroTerm)) (l21_spentR (Term.sub (l.getD v1.toNat zeroTerm)) (IntKind.i64.wrap (v0 - (1 : Int))) (IntKind.i64.wrap (deep - (1 : Int)))) (IntKind.i64.wrap (deep - (1 : Int)))) (IntKind.i64.wrap (v1 + (1 : Int))))))))))))
  (Q (.exit 0) (l21_spent_s2 m l n deep v0 v1)))
 (Q (.exit 0) (l21_spent_s2 m l n deep v0 v1))) := by kernel_rfl
theorem l21_spent_a2_ret (m : Nat) (l : List Term) (n : Int) (deep : Int) (v0 : Int) (v1 : Int) (K : List (A Un) → List (Ob Un) → Prop) :
    ctxK (M_l21_spent m) N_l21_spent (bodyOf Tryz.f19) [1, 0, 1, 2] (retQ (M_l21_spent m) Tryz.f19.results.toList [.d] K) .ret (l21_spent_s2 m l n deep v0 v1) =
(K (A_l21_spent ((0 : Int))) (O_l21_spent ((0 : Int)))) := by kernel_rfl
theorem l21_spent_a2_x0 (m : Nat) (l : List Term) (n : Int) (deep : Int) (v0 : Int) (v1 : Int) (K : List (A Un) → List (Ob Un) → Prop) :
    ctxK (M_l21_spent m) N_l21_spent (bodyOf Tryz.f19) [1, 0, 1, 2] (retQ (M_l21_spent m) Tryz.f19.results.toList [.d] K) (.exit 0) (l21_spent_s2 m l n deep v0 v1) =
(K (A_l21_spent (v0)) (O_l21_spent (v0))) := by kernel_rfl
def l21_spent_S2 (m : Nat) (l : List Term) (n : Int) (deep : Int) (v : Int × Int) : Option ((Int × Int) ⊕ ((Int × Int) ⊕ (Int × Int))) :=
  if (decide (v.2 < (↑l.length : Int))) = true then
   if (decide (v.1 > (0 : Int))) = true then
    if (deep == (0 : Int)) = true then
     some (.inr (.inl (v.1, v.2)))
    else
     if (0 : Int) ≤ v.2 ∧ v.2 < (↑l.length : Int) then
      if (0 : Int) ≤ v.2 ∧ v.2 < (↑l.length : Int) then
       if (IntKind.i64.wrap (deep - (1 : Int))).toNat < m then
        if (0 : Int) ≤ IntKind.i64.wrap (deep - (1 : Int)) then
         if (IntKind.i64.wrap (deep - (1 : Int))).toNat < m then
          if (0 : Int) ≤ IntKind.i64.wrap (deep - (1 : Int)) then
           some (.inl ((l21_spent (Term.kids (l.getD v.2.toNat zeroTerm)) (l21_spentR (Term.sub (l.getD v.2.toNat zeroTerm)) (IntKind.i64.wrap (v.1 - (1 : Int))) (IntKind.i64.wrap (deep - (1 : Int)))) (IntKind.i64.wrap (deep - (1 : Int)))), (IntKind.i64.wrap (v.2 + (1 : Int)))))
          else none
         else none
        else none
       else none
      else none
     else none
   else
    some (.inr (.inr (v.1, v.2)))
  else
   some (.inr (.inr (v.1, v.2)))
def l21_spent_L2 (m : Nat) (l : List Term) (n : Int) (deep : Int) (v : Int × Int) : Option ((Int × Int) ⊕ (Int × Int)) := loopO (l21_spent_S2 m l n deep) v
theorem l21_spent_L2_eq (m : Nat) (l : List Term) (n : Int) (deep : Int) (v : Int × Int) : l21_spent_L2 m l n deep v = stepB (l21_spent_L2 m l n deep) (l21_spent_S2 m l n deep v) := loopO_eq _ _
def l21_spent_Q2 (m : Nat) (l : List Term) (n : Int) (deep : Int) (r : (Int × Int) ⊕ (Int × Int)) (Q : Exit → S Un → Prop) : Prop := match r with | .inl x => Q .ret (l21_spent_s2 m l n deep x.1 x.2) | .inr x => Q (.exit 0) (l21_spent_s2 m l n deep x.1 x.2)
theorem l21_spent_Q2_ret {m : Nat} {l : List Term} {n : Int} {deep : Int} {x : Int × Int} {Q : Exit → S Un → Prop} (h : Q .ret (l21_spent_s2 m l n deep x.1 x.2)) : l21_spent_Q2 m l n deep (.inl x) Q := h
theorem l21_spent_Q2_x0 {m : Nat} {l : List Term} {n : Int} {deep : Int} {x : Int × Int} {Q : Exit → S Un → Prop} (h : Q (.exit 0) (l21_spent_s2 m l n deep x.1 x.2)) : l21_spent_Q2 m l n deep (.inr x) Q := h
theorem l21_spent_L2_run {m : Nat} {l : List Term} {n : Int} {deep : Int} {v : Int × Int} {r : (Int × Int) ⊕ (Int × Int)} (h : l21_spent_L2 m l n deep v = some r) (Q : Exit → S Un → Prop) (hQ : l21_spent_Q2 m l n deep r Q) : itersK (N_l21_spent 2) (awp (M_l21_spent m) N_l21_spent (sub (bodyOf Tryz.f19) [1, 0, 1, 2, 2])) Q (l21_spent_s2 m l n deep v.1 v.2) := by
  refine @loop_run _ _ (l21_spent_S2 m l n deep) (fun v => itersK (N_l21_spent 2) (awp (M_l21_spent m) N_l21_spent (sub (bodyOf Tryz.f19) [1, 0, 1, 2, 2])) Q (l21_spent_s2 m l n deep v.1 v.2)) (fun r => l21_spent_Q2 m l n deep r Q) ?_ v r h hQ
  intro v o h hI
  unfold l21_spent_S2 at h
  rcases ite_some h with ⟨c1, h2⟩ | ⟨c1, h2⟩
  · rcases ite_some h2 with ⟨c3, h4⟩ | ⟨c3, h4⟩
    · rcases ite_some h4 with ⟨c5, h6⟩ | ⟨c5, h6⟩
      · cases h6
        exact itersK_mk 1 (mpr (l21_spent_l2 m l n deep v.1 v.2 0 Q) (cnd_t c1 (cnd_t c3 (cnd_t c5 hI))))
      · obtain ⟨c7, h8⟩ := ob_some h6
        obtain ⟨c9, h10⟩ := ob_some h8
        obtain ⟨c11, h12⟩ := ob_some h10
        obtain ⟨c13, h14⟩ := ob_some h12
        obtain ⟨c15, h16⟩ := ob_some h14
        obtain ⟨c17, h18⟩ := ob_some h16
        cases h18
        obtain ⟨k19, hk20⟩ := itersK_get hI
        exact itersK_mk (k19 + 1) (mpr (l21_spent_l2 m l n deep v.1 v.2 k19 Q) (cnd_t c1 (cnd_t c3 (cnd_f (bfalse c5) (And.intro c7 (And.intro c9 (And.intro c11 (And.intro c13 (And.intro c15 (And.intro c17 hk20))))))))))
    · cases h4
      exact itersK_mk 1 (mpr (l21_spent_l2 m l n deep v.1 v.2 0 Q) (cnd_t c1 (cnd_f (bfalse c3) hI)))
  · cases h2
    exact itersK_mk 1 (mpr (l21_spent_l2 m l n deep v.1 v.2 0 Q) (cnd_f (bfalse c1) hI))
def l21_spent_fn (m : Nat) (l : List Term) (n : Int) (deep : Int) : Option (Int) :=
  (l21_spent_L2 m l n deep (n, (0 : Int))) >>= fun o21 => match o21 with
   | .inl o22 =>
     some ((0 : Int))
   | .inr o23 =>
     some (o23.1)
theorem l21_spent_run {m : Nat} {l : List Term} {n : Int} {deep : Int} {r : Int} (h : l21_spent_fn m l n deep = some r) : Runs (awp (M_l21_spent m) N_l21_spent (bodyOf Tryz.f19) (entry Tryz.f19.ntmps 0 [.d (.v (.dat (U := Un) Ty.term l)), .d (.v (.s (.int .i64 n))), .d (.v (.s (.int .i64 deep)))]) (retQ (M_l21_spent m) Tryz.f19.results.toList [.d] fun rs os => rs = A_l21_spent r ∧ os = O_l21_spent r)) := by
  constructor
  rw [l21_spent_in m l n deep (fun rs os => rs = A_l21_spent r ∧ os = O_l21_spent r)]
  unfold l21_spent_fn at h
  obtain ⟨o24, ho25, h26⟩ := bind_some h
  rcases o24 with o27 | o28
  · cases h26
    exact (l21_spent_L2_run ho25 _ (l21_spent_Q2_ret (mpr (l21_spent_a2_ret m l n deep o27.1 o27.2 _) ⟨rfl, rfl⟩)))
  · cases h26
    exact (l21_spent_L2_run ho25 _ (l21_spent_Q2_x0 (mpr (l21_spent_a2_x0 m l n deep o28.1 o28.2 _) ⟨rfl, rfl⟩)))
theorem spent_loop0 (m : Nat) (l : List Term) (n : Int) : ∀ (r : List Term) (i : Nat) (a : Int), l.drop i = r →
    ∃ o, l21_spent_L2 m l n 0 (a, (i : Int)) = some o ∧ (match o with | .inl _ => 0 | .inr o => o.1) = if r = [] ∨ a ≤ 0 then a else 0 := by
  intro r i a h1
  cases r with
  | nil =>
    have e1 := drop_nil h1
    have hn : ¬ ((i : Int) < l.length) := by omega
    exact ⟨.inr (a, i), by rw [l21_spent_L2_eq, l21_spent_S2]; simp [hn], by simp⟩
  | cons t r =>
    obtain ⟨a1, a2, a3, _⟩ := drop_cons h1
    have hp : (i : Int) < l.length := by omega
    rw [l21_spent_L2_eq, l21_spent_S2]
    by_cases ha : a > 0
    · exact ⟨.inl (a, i), by simp [hp, ha], by simp; omega⟩
    · exact ⟨.inr (a, i), by simp [hp, ha], by rw [if_pos (by right; omega)]⟩
theorem spent_loopS (m : Nat) (l : List Term) (n : Int) (d : Nat) (hd : (d : Int) + 1 ≤ 9223372036854775807) (hm : d < m) (hl : l.length ≤ 9223372036854775807) : ∀ (r : List Term) (i : Nat) (a : Int), l.drop i = r → a ≤ 9223372036854775807 →
    ∃ j, l21_spent_L2 m l n ((d : Int) + 1) (a, (i : Int)) = some (.inr (loopT (spD d) r a, j)) := by
  intro r
  induction r with
  | nil =>
    intro i a h1 _
    have e1 := drop_nil h1
    have hn : ¬ ((i : Int) < l.length) := by omega
    exact ⟨i, by rw [l21_spent_L2_eq, l21_spent_S2]; simp [hn, loopT]⟩
  | cons t r ih =>
    intro i a h1 ha
    obtain ⟨a1, a2, a3, _⟩ := drop_cons h1
    have hp : (i : Int) < l.length := by omega
    have hi : (0 : Int) ≤ i := by omega
    rw [l21_spent_L2_eq, l21_spent_S2]
    simp only [loopT]
    by_cases h0 : a > 0
    · have n0 : ¬ (a ≤ 0) := by omega
      have nd : ¬ ((d : Int) + 1 = 0) := by omega
      have w : IntKind.i64.wrap ((d : Int) + 1 - 1) = (d : Int) := by rw [wrap_id (by omega)]; omega
      have w2 : IntKind.i64.wrap (a - 1) = a - 1 := wrap_id (by omega)
      have hle := spD_le d
      have b1 := hle.2 t.sub (a - 1)
      have b2 := hle.1 t.kids ((spD d).2 t.sub (a - 1))
      have hd0 : (0 : Int) ≤ (d : Int) := by omega
      simp only [hp, hi, h0, n0, nd, beq_iff_eq, decide_true, if_true, if_false, and_self, Int.toNat_natCast, a2, w, w2, hm, hd0, l21_spent, l21_spentR]
      rw [wrap_succ a1 hl, stepB_inl]
      exact ih (i + 1) _ a3 (by omega)
    · have n0 : a ≤ 0 := by omega
      exact ⟨i, by simp [hp, h0, n0]⟩
theorem l21_spent_spec (m : Nat) (l : List Term) (n deep : Int) (hl : WL .term l) (hn : WI n) (hdp : WI deep) (h1 : deep.toNat < m + 1) (h2 : 0 ≤ deep) : l21_spent_fn m l n deep = some (l21_spent l n deep) := by
  obtain ⟨d, rfl⟩ := Int.eq_ofNat_of_zero_le h2
  unfold l21_spent_fn l21_spent
  rw [Int.toNat_natCast] at h1 ⊢
  cases d with
  | zero =>
    obtain ⟨o, ho, e⟩ := spent_loop0 m l n l 0 n rfl
    have ho' : l21_spent_L2 m l n ((0 : Nat) : Int) (n, 0) = some o := ho
    rw [ho']
    simp only [spD]
    rw [← e]
    cases o <;> rfl
  | succ d =>
    obtain ⟨j, hj⟩ := spent_loopS m l n d (by have := hdp.2; omega) (by omega) hl.len l 0 n rfl hn.2
    have hj' : l21_spent_L2 m l n ((d + 1 : Nat) : Int) (n, 0) = some (.inr (loopT (spD d) l n, j)) := hj
    rw [hj']
    rfl
theorem okm_l21_spent (m : Nat) (h_l21_spent : FnOK 19 (Fm_l21_spent m)) (h_l21_spentR : FnOK 56 (Fm_l21_spentR m)) : FnOK 19 (Fm_l21_spent (m + 1)) := by
  intro args ob rs os h hob
  unfold Fm_l21_spent at h
  split at h
  · simp only [Option.bind_eq_some_iff, Option.some.injEq, Prod.mk.injEq] at h
    obtain ⟨l, e0, n, e1, deep, e2, rfl, rfl, rfl⟩ := h
    obtain rfl := dL_eq e0
    obtain rfl := dI_eq e1
    obtain rfl := dI_eq e2
    exact ⟨fn_contract (M := (M_l21_spent m)) rfl (tbl_ok (l1 := [(56, Fm_l21_spentR m), (19, Fm_l21_spent m)]) (l2 := []) (l3 := []) (l4 := []) (l5 := []) ⟨h_l21_spentR, h_l21_spent, trivial⟩ trivial trivial trivial trivial) Tryz.func19 (by kernel_rfl) N_l21_spent 0 [.d] (fun hwf => l21_spent_run (l21_spent_spec m l n deep (wfArg hwf (a := .d (.v (.dat (U := Un) Ty.term l))) (List.mem_of_getElem? (i := 0) rfl)) (wfArg hwf (a := .d (.v (.s (.int .i64 n)))) (List.mem_of_getElem? (i := 1) rfl)) (wfArg hwf (a := .d (.v (.s (.int .i64 deep)))) (List.mem_of_getElem? (i := 2) rfl)) (hob _ (List.mem_of_getElem? (i := 0) rfl)) (hob _ (List.mem_of_getElem? (i := 1) rfl)))), hasBody_of Tryz.func19 (by kernel_rfl) (by kernel_rfl)⟩
  · simp at h
def M_l21_spentR (m : Nat) : Mc Un := mach (tbl [(19, Fm_l21_spent m), (56, Fm_l21_spentR m)]) (tbl []) (tbl []) (tbl []) (tbl [])
def N_l21_spentR : Nat → NS := fun l => (look l [(2, { ts := [true, true, true, false, false, false, true, true, false, false, false, false, false, false, false, false, false, false, false, false, false, false, false, false, false, false, false, false, false, false, false, false, false, false, false, false, false, false, false, false, false, false, false, false, false, false, false, false, false, false, false, false, false, false, false, false, false, false, false, false, false, false, false, false, false, false, false, false, false, false, false, false, false, false, false, false], bs := [false, false, false, false, false, false, false, false, false, false, false, false, false, false, false, false, false, false, false, false, false, false, false, false, false, false, false, false, false, false, false, false, false, false, false, false, false, false, false, false, false, false, false, false, false, false, false, false, false, false, false, false, false, false, false, false, false, false, false, false, false, false, false, false, false, false, false, false, false, false, false, false, false, false, false, false], nm := [], gb := [], gs := [] }), (8, { ts := [true, true, true, false, false, false, true, true, true, false, false, false, false, false, false, false, false, false, false, false, false, false, false, false, false, false, false, false, false, false, false, false, false, false, false, false, false, false, false, false, false, false, false, false, false, false, false, false, false, false, false, false, false, false, false, false, false, false, false, false, false, false, false, false, false, false, false, false, false, false, false, false, false, false, false, false], bs := [false, false, false, false, false, false, false, false, false, false, false, false, false, false, false, false, false, false, false, false, false, false, false, false, false, false, false, false, false, false, false, false, false, false, false, false, false, false, false, false, false, false, false, false, false, false, false, false, false, false, false, false, false, false, false, false, false, false, false, false, false, false, false, false, false, false, false, false, false, false, false, false, false, false, false, false], nm := [], gb := [], gs := [] })]).getD ⟨[], [], [], [], [], false⟩
def l21_spentR_s2 (m : Nat) (l : List Rel) (n : Int) (deep : Int) (v0 : Int) (v1 : Int) : S Un := (st 76 76 304 0 [(0, AV.one (A.c (C.sl Ty.rel l false))), (1, AV.one (A.c (C.s (Value.int IntKind.i64 v0)))), (2, AV.one (A.c (C.s (Value.int IntKind.i64 deep)))), (6, AV.one (A.c (C.s (Value.int IntKind.i64 (0 : Int))))), (7, AV.one (A.c (C.s (Value.int IntKind.i64 v1))))] [] [])
def l21_spentR_s8 (m : Nat) (l : List Rel) (n : Int) (deep : Int) (v1 : Int) (v0 : Int) (v2 : Int) (v3 : Int) : S Un := (st 76 76 304 0 [(0, AV.one (A.c (C.sl Ty.rel l false))), (1, AV.one (A.c (C.s (Value.int IntKind.i64 v2)))), (2, AV.one (A.c (C.s (Value.int IntKind.i64 deep)))), (6, AV.one (A.c (C.s (Value.int IntKind.i64 (0 : Int))))), (7, AV.one (A.c (C.s (Value.int IntKind.i64 v1)))), (8, AV.one (A.c (C.s (Value.int IntKind.i64 v3))))] [] [])
theorem l21_spentR_in (m : Nat) (l : List Rel) (n : Int) (deep : Int) (K : List (A Un) → List (Ob Un) → Prop) :
    awp (M_l21_spentR m) N_l21_spentR (bodyOf Tryz.f56) (entry Tryz.f56.ntmps 0 [.d (.v (.dat (U := Un) Ty.rel l)), .d (.v (.s (.int .i64 n))), .d (.v (.s (.int .i64 deep)))]) (retQ (M_l21_spentR m) Tryz.f56.results.toList [.d] K) =
(itersK (N_l21_spentR 2) (awp (M_l21_spentR m) N_l21_spentR (sub (bodyOf Tryz.f56) [1, 0, 1, 2, 2])) (ctxK (M_l21_spentR m) N_l21_spentR (bodyOf Tryz.f56) [1, 0, 1, 2] (retQ (M_l21_spentR m) Tryz.f56.results.toList [.d] K)) (l21_spentR_s2 m l n deep n (0 : Int))) := by kernel_rfl
theorem l21_spentR_l2 (m : Nat) (l : List Rel) (n : Int) (deep : Int) (v0 : Int) (v1 : Int) (k : Nat) (Q : Exit → S Un → Prop) :
    iterK (N_l21_spentR 2) (awp (M_l21_spentR m) N_l21_spentR (sub (bodyOf Tryz.f56) [1, 0, 1, 2, 2])) Q (k + 1) (l21_spentR_s2 m l n deep v0 v1) =
(cnd (decide (v1 < (↑l.length : Int)))
 (cnd (decide (v0 > (0 : Int)))
  (cnd (deep == (0 : Int))
   (Q .ret (l21_spentR_s2 m l n deep v0 v1))
   (((0 : Int) ≤ v1 ∧ v1 < (↑l.length : Int)) ∧
   (((0 : Int) ≤ v1 ∧ v1 < (↑l.length : Int)) ∧
   (((IntKind.i64.wrap (deep - (1 : Int))).toNat < m) ∧
   (((0 : Int) ≤ IntKind.i64.wrap (deep - (1 : Int))) ∧
   (itersK (N_l21_spentR 8) (awp (M_l21_spentR m) N_l21_spentR (sub (sub (bodyOf Tryz.f56) [1, 0, 1, 2, 2]) [1, 0, 2, 1, 1, 0, 1, 2, 2])) (ctxK (M_l21_spentR m) N_l21_spentR (sub (bodyOf Tryz.f56) [1, 0, 1, 2, 2]) [1, 0, 2, 1, 1, 0, 1, 2] (roundK (N_l21_spentR 2) (iterK (N_l21_spentR 2) (awp (M_l21_spentR m) N_l21_spentR (sub (bodyOf Tryz.f56) [1, 0, 1, 2, 2])) Q k) Q)) (l21_spentR_s8 m l n deep v1 default (l21_spent (Rel.terms (l.getD v1.toNat zeroRel)) (IntKind.i64.wrap (IntKind.i64.wrap (v0 - (1 : Int)) - (↑(Rel.rows (l.getD v1.toNat zeroRel)).length : Int))) (IntKind.i64.wrap (deep - (1 : Int)))) (0 : Int))))))))
  (Q (.exit 0) (l21_spentR_s2 m l n deep v0 v1)))
 (Q (.exit 0) (l21_spentR_s2 m l n deep v0 v1))) := by kernel_rfl
theorem l21_spentR_a2_ret (m : Nat) (l : List Rel) (n : Int) (deep : Int) (v0 : Int) (v1 : Int) (K : List (A Un) → List (Ob Un) → Prop) :
    ctxK (M_l21_spentR m) N_l21_spentR (bodyOf Tryz.f56) [1, 0, 1, 2] (retQ (M_l21_spentR m) Tryz.f56.results.toList [.d] K) .ret (l21_spentR_s2 m l n deep v0 v1) =
(K (A_l21_spentR ((0 : Int))) (O_l21_spentR ((0 : Int)))) := by kernel_rfl
theorem l21_spentR_a2_x0 (m : Nat) (l : List Rel) (n : Int) (deep : Int) (v0 : Int) (v1 : Int) (K : List (A Un) → List (Ob Un) → Prop) :
    ctxK (M_l21_spentR m) N_l21_spentR (bodyOf Tryz.f56) [1, 0, 1, 2] (retQ (M_l21_spentR m) Tryz.f56.results.toList [.d] K) (.exit 0) (l21_spentR_s2 m l n deep v0 v1) =
(K (A_l21_spentR (v0)) (O_l21_spentR (v0))) := by kernel_rfl
theorem l21_spentR_l8 (m : Nat) (l : List Rel) (n : Int) (deep : Int) (v1 : Int) (v0 : Int) (v2 : Int) (v3 : Int) (k : Nat) (Q : Exit → S Un → Prop) :
    iterK (N_l21_spentR 8) (awp (M_l21_spentR m) N_l21_spentR (sub (sub (bodyOf Tryz.f56) [1, 0, 1, 2, 2]) [1, 0, 2, 1, 1, 0, 1, 2, 2])) Q (k + 1) (l21_spentR_s8 m l n deep v1 v0 v2 v3) =
(((0 : Int) ≤ v1 ∧ v1 < (↑l.length : Int)) ∧
(cnd (decide (v3 < (↑(Rel.aggs (l.getD v1.toNat zeroRel)).length : Int)))
 (cnd (decide (v2 > (0 : Int)))
  (((0 : Int) ≤ v1 ∧ v1 < (↑l.length : Int)) ∧
  (((0 : Int) ≤ v3 ∧ v3 < (↑(Rel.aggs (l.getD v1.toNat zeroRel)).length : Int)) ∧
  (((IntKind.i64.wrap (deep - (1 : Int))).toNat < m) ∧
  (((0 : Int) ≤ IntKind.i64.wrap (deep - (1 : Int))) ∧
  (iterK (N_l21_spentR 8) (awp (M_l21_spentR m) N_l21_spentR (sub (sub (bodyOf Tryz.f56) [1, 0, 1, 2, 2]) [1, 0, 2, 1, 1, 0, 1, 2, 2])) Q k (l21_spentR_s8 m l n deep v1 default (l21_spent (Agg.t ((Rel.aggs (l.getD v1.toNat zeroRel)).getD v3.toNat zeroAgg)) (IntKind.i64.wrap (v2 - (1 : Int))) (IntKind.i64.wrap (deep - (1 : Int)))) (IntKind.i64.wrap (v3 + (1 : Int)))))))))
  (Q (.exit 2) (l21_spentR_s8 m l n deep v1 default v2 v3)))
 (Q (.exit 2) (l21_spentR_s8 m l n deep v1 default v2 v3)))) := by kernel_rfl
theorem l21_spentR_a8_x2 (m : Nat) (l : List Rel) (n : Int) (deep : Int) (v1 : Int) (v0 : Int) (v2 : Int) (v3 : Int) (I : S Un → Prop) (Q : Exit → S Un → Prop) :
    ctxK (M_l21_spentR m) N_l21_spentR (sub (bodyOf Tryz.f56) [1, 0, 1, 2, 2]) [1, 0, 2, 1, 1, 0, 1, 2] (roundK (N_l21_spentR 2) I Q) (.exit 2) (l21_spentR_s8 m l n deep v1 v0 v2 v3) =
(((0 : Int) ≤ v1 ∧ v1 < (↑l.length : Int)) ∧
(((IntKind.i64.wrap (deep - (1 : Int))).toNat < m) ∧
(((0 : Int) ≤ IntKind.i64.wrap (deep - (1 : Int))) ∧
(I (l21_spentR_s2 m l n deep (l21_spentR (Rel.kids (l.getD v1.toNat zeroRel)) v2 (IntKind.i64.wrap (deep - (1 : Int)))) (IntKind.i64.wrap (v1 + (1 : Int)))))))) := by kernel_rfl
def l21_spentR_S8 (m : Nat) (l : List Rel) (n : Int) (deep : Int) (v : Int × Int × Int × Int) : Option ((Int × Int × Int × Int) ⊕ (Int × Int × Int × Int)) :=
  if (0 : Int) ≤ v.1 ∧ v.1 < (↑l.length : Int) then
   if (decide (v.2.2.2 < (↑(Rel.aggs (l.getD v.1.toNat zeroRel)).length : Int))) = true then
    if (decide (v.2.2.1 > (0 : Int))) = true then
     if (0 : Int) ≤ v.1 ∧ v.1 < (↑l.length : Int) then
      if (0 : Int) ≤ v.2.2.2 ∧ v.2.2.2 < (↑(Rel.aggs (l.getD v.1.toNat zeroRel)).length : Int) then
       if (IntKind.i64.wrap (deep - (1 : Int))).toNat < m then
        if (0 : Int) ≤ IntKind.i64.wrap (deep - (1 : Int)) then
         some (.inl (v.1, default, (l21_spent (Agg.t ((Rel.aggs (l.getD v.1.toNat zeroRel)).getD v.2.2.2.toNat zeroAgg)) (IntKind.i64.wrap (v.2.2.1 - (1 : Int))) (IntKind.i64.wrap (deep - (1 : Int)))), (IntKind.i64.wrap (v.2.2.2 + (1 : Int)))))
        else none
       else none
      else none
     else none
    else
     some (.inr (v.1, default, v.2.2.1, v.2.2.2))
   else
    some (.inr (v.1, default, v.2.2.1, v.2.2.2))
  else none
def l21_spentR_L8 (m : Nat) (l : List Rel) (n : Int) (deep : Int) (v : Int × Int × Int × Int) : Option (Int × Int × Int × Int) := loopO (l21_spentR_S8 m l n deep) v
theorem l21_spentR_L8_eq (m : Nat) (l : List Rel) (n : Int) (deep : Int) (v : Int × Int × Int × Int) : l21_spentR_L8 m l n deep v = stepB (l21_spentR_L8 m l n deep) (l21_spentR_S8 m l n deep v) := loopO_eq _ _
def l21_spentR_Q8 (m : Nat) (l : List Rel) (n : Int) (deep : Int) (r : Int × Int × Int × Int) (Q : Exit → S Un → Prop) : Prop := Q (.exit 2) (l21_spentR_s8 m l n deep r.1 r.2.1 r.2.2.1 r.2.2.2)
theorem l21_spentR_Q8_x2 {m : Nat} {l : List Rel} {n : Int} {deep : Int} {r : Int × Int × Int × Int} {Q : Exit → S Un → Prop} (h : Q (.exit 2) (l21_spentR_s8 m l n deep r.1 r.2.1 r.2.2.1 r.2.2.2)) : l21_spentR_Q8 m l n deep r Q := h
theorem l21_spentR_L8_run {m : Nat} {l : List Rel} {n : Int} {deep : Int} {v : Int × Int × Int × Int} {r : Int × Int × Int × Int} (h : l21_spentR_L8 m l n deep v = some r) (Q : Exit → S Un → Prop) (hQ : l21_spentR_Q8 m l n deep r Q) : itersK (N_l21_spentR 8) (awp (M_l21_spentR m) N_l21_spentR (sub (sub (bodyOf Tryz.f56) [1, 0, 1, 2, 2]) [1, 0, 2, 1, 1, 0, 1, 2, 2])) Q (l21_spentR_s8 m l n deep v.1 v.2.1 v.2.2.1 v.2.2.2) := by
  refine @loop_run _ _ (l21_spentR_S8 m l n deep) (fun v => itersK (N_l21_spentR 8) (awp (M_l21_spentR m) N_l21_spentR (sub (sub (bodyOf Tryz.f56) [1, 0, 1, 2, 2]) [1, 0, 2, 1, 1, 0, 1, 2, 2])) Q (l21_spentR_s8 m l n deep v.1 v.2.1 v.2.2.1 v.2.2.2)) (fun r => l21_spentR_Q8 m l n deep r Q) ?_ v r h hQ
  intro v o h hI
  unfold l21_spentR_S8 at h
  obtain ⟨c1, h2⟩ := ob_some h
  rcases ite_some h2 with ⟨c3, h4⟩ | ⟨c3, h4⟩
  · rcases ite_some h4 with ⟨c5, h6⟩ | ⟨c5, h6⟩
    · obtain ⟨c7, h8⟩ := ob_some h6
      obtain ⟨c9, h10⟩ := ob_some h8
      obtain ⟨c11, h12⟩ := ob_some h10
      obtain ⟨c13, h14⟩ := ob_some h12
      cases h14
      obtain ⟨k15, hk16⟩ := itersK_get hI
      exact itersK_mk (k15 + 1) (mpr (l21_spentR_l8 m l n deep v.1 v.2.1 v.2.2.1 v.2.2.2 k15 Q) (And.intro c1 (cnd_t c3 (cnd_t c5 (And.intro c7 (And.intro c9 (And.intro c11 (And.intro c13 hk16))))))))
    · cases h6
      exact itersK_mk 1 (mpr (l21_spentR_l8 m l n deep v.1 v.2.1 v.2.2.1 v.2.2.2 0 Q) (And.intro c1 (cnd_t c3 (cnd_f (bfalse c5) hI))))
  · cases h4
    exact itersK_mk 1 (mpr (l21_spentR_l8 m l n deep v.1 v.2.1 v.2.2.1 v.2.2.2 0 Q) (And.intro c1 (cnd_f (bfalse c3) hI)))
def l21_spentR_S2 (m : Nat) (l : List Rel) (n : Int) (deep : Int) (v : Int × Int) : Option ((Int × Int) ⊕ ((Int × Int) ⊕ (Int × Int))) :=
  if (decide (v.2 < (↑l.length : Int))) = true then
   if (decide (v.1 > (0 : Int))) = true then
    if (deep == (0 : Int)) = true then
     some (.inr (.inl (v.1, v.2)))
    else
     if (0 : Int) ≤ v.2 ∧ v.2 < (↑l.length : Int) then
      if (0 : Int) ≤ v.2 ∧ v.2 < (↑l.length : Int) then
       if (IntKind.i64.wrap (deep - (1 : Int))).toNat < m then
        if (0 : Int) ≤ IntKind.i64.wrap (deep - (1 : Int)) then
         (l21_spentR_L8 m l n deep (v.2, default, (l21_spent (Rel.terms (l.getD v.2.toNat zeroRel)) (IntKind.i64.wrap (IntKind.i64.wrap (v.1 - (1 : Int)) - (↑(Rel.rows (l.getD v.2.toNat zeroRel)).length : Int))) (IntKind.i64.wrap (deep - (1 : Int)))), (0 : Int))) >>= fun o17 =>
          if (0 : Int) ≤ o17.1 ∧ o17.1 < (↑l.length : Int) then
           if (IntKind.i64.wrap (deep - (1 : Int))).toNat < m then
            if (0 : Int) ≤ IntKind.i64.wrap (deep - (1 : Int)) then
             some (.inl ((l21_spentR (Rel.kids (l.getD o17.1.toNat zeroRel)) o17.2.2.1 (IntKind.i64.wrap (deep - (1 : Int)))), (IntKind.i64.wrap (o17.1 + (1 : Int)))))
            else none
           else none
          else none
        else none
       else none
      else none
     else none
   else
    some (.inr (.inr (v.1, v.2)))
  else
   some (.inr (.inr (v.1, v.2)))
def l21_spentR_L2 (m : Nat) (l : List Rel) (n : Int) (deep : Int) (v : Int × Int) : Option ((Int × Int) ⊕ (Int × Int)) := loopO (l21_spentR_S2 m l n deep) v
theorem l21_spentR_L2_eq (m : Nat) (l : List Rel) (n : Int) (deep : Int) (v : Int × Int) : l21_spentR_L2 m l n deep v = stepB (l21_spentR_L2 m l n deep) (l21_spentR_S2 m l n deep v) := loopO_eq _ _
def l21_spentR_Q2 (m : Nat) (l : List Rel) (n : Int) (deep : Int) (r : (Int × Int) ⊕ (Int × Int)) (Q : Exit → S Un → Prop) : Prop := match r with | .inl x => Q .ret (l21_spentR_s2 m l n deep x.1 x.2) | .inr x => Q (.exit 0) (l21_spentR_s2 m l n deep x.1 x.2)
theorem l21_spentR_Q2_ret {m : Nat} {l : List Rel} {n : Int} {deep : Int} {x : Int × Int} {Q : Exit → S Un → Prop} (h : Q .ret (l21_spentR_s2 m l n deep x.1 x.2)) : l21_spentR_Q2 m l n deep (.inl x) Q := h
theorem l21_spentR_Q2_x0 {m : Nat} {l : List Rel} {n : Int} {deep : Int} {x : Int × Int} {Q : Exit → S Un → Prop} (h : Q (.exit 0) (l21_spentR_s2 m l n deep x.1 x.2)) : l21_spentR_Q2 m l n deep (.inr x) Q := h
theorem l21_spentR_L2_run {m : Nat} {l : List Rel} {n : Int} {deep : Int} {v : Int × Int} {r : (Int × Int) ⊕ (Int × Int)} (h : l21_spentR_L2 m l n deep v = some r) (Q : Exit → S Un → Prop) (hQ : l21_spentR_Q2 m l n deep r Q) : itersK (N_l21_spentR 2) (awp (M_l21_spentR m) N_l21_spentR (sub (bodyOf Tryz.f56) [1, 0, 1, 2, 2])) Q (l21_spentR_s2 m l n deep v.1 v.2) := by
  refine @loop_run _ _ (l21_spentR_S2 m l n deep) (fun v => itersK (N_l21_spentR 2) (awp (M_l21_spentR m) N_l21_spentR (sub (bodyOf Tryz.f56) [1, 0, 1, 2, 2])) Q (l21_spentR_s2 m l n deep v.1 v.2)) (fun r => l21_spentR_Q2 m l n deep r Q) ?_ v r h hQ
  intro v o h hI
  unfold l21_spentR_S2 at h
  rcases ite_some h with ⟨c18, h19⟩ | ⟨c18, h19⟩
  · rcases ite_some h19 with ⟨c20, h21⟩ | ⟨c20, h21⟩
    · rcases ite_some h21 with ⟨c22, h23⟩ | ⟨c22, h23⟩
      · cases h23
        exact itersK_mk 1 (mpr (l21_spentR_l2 m l n deep v.1 v.2 0 Q) (cnd_t c18 (cnd_t c20 (cnd_t c22 hI))))
      · obtain ⟨c24, h25⟩ := ob_some h23
        obtain ⟨c26, h27⟩ := ob_some h25
        obtain ⟨c28, h29⟩ := ob_some h27
        obtain ⟨c30, h31⟩ := ob_some h29
        obtain ⟨o32, ho33, h34⟩ := bind_some h31
        obtain ⟨c35, h36⟩ := ob_some h34
        obtain ⟨c37, h38⟩ := ob_some h36
        obtain ⟨c39, h40⟩ := ob_some h38
        cases h40
        obtain ⟨k41, hk42⟩ := itersK_get hI
        exact itersK_mk (k41 + 1) (mpr (l21_spentR_l2 m l n deep v.1 v.2 k41 Q) (cnd_t c18 (cnd_t c20 (cnd_f (bfalse c22) (And.intro c24 (And.intro c26 (And.intro c28 (And.intro c30 (l21_spentR_L8_run ho33 _ (l21_spentR_Q8_x2 (mpr (l21_spentR_a8_x2 m l n deep o32.1 o32.2.1 o32.2.2.1 o32.2.2.2 _ _) (And.intro c35 (And.intro c37 (And.intro c39 hk42))))))))))))))
    · cases h21
      exact itersK_mk 1 (mpr (l21_spentR_l2 m l n deep v.1 v.2 0 Q) (cnd_t c18 (cnd_f (bfalse c20) hI)))
  · cases h19
    exact itersK_mk 1 (mpr (l21_spentR_l2 m l n deep v.1 v.2 0 Q) (cnd_f (bfalse c18) hI))
def l21_spentR_fn (m : Nat) (l : List Rel) (n : Int) (deep : Int) : Option (Int) :=
  (l21_spentR_L2 m l n deep (n, (0 : Int))) >>= fun o43 => match o43 with
   | .inl o44 =>
     some ((0 : Int))
   | .inr o45 =>
     some (o45.1)
theorem l21_spentR_run {m : Nat} {l : List Rel} {n : Int} {deep : Int} {r : Int} (h : l21_spentR_fn m l n deep = some r) : Runs (awp (M_l21_spentR m) N_l21_spentR (bodyOf Tryz.f56) (entry Tryz.f56.ntmps 0 [.d (.v (.dat (U := Un) Ty.rel l)), .d (.v (.s (.int .i64 n))), .d (.v (.s (.int .i64 deep)))]) (retQ (M_l21_spentR m) Tryz.f56.results.toList [.d] fun rs os => rs = A_l21_spentR r ∧ os = O_l21_spentR r)) := by
  constructor
  rw [l21_spentR_in m l n deep (fun rs os => rs = A_l21_spentR r ∧ os = O_l21_spentR r)]
  unfold l21_spentR_fn at h
  obtain ⟨o46, ho47, h48⟩ := bind_some h
  rcases o46 with o49 | o50
  · cases h48
    exact (l21_spentR_L2_run ho47 _ (l21_spentR_Q2_ret (mpr (l21_spentR_a2_ret m l n deep o49.1 o49.2 _) ⟨rfl, rfl⟩)))
  · cases h48
    exact (l21_spentR_L2_run ho47 _ (l21_spentR_Q2_x0 (mpr (l21_spentR_a2_x0 m l n deep o50.1 o50.2 _) ⟨rfl, rfl⟩)))
theorem spentR_loop0 (m : Nat) (l : List Rel) (n : Int) : ∀ (r : List Rel) (i : Nat) (a : Int), l.drop i = r →
    ∃ o, l21_spentR_L2 m l n 0 (a, (i : Int)) = some o ∧ (match o with | .inl _ => 0 | .inr o => o.1) = if r = [] ∨ a ≤ 0 then a else 0 := by
  intro r i a h1
  cases r with
  | nil =>
    have e1 := drop_nil h1
    have hn : ¬ ((i : Int) < l.length) := by omega
    exact ⟨.inr (a, i), by rw [l21_spentR_L2_eq, l21_spentR_S2]; simp [hn], by simp⟩
  | cons t r =>
    obtain ⟨a1, a2, a3, _⟩ := drop_cons h1
    have hp : (i : Int) < l.length := by omega
    rw [l21_spentR_L2_eq, l21_spentR_S2]
    by_cases ha : a > 0
    · exact ⟨.inl (a, i), by simp [hp, ha], by simp; omega⟩
    · exact ⟨.inr (a, i), by simp [hp, ha], by rw [if_pos (by right; omega)]⟩
theorem spentR_loopA (m : Nat) (l : List Rel) (n : Int) (d : Nat) (hd : (d : Int) + 1 ≤ 9223372036854775807) (hm : d < m) (x : Rel) (i : Nat) (hi : i < l.length) (hx : l.getD i zeroRel = x) (z : Int) (hl : x.aggs.length ≤ 9223372036854775807) : ∀ (r : List Agg) (k : Nat) (a : Int), x.aggs.drop k = r → a ≤ 9223372036854775807 →
    ∃ y w, l21_spentR_L8 m l n ((d : Int) + 1) ((i : Int), z, a, (k : Int)) = some ((i : Int), y, loopA (spD d) r a, w) := by
  intro r
  induction r generalizing z with
  | nil =>
    intro k a h1 _
    have e1 := drop_nil h1
    have hn : ¬ ((k : Int) < x.aggs.length) := by omega
    have hp : (i : Int) < l.length := by omega
    exact ⟨default, k, by rw [l21_spentR_L8_eq, l21_spentR_S8]; simp only [hp, Int.natCast_nonneg, and_self, if_true, Int.toNat_natCast, hx, hn, decide_false, Bool.false_eq_true, if_false, loopA, stepB_inr]⟩
  | cons g r ih =>
    intro k a h1 ha
    obtain ⟨a1, a2, a3, _⟩ := drop_cons h1
    have hp : (i : Int) < l.length := by omega
    have hk : (k : Int) < x.aggs.length := by omega
    rw [l21_spentR_L8_eq, l21_spentR_S8]
    simp only [loopA]
    by_cases h0 : a > 0
    · have n0 : ¬ (a ≤ 0) := by omega
      have w : IntKind.i64.wrap ((d : Int) + 1 - 1) = (d : Int) := by rw [wrap_id (by omega)]; omega
      have w2 : IntKind.i64.wrap (a - 1) = a - 1 := wrap_id (by omega)
      have b2 := (spD_le d).1 g.t (a - 1)
      have hd0 : (0 : Int) ≤ (d : Int) := by omega
      simp only [hp, hk, Int.natCast_nonneg, and_self, if_true, Int.toNat_natCast, hx, decide_true, h0, n0, if_false, a2, w, w2, hm, hd0, l21_spent]
      rw [wrap_succ a1 hl, stepB_inl]
      exact ih _ (k + 1) _ a3 (by omega)
    · have n0 : a ≤ 0 := by omega
      exact ⟨default, k, by simp only [hp, hk, Int.natCast_nonneg, and_self, if_true, Int.toNat_natCast, hx, decide_true, h0, n0, decide_false, Bool.false_eq_true, if_false, stepB_inr]⟩
theorem spentR_loopS (m : Nat) (l : List Rel) (n : Int) (d : Nat) (hd : (d : Int) + 1 ≤ 9223372036854775807) (hm : d < m) (hl : WL .rel l) : ∀ (r : List Rel) (i : Nat) (a : Int), l.drop i = r → a ≤ 9223372036854775807 →
    ∃ j, l21_spentR_L2 m l n ((d : Int) + 1) (a, (i : Int)) = some (.inr (loopR (spD d) r a, j)) := by
  intro r
  induction r with
  | nil =>
    intro i a h1 _
    have e1 := drop_nil h1
    have hn : ¬ ((i : Int) < l.length) := by omega
    exact ⟨i, by rw [l21_spentR_L2_eq, l21_spentR_S2]; simp [hn, loopR]⟩
  | cons x r ih =>
    intro i a h1 ha
    obtain ⟨a1, a2, a3, hmem⟩ := drop_cons h1
    have hp : (i : Int) < l.length := by omega
    have hi : (0 : Int) ≤ i := by omega
    have hw := hl.get hmem
    have hrows := (hw.rel_rows).len
    have haggs := (hw.rel_aggs).len
    rw [l21_spentR_L2_eq, l21_spentR_S2]
    simp only [loopR]
    by_cases h0 : a > 0
    · have n0 : ¬ (a ≤ 0) := by omega
      have nd : ¬ ((d : Int) + 1 = 0) := by omega
      have w : IntKind.i64.wrap ((d : Int) + 1 - 1) = (d : Int) := by rw [wrap_id (by omega)]; omega
      have w2 : IntKind.i64.wrap (a - 1) = a - 1 := wrap_id (by omega)
      have w3 : IntKind.i64.wrap (a - 1 - (x.rows.length : Int)) = a - 1 - (x.rows.length : Int) := wrap_id (by omega)
      have hle := spD_le d
      have b1 := hle.1 x.terms (a - 1 - (x.rows.length : Int))
      obtain ⟨y, w4, hA⟩ := spentR_loopA m l n d hd hm x i a1 (a2 _) default haggs x.aggs 0 ((spD d).1 x.terms (a - 1 - (x.rows.length : Int))) rfl (by omega)
      have b2 := loopA_le hle x.aggs ((spD d).1 x.terms (a - 1 - (x.rows.length : Int)))
      have b3 := hle.2 x.kids (loopA (spD d) x.aggs ((spD d).1 x.terms (a - 1 - (x.rows.length : Int))))
      have hd0 : (0 : Int) ≤ (d : Int) := by omega
      have hA' : l21_spentR_L8 m l n ((d : Int) + 1) ((i : Int), default, (spD d).1 x.terms (a - 1 - (x.rows.length : Int)), 0) = some ((i : Int), y, loopA (spD d) x.aggs ((spD d).1 x.terms (a - 1 - (x.rows.length : Int))), w4) := hA
      simp only [hp, hi, h0, n0, nd, beq_iff_eq, decide_true, if_true, if_false, and_self, Int.toNat_natCast, a2, w, w2, w3, hm, hd0, l21_spent, l21_spentR, hA', Option.bind_eq_bind, Option.bind_some]
      rw [wrap_succ a1 hl.len, stepB_inl]
      exact ih (i + 1) _ a3 (by omega)
    · have n0 : a ≤ 0 := by omega
      exact ⟨i, by simp [hp, h0, n0]⟩
theorem l21_spentR_spec (m : Nat) (l : List Rel) (n deep : Int) (hl : WL .rel l) (hn : WI n) (hdp : WI deep) (h1 : deep.toNat < m + 1) (h2 : 0 ≤ deep) : l21_spentR_fn m l n deep = some (l21_spentR l n deep) := by
  obtain ⟨d, rfl⟩ := Int.eq_ofNat_of_zero_le h2
  unfold l21_spentR_fn l21_spentR
  rw [Int.toNat_natCast] at h1 ⊢
  cases d with
  | zero =>
    obtain ⟨o, ho, e⟩ := spentR_loop0 m l n l 0 n rfl
    have ho' : l21_spentR_L2 m l n ((0 : Nat) : Int) (n, 0) = some o := ho
    rw [ho']
    simp only [spD]
    rw [← e]
    cases o <;> rfl
  | succ d =>
    obtain ⟨j, hj⟩ := spentR_loopS m l n d (by have := hdp.2; omega) (by omega) hl l 0 n rfl hn.2
    have hj' : l21_spentR_L2 m l n ((d + 1 : Nat) : Int) (n, 0) = some (.inr (loopR (spD d) l n, j)) := hj
    rw [hj']
    rfl
theorem okm_l21_spentR (m : Nat) (h_l21_spent : FnOK 19 (Fm_l21_spent m)) (h_l21_spentR : FnOK 56 (Fm_l21_spentR m)) : FnOK 56 (Fm_l21_spentR (m + 1)) := by
  intro args ob rs os h hob
  unfold Fm_l21_spentR at h
  split at h
  · simp only [Option.bind_eq_some_iff, Option.some.injEq, Prod.mk.injEq] at h
    obtain ⟨l, e0, n, e1, deep, e2, rfl, rfl, rfl⟩ := h
    obtain rfl := dL_eq e0
    obtain rfl := dI_eq e1
    obtain rfl := dI_eq e2
    exact ⟨fn_contract (M := (M_l21_spentR m)) rfl (tbl_ok (l1 := [(19, Fm_l21_spent m), (56, Fm_l21_spentR m)]) (l2 := []) (l3 := []) (l4 := []) (l5 := []) ⟨h_l21_spent, h_l21_spentR, trivial⟩ trivial trivial trivial trivial) Tryz.func56 (by kernel_rfl) N_l21_spentR 0 [.d] (fun hwf => l21_spentR_run (l21_spentR_spec m l n deep (wfArg hwf (a := .d (.v (.dat (U := Un) Ty.rel l))) (List.mem_of_getElem? (i := 0) rfl)) (wfArg hwf (a := .d (.v (.s (.int .i64 n)))) (List.mem_of_getElem? (i := 1) rfl)) (wfArg hwf (a := .d (.v (.s (.int .i64 deep)))) (List.mem_of_getElem? (i := 2) rfl)) (hob _ (List.mem_of_getElem? (i := 0) rfl)) (hob _ (List.mem_of_getElem? (i := 1) rfl)))), hasBody_of Tryz.func56 (by kernel_rfl) (by kernel_rfl)⟩
  · simp at h
theorem okAll_spentG : ∀ m, FnOK 19 (Fm_l21_spent m) ∧ FnOK 56 (Fm_l21_spentR m)
  | 0 => by
    refine ⟨?_, ?_⟩
    · intro args ob rs os h hob
      unfold Fm_l21_spent at h
      split at h
      · simp only [Option.bind_eq_some_iff, Option.some.injEq, Prod.mk.injEq] at h
        obtain ⟨_, _, _, _, _, _, rfl, _, _⟩ := h
        exact absurd (hob _ (List.mem_of_getElem? (i := 0) rfl)) (Nat.not_lt_zero _)
      · simp at h
    · intro args ob rs os h hob
      unfold Fm_l21_spentR at h
      split at h
      · simp only [Option.bind_eq_some_iff, Option.some.injEq, Prod.mk.injEq] at h
        obtain ⟨_, _, _, _, _, _, rfl, _, _⟩ := h
        exact absurd (hob _ (List.mem_of_getElem? (i := 0) rfl)) (Nat.not_lt_zero _)
      · simp at h
  | m + 1 => by
    have ih := okAll_spentG m
    exact ⟨okm_l21_spent m ih.1 ih.2, okm_l21_spentR m ih.1 ih.2⟩
def F_l21_spent : FnC Un := fun args => match args with
  | [x0, x1, x2] => (dL .term x0).bind fun l => (dI .i64 x1).bind fun n => (dI .i64 x2).bind fun deep => some ([0 ≤ deep], A_l21_spent (l21_spent l n deep), O_l21_spent (l21_spent l n deep))
  | _ => none
theorem ok_l21_spent : FnOK 19 F_l21_spent := by
  intro args ob rs os h hob
  unfold F_l21_spent at h
  split at h
  · simp only [Option.bind_eq_some_iff, Option.some.injEq, Prod.mk.injEq] at h
    obtain ⟨l, e0, n, e1, deep, e2, rfl, rfl, rfl⟩ := h
    refine ((okAll_spentG (deep.toNat + 1)).1) _ [deep.toNat < deep.toNat + 1, 0 ≤ deep] _ _ (?_ : Fm_l21_spent (deep.toNat + 1) _ = some _) ?_
    · unfold Fm_l21_spent
      simp only [e0, e1, e2, Option.bind_some]
    · intro p hp
      simp only [List.mem_cons, List.not_mem_nil, or_false] at hp
      rcases hp with rfl | rfl
      · exact Nat.lt_succ_self _
      · exact hob _ (List.mem_of_getElem? (i := 0) rfl)
  · simp at h
def M_l21_Large : Mc Un := mach (tbl [(19, F_l21_spent)]) (tbl []) (tbl []) (tbl []) (tbl [])
def N_l21_Large : Nat → NS := fun l => (look l []).getD ⟨[], [], [], [], [], false⟩
def A_l21_Large (r : Bool) : List (A Un) := [.c (.s (.bool r))]
def O_l21_Large (_r : Bool) : List (Ob Un) := []
theorem l21_Large_in_raw (t : Term) (K : List (A Un) → List (Ob Un) → Prop) :
    awp M_l21_Large N_l21_Large (bodyOf Tryz.f6) (entry Tryz.f6.ntmps 0 [.d (.agg (enc Ty.term t))]) (retQ M_l21_Large Tryz.f6.results.toList [.d] K) =
(((0 : Int) ≤ (30 : Int)) ∧
(K (A_l21_Large (decide (l21_spent [Term.mk t.op t.v t.depth t.at_ t.name t.kids t.sub t.type] (600 : Int) (30 : Int) ≤ (0 : Int)))) (O_l21_Large (decide (l21_spent [Term.mk t.op t.v t.depth t.at_ t.name t.kids t.sub t.type] (600 : Int) (30 : Int) ≤ (0 : Int)))))) := by kernel_rfl
theorem l21_Large_in (t : Term) (K : List (A Un) → List (Ob Un) → Prop) :
    awp M_l21_Large N_l21_Large (bodyOf Tryz.f6) (entry Tryz.f6.ntmps 0 [.d (.agg (enc Ty.term t))]) (retQ M_l21_Large Tryz.f6.results.toList [.d] K) =
(((0 : Int) ≤ (30 : Int)) ∧
(K (A_l21_Large (decide (l21_spent [t] (600 : Int) (30 : Int) ≤ (0 : Int)))) (O_l21_Large (decide (l21_spent [t] (600 : Int) (30 : Int) ≤ (0 : Int)))))) :=
  (l21_Large_in_raw t K).trans (by simp only [Term.eta])
def l21_Large_fn (t : Term) : Option (Bool) :=
  if (0 : Int) ≤ (30 : Int) then
   some (decide (l21_spent [t] (600 : Int) (30 : Int) ≤ (0 : Int)))
  else none
theorem l21_Large_run {t : Term} {r : Bool} (h : l21_Large_fn t = some r) : Runs (awp M_l21_Large N_l21_Large (bodyOf Tryz.f6) (entry Tryz.f6.ntmps 0 [.d (.agg (enc Ty.term t))]) (retQ M_l21_Large Tryz.f6.results.toList [.d] fun rs os => rs = A_l21_Large r ∧ os = O_l21_Large r)) := by
  constructor
  rw [l21_Large_in t (fun rs os => rs = A_l21_Large r ∧ os = O_l21_Large r)]
  unfold l21_Large_fn at h
  obtain ⟨c1, h2⟩ := ob_some h
  cases h2
  exact (And.intro c1 ⟨rfl, rfl⟩)
def l21_Large (t : Term) : Bool := decide ((spD 30).1 [t] 600 ≤ 0)
theorem l21_Large_spec (t : Term) (_h : WS .term t) : l21_Large_fn t = some (l21_Large t) := by
  unfold l21_Large_fn l21_Large
  simp [l21_spent, Term.eta]
  rfl
def F_l21_Large : FnC Un := fun args => match args with
  | [x0] => (dS .term x0).bind fun t => some ([], A_l21_Large (l21_Large t), O_l21_Large (l21_Large t))
  | _ => none
theorem ok_l21_Large : FnOK 6 F_l21_Large := by
  intro args ob rs os h hob
  unfold F_l21_Large at h
  split at h
  · simp only [Option.bind_eq_some_iff, Option.some.injEq, Prod.mk.injEq] at h
    obtain ⟨t, e0, rfl, rfl, rfl⟩ := h
    obtain rfl := dS_eq e0
    exact ⟨fn_contract (M := M_l21_Large) rfl (tbl_ok (l1 := [(19, F_l21_spent)]) (l2 := []) (l3 := []) (l4 := []) (l5 := []) ⟨ok_l21_spent, trivial⟩ trivial trivial trivial trivial) Tryz.func6 (by kernel_rfl) N_l21_Large 0 [.d] (fun hwf => l21_Large_run (l21_Large_spec t (wfArg hwf (a := .d (.agg (enc Ty.term t))) (List.mem_of_getElem? (i := 0) rfl)))), hasBody_of Tryz.func6 (by kernel_rfl) (by kernel_rfl)⟩
  · simp at h
end
end Go.Proofs.YtjmpnpkcgkhagaaGreat.B
namespace Go.Proofs.YtjmpnpkcgkhagaaGreat.B
open Go Go.RowKit
set_option maxRecDepth 100000
noncomputable section
attribute [local irreducible] awp ctxK itersK iterK retQ retGQ awf ctxF loopF
def SpSz (p : SpP) : Prop := (∀ l n, 0 < p.1 l n → (szTs l : Int) + p.1 l n ≤ n) ∧ ∀ l n, 0 < p.2 l n → (szRs l : Int) + p.2 l n ≤ n
theorem loopT_sz {p : SpP} (h : SpSz p) : ∀ l n, 0 < loopT p l n → (szTs l : Int) + loopT p l n ≤ n
  | [], n, _ => by simp only [loopT, szTs]; omega
  | t :: r, n, h0 => by
    simp only [loopT] at h0 ⊢
    by_cases hn : n ≤ 0
    · rw [if_pos hn] at h0; omega
    · rw [if_neg hn] at h0 ⊢
      have h1 := loopT_sz h r _ h0
      have h2 := h.1 t.kids (p.2 t.sub (n - 1)) (by omega)
      have h3 := h.2 t.sub (n - 1) (by omega)
      have h4 := t.sz_eq
      simp only [szTs]; omega
theorem loopA_sz {p : SpP} (h : SpSz p) : ∀ l n, 0 < loopA p l n → (szAs l : Int) + loopA p l n ≤ n
  | [], n, _ => by simp only [loopA, szAs]; omega
  | t :: r, n, h0 => by
    simp only [loopA] at h0 ⊢
    by_cases hn : n ≤ 0
    · rw [if_pos hn] at h0; omega
    · rw [if_neg hn] at h0 ⊢
      have h1 := loopA_sz h r _ h0
      have h2 := h.1 t.t (n - 1) (by omega)
      have h4 := t.sz_eq
      simp only [szAs]; omega
theorem loopR_sz {p : SpP} (h : SpSz p) : ∀ l n, 0 < loopR p l n → (szRs l : Int) + loopR p l n ≤ n
  | [], n, _ => by simp only [loopR, szRs]; omega
  | t :: r, n, h0 => by
    simp only [loopR] at h0 ⊢
    by_cases hn : n ≤ 0
    · rw [if_pos hn] at h0; omega
    · rw [if_neg hn] at h0 ⊢
      have h1 := loopR_sz h r _ h0
      have h2 := h.2 t.kids (loopA p t.aggs (p.1 t.terms (n - 1 - t.rows.length))) (by omega)
      have h3 := loopA_sz h t.aggs (p.1 t.terms (n - 1 - t.rows.length)) (by omega)
      have h5 := h.1 t.terms (n - 1 - t.rows.length) (by omega)
      have h4 := t.sz_eq
      simp only [szRs]; omega
theorem spD_sz : ∀ d, SpSz (spD d)
  | 0 => by
    constructor
    · intro l n h0
      simp only [spD] at h0 ⊢
      by_cases hc : l = [] ∨ n ≤ 0
      · rw [if_pos hc] at h0 ⊢
        rcases hc with rfl | hc
        · simp only [szTs]; omega
        · omega
      · rw [if_neg hc] at h0; omega
    · intro l n h0
      simp only [spD] at h0 ⊢
      by_cases hc : l = [] ∨ n ≤ 0
      · rw [if_pos hc] at h0 ⊢
        rcases hc with rfl | hc
        · simp only [szRs]; omega
        · omega
      · rw [if_neg hc] at h0; omega
  | d + 1 => ⟨loopT_sz (spD_sz d), loopR_sz (spD_sz d)⟩
theorem large_sz {t : Term} (h : l21_Large t ≠ true) : t.sz ≤ 600 := by
  unfold l21_Large at h
  rw [ne_eq, decide_eq_true_eq] at h
  have := (spD_sz 30).1 [t] 600 (by omega)
  simp only [szTs] at this; omega
end
end Go.Proofs.YtjmpnpkcgkhagaaGreat.B
