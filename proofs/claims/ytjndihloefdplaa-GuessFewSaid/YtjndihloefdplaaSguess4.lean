/- Functions: guess4. (Printed by wip/tools/mkfn.py out of wip/src/guess4.src.) -/
import Derived.Test.YtjndihloefdplaaBLib
import Derived.Test.YtjndihloefdplaaSspec
import Derived.Test.YtjndihloefdplaaSspec26
import Derived.Test.YtjndihloefdplaaSterms
import Derived.Test.YtjndihloefdplaaSlcmp
import Derived.Test.YtjndihloefdplaaSvcmp
import Derived.Test.YtjndihloefdplaaSbits
import Derived.Test.YtjndihloefdplaaSguess1
import Derived.Test.YtjndihloefdplaaSguess2
import Derived.Test.YtjndihloefdplaaSguess3
import Derived.Test.YtjndihloefdplaaLguess
namespace Go.Proofs.Ytjndihloefdplaa.B
open Go Go.RowKit
set_option maxRecDepth 100000
noncomputable section
attribute [local irreducible] awp ctxK itersK iterK retQ retGQ

/-- What a condition leaves, per million. -/
def partF : Nat → Term → List ColStat → Int
  | 0, _, _ => 0
  | n + 1, t, l =>
    if t.op = 1 then (if t.v.kind = 1 ∧ t.v.n ≠ 0 then 1000000 else 0)
    else if t.op = 4 ∧ t.kids.length = 1 then 1000000 - partF n (t.kids.getD 0 zeroTerm) l
    else if t.op = 17 ∧ t.kids.length = 2 then partF n (t.kids.getD 0 zeroTerm) l * partF n (t.kids.getD 1 zeroTerm) l / 1000000
    else if t.op = 18 ∧ t.kids.length = 2 then partF n (t.kids.getD 0 zeroTerm) l + partF n (t.kids.getD 1 zeroTerm) l - partF n (t.kids.getD 0 zeroTerm) l * partF n (t.kids.getD 1 zeroTerm) l / 1000000
    else if t.op = 19 ∧ t.kids.length = 1 then (match colOf (t.kids.getD 0 zeroTerm) l with | some c => shareA (allI c) (szI c.nulls) | none => 333333)
    else if (11 ≤ t.op ∧ t.op ≤ 16) ∧ t.kids.length = 2 then
      (match colOf (sides t).1 l with | some c => (if (sides t).2.1.op = 1 then againstI (sides t).2.2 (knownC c) (sides t).2.1.v else 333333) | none => 333333)
    else 333333
def guess_Part (t : Term) (l : List ColStat) : Int := partF t.ht t l

theorem by4_range {n a b most : Int} (h : 0 ≤ n) (ha : 0 ≤ a) (hb : 0 ≤ b) (hm : 0 ≤ most) : 0 ≤ by4 n a b most ∧ by4 n a b most ≤ most := by
  unfold by4; split
  · omega
  · have : 0 ≤ n * a / b := Int.ediv_nonneg (Int.mul_nonneg h ha) hb
    omega
theorem againstI_range (op : Int) (c : ColStat) (w : Val) : 0 ≤ againstI op (knownC c) w ∧ againstI op (knownC c) w ≤ 1000000 := by
  have h1 := allI_range c; have h2 := othersI_range c; have h3 := szI_range c.nulls
  have e1 := shareA_range (all := allI c) (n := szI c.nulls) h3.1 h1.1
  have e2 := eqF_range (all := allI c) (others := othersI c) w h1.1 h2.1 c.common
  unfold againstI knownC
  simp only
  split
  · omega
  · split
    · exact e2
    · split
      · omega
      · unfold besideA; split
        · omega
        · exact by4_range (shareA_range (by omega) h1.1).1 (by omega) (by omega) (by omega)
theorem mul_million {a b : Int} (ha : 0 ≤ a ∧ a ≤ 1000000) (hb : 0 ≤ b ∧ b ≤ 1000000) : (0 ≤ a * b ∧ a * b ≤ 1000000000000) ∧ 0 ≤ a * b / 1000000 ∧ a * b / 1000000 ≤ a ∧ a * b / 1000000 ≤ b ∧ a + b - a * b / 1000000 ≤ 1000000 := by
  have h1 : 0 ≤ a * b := Int.mul_nonneg ha.1 hb.1
  have h2 : a * b ≤ a * 1000000 := Int.mul_le_mul_of_nonneg_left hb.2 ha.1
  have h3 : a * b ≤ 1000000 * b := Int.mul_le_mul_of_nonneg_right ha.2 hb.1
  have h4 : 0 ≤ (1000000 - a) * (1000000 - b) := Int.mul_nonneg (by omega) (by omega)
  have h5 : (1000000 - a) * (1000000 - b) = 1000000000000 - 1000000 * a - 1000000 * b + a * b := by
    rw [Int.sub_mul, Int.mul_sub, Int.mul_sub]; omega
  rw [h5] at h4
  omega
theorem partF_range : ∀ (n : Nat) (t : Term) (l : List ColStat), 0 ≤ partF n t l ∧ partF n t l ≤ 1000000
  | 0, _, _ => by simp [partF]
  | n + 1, t, l => by
    have h0 := partF_range n (t.kids.getD 0 zeroTerm) l
    have h1 := partF_range n (t.kids.getD 1 zeroTerm) l
    have hm := mul_million h0 h1
    simp only [partF]
    split
    · split <;> omega
    · split
      · omega
      · split
        · omega
        · split
          · omega
          · split
            · split
              · exact shareA_range (szI_range _).1 (allI_range _).1
              · omega
            · split
              · split
                · split
                  · exact againstI_range _ _ _
                  · omega
                · omega
              · omega
theorem kid0_ht {t : Term} (h : t.kids.length = 1 ∨ t.kids.length = 2) : (t.kids.getD 0 zeroTerm).ht < t.ht := Term.ht_kidD (by omega)
theorem kid1_ht {t : Term} (h : t.kids.length = 2) : (t.kids.getD 1 zeroTerm).ht < t.ht := Term.ht_kidD (by omega)
theorem partF_more : ∀ (n k : Nat) (t : Term) (l : List ColStat), t.ht ≤ n → n ≤ k → partF k t l = partF n t l
  | 0, k, t, l, h, _ => by cases t; simp [Term.ht] at h
  | n + 1, 0, t, l, _, h => by omega
  | n + 1, k + 1, t, l, h, hk => by
    have e0 : t.kids.length = 1 ∨ t.kids.length = 2 → partF k (t.kids.getD 0 zeroTerm) l = partF n (t.kids.getD 0 zeroTerm) l := fun hl => partF_more n k _ l (by have := kid0_ht hl; omega) (by omega)
    have e1 : t.kids.length = 2 → partF k (t.kids.getD 1 zeroTerm) l = partF n (t.kids.getD 1 zeroTerm) l := fun hl => partF_more n k _ l (by have := kid1_ht hl; omega) (by omega)
    simp only [partF]
    split
    · rfl
    · split
      · rename_i h; rw [e0 (.inl h.2)]
      · split
        · rename_i h; rw [e0 (.inr h.2), e1 h.2]
        · split
          · rename_i h; rw [e0 (.inr h.2), e1 h.2]
          · rfl
theorem guess_Part_range (t : Term) (l : List ColStat) : 0 ≤ guess_Part t l ∧ guess_Part t l ≤ 1000000 := partF_range _ t l
theorem partF_eq {n : Nat} {t : Term} {l : List ColStat} (h : t.ht ≤ n) : partF n t l = guess_Part t l := partF_more _ _ t l (Nat.le_refl _) h
/-- One level of a condition. -/
theorem guess_Part_unfold (t : Term) (l : List ColStat) : guess_Part t l =
    if t.op = 1 then (if t.v.kind = 1 ∧ t.v.n ≠ 0 then 1000000 else 0)
    else if t.op = 4 ∧ t.kids.length = 1 then 1000000 - guess_Part (t.kids.getD 0 zeroTerm) l
    else if t.op = 17 ∧ t.kids.length = 2 then guess_Part (t.kids.getD 0 zeroTerm) l * guess_Part (t.kids.getD 1 zeroTerm) l / 1000000
    else if t.op = 18 ∧ t.kids.length = 2 then guess_Part (t.kids.getD 0 zeroTerm) l + guess_Part (t.kids.getD 1 zeroTerm) l - guess_Part (t.kids.getD 0 zeroTerm) l * guess_Part (t.kids.getD 1 zeroTerm) l / 1000000
    else if t.op = 19 ∧ t.kids.length = 1 then (match colOf (t.kids.getD 0 zeroTerm) l with | some c => shareA (allI c) (szI c.nulls) | none => 333333)
    else if (11 ≤ t.op ∧ t.op ≤ 16) ∧ t.kids.length = 2 then
      (match colOf (sides t).1 l with | some c => (if (sides t).2.1.op = 1 then againstI (sides t).2.2 (knownC c) (sides t).2.1.v else 333333) | none => 333333)
    else 333333 := by
  have hh : ∃ n, t.ht = n + 1 := by cases t; exact ⟨_, rfl⟩
  obtain ⟨n, hn⟩ := hh
  have e0 : t.kids.length = 1 ∨ t.kids.length = 2 → partF n (t.kids.getD 0 zeroTerm) l = guess_Part (t.kids.getD 0 zeroTerm) l := fun hl => partF_eq (by have := kid0_ht hl; omega)
  have e1 : t.kids.length = 2 → partF n (t.kids.getD 1 zeroTerm) l = guess_Part (t.kids.getD 1 zeroTerm) l := fun hl => partF_eq (by have := kid1_ht hl; omega)
  conv => lhs; unfold guess_Part
  rw [hn]
  simp only [partF]
  split
  · rfl
  · split
    · rename_i h; rw [e0 (.inl h.2)]
    · split
      · rename_i h; rw [e0 (.inr h.2), e1 h.2]
      · split
        · rename_i h; rw [e0 (.inr h.2), e1 h.2]
        · rfl

def A_guess_Part (r : Int) : List (A Un) := [.c (.s (.int .i64 r))]
def O_guess_Part (_r : Int) : List (Ob Un) := []

def Fm_guess_Part (m : Nat) : FnC Un := fun args => match args with
  | [x0, x1] => (dS .term x0).bind fun t => (dL .colStat x1).bind fun l => some ([t.ht < m], A_guess_Part (guess_Part t l), O_guess_Part (guess_Part t l))
  | _ => none

/-! ### guess.Part$1 -/
def M_guess_Part_1 (m : Nat) : Mc Un := mach (tbl [(10, Fm_guess_Part m)]) (tbl []) (tbl []) (tbl [])
def N_guess_Part_1 : Nat → NS := fun l => (look l []).getD ⟨[], [], [], [], []⟩
def A_guess_Part_1 (r : Int) : List (A Un) := [.c (.s (.int .i64 r))]
def O_guess_Part_1 (_r : Int) : List (Ob Un) := []
theorem guess_Part_1_in_raw (m : Nat) (i : Int) (t : Term) (l : List ColStat) (K : List (A Un) → List (Ob Un) → Prop) :
    awp (M_guess_Part_1 m) N_guess_Part_1 (bodyOf Try.f21) (entry Try.f21.ntmps 0 [.d (.v (.s (.int .i64 i))), .box ((enc Ty.term t).map .v), .box [.v (.dat (U := Un) Ty.colStat l)]]) (retQ (M_guess_Part_1 m) Try.f21.results.toList [.d] K) =
(((0 : Int) ≤ i ∧ i < (↑t.kids.length : Int)) ∧
(((Term.mk (Term.op (t.kids.getD i.toNat zeroTerm)) (Term.v (t.kids.getD i.toNat zeroTerm)) (Term.depth (t.kids.getD i.toNat zeroTerm)) (Term.at_ (t.kids.getD i.toNat zeroTerm)) (Term.name (t.kids.getD i.toNat zeroTerm)) (Term.kids (t.kids.getD i.toNat zeroTerm)) (Term.sub (t.kids.getD i.toNat zeroTerm)) (Term.type (t.kids.getD i.toNat zeroTerm))).ht < m) ∧
(K (A_guess_Part_1 (guess_Part (Term.mk (Term.op (t.kids.getD i.toNat zeroTerm)) (Term.v (t.kids.getD i.toNat zeroTerm)) (Term.depth (t.kids.getD i.toNat zeroTerm)) (Term.at_ (t.kids.getD i.toNat zeroTerm)) (Term.name (t.kids.getD i.toNat zeroTerm)) (Term.kids (t.kids.getD i.toNat zeroTerm)) (Term.sub (t.kids.getD i.toNat zeroTerm)) (Term.type (t.kids.getD i.toNat zeroTerm))) l)) (O_guess_Part_1 (guess_Part (Term.mk (Term.op (t.kids.getD i.toNat zeroTerm)) (Term.v (t.kids.getD i.toNat zeroTerm)) (Term.depth (t.kids.getD i.toNat zeroTerm)) (Term.at_ (t.kids.getD i.toNat zeroTerm)) (Term.name (t.kids.getD i.toNat zeroTerm)) (Term.kids (t.kids.getD i.toNat zeroTerm)) (Term.sub (t.kids.getD i.toNat zeroTerm)) (Term.type (t.kids.getD i.toNat zeroTerm))) l))))) := by kernel_rfl
theorem guess_Part_1_in (m : Nat) (i : Int) (t : Term) (l : List ColStat) (K : List (A Un) → List (Ob Un) → Prop) :
    awp (M_guess_Part_1 m) N_guess_Part_1 (bodyOf Try.f21) (entry Try.f21.ntmps 0 [.d (.v (.s (.int .i64 i))), .box ((enc Ty.term t).map .v), .box [.v (.dat (U := Un) Ty.colStat l)]]) (retQ (M_guess_Part_1 m) Try.f21.results.toList [.d] K) =
(((0 : Int) ≤ i ∧ i < (↑t.kids.length : Int)) ∧
(((t.kids.getD i.toNat zeroTerm).ht < m) ∧
(K (A_guess_Part_1 (guess_Part (t.kids.getD i.toNat zeroTerm) l)) (O_guess_Part_1 (guess_Part (t.kids.getD i.toNat zeroTerm) l))))) :=
  (guess_Part_1_in_raw m i t l K).trans (by simp only [Term.eta])
def guess_Part_1_fn (m : Nat) (i : Int) (t : Term) (l : List ColStat) : Option (Int) :=
  if (0 : Int) ≤ i ∧ i < (↑t.kids.length : Int) then
   if (t.kids.getD i.toNat zeroTerm).ht < m then
    some (guess_Part (t.kids.getD i.toNat zeroTerm) l)
   else none
  else none
theorem guess_Part_1_run {m : Nat} {i : Int} {t : Term} {l : List ColStat} {r : Int} (h : guess_Part_1_fn m i t l = some r) : Runs (awp (M_guess_Part_1 m) N_guess_Part_1 (bodyOf Try.f21) (entry Try.f21.ntmps 0 [.d (.v (.s (.int .i64 i))), .box ((enc Ty.term t).map .v), .box [.v (.dat (U := Un) Ty.colStat l)]]) (retQ (M_guess_Part_1 m) Try.f21.results.toList [.d] fun rs os => rs = A_guess_Part_1 r ∧ os = O_guess_Part_1 r)) := by
  constructor
  rw [guess_Part_1_in m i t l (fun rs os => rs = A_guess_Part_1 r ∧ os = O_guess_Part_1 r)]
  unfold guess_Part_1_fn at h
  obtain ⟨c1, h2⟩ := ob_some h
  obtain ⟨c3, h4⟩ := ob_some h2
  cases h4
  exact (And.intro c1 (And.intro c3 ⟨rfl, rfl⟩))

def guess_Part_1 (i : Int) (t : Term) (l : List ColStat) : Int := guess_Part (t.kids.getD i.toNat zeroTerm) l

theorem guess_Part_1_spec (m : Nat) (i : Int) (t : Term) (l : List ColStat) (_h1 : WI i) (_h2 : WS .term t) (_h3 : WL .colStat l) (h4 : 0 ≤ i ∧ i < t.kids.length) (h5 : (t.kids.getD i.toNat zeroTerm).ht < m) : guess_Part_1_fn m i t l = some (guess_Part_1 i t l) := by
  unfold guess_Part_1_fn guess_Part_1
  rw [if_pos h4, if_pos h5]

def L_guess_Part_1 (m : Nat) : List (List (DC Un)) → Option (FV Un) := fun dl => match dl with
  | [b0, b1] => (bS .term b0).bind fun t => (bL .colStat b1).bind fun l => some fun args => match args with | [x0] => (dI .i64 (.d x0)).bind fun i => some ([0 ≤ i ∧ i < t.kids.length, (t.kids.getD i.toNat zeroTerm).ht < m], [.v (.s (.int .i64 (guess_Part_1 i t l)))]) | _ => none
  | _ => none

theorem okL_guess_Part_1 (m : Nat) (h_guess_Part : FnOK 10 (Fm_guess_Part m)) : ClOK 21 (L_guess_Part_1 m) := by
  refine ⟨hasBody_of Try.func21 (by kernel_rfl) (by kernel_rfl), fun dl φ args ob rs hF hφ hob => ?_⟩
  unfold L_guess_Part_1 at hF
  split at hF
  · simp only [Option.bind_eq_some_iff, Option.some.injEq] at hF
    obtain ⟨t, g0, l, g1, hE⟩ := hF
    have hE2 := Option.some.inj hE
    subst hE2
    obtain rfl := bS_eq g0
    obtain rfl := bL_eq g1
    dsimp only at hφ
    split at hφ
    · simp only [Option.bind_eq_some_iff, Option.some.injEq, Prod.mk.injEq] at hφ
      obtain ⟨i, e0, rfl, rfl⟩ := hφ
      simp only [List.map_cons, List.map_nil, List.cons_append, List.nil_append]
      rw [dI_eq e0]
      exact Contract.data (fn_contract (M := (M_guess_Part_1 m)) rfl (tbl_ok (l1 := [(10, Fm_guess_Part m)]) (l2 := []) (l3 := []) (l4 := []) ⟨h_guess_Part, trivial⟩ trivial trivial trivial) Try.func21 (by kernel_rfl) N_guess_Part_1 0 [.d] (fun hwf => guess_Part_1_run (guess_Part_1_spec m i t l (wfArg hwf (a := .d (.v (.s (.int .i64 i)))) (List.mem_of_getElem? (i := 0) rfl)) (wfArg hwf (a := .box ((enc Ty.term t).map .v)) (List.mem_of_getElem? (i := 1) rfl)) (wfArg hwf (a := .box [.v (.dat (U := Un) Ty.colStat l)]) (List.mem_of_getElem? (i := 2) rfl)) (hob _ (List.mem_of_getElem? (i := 0) rfl)) (hob _ (List.mem_of_getElem? (i := 1) rfl)))))
    · simp at hφ
  · simp at hF


/-! ### guess.Part -/
def M_guess_Part (m : Nat) : Mc Un := mach (tbl [(22, F_guess_find), (23, F_column_share), (24, F_guess_turned), (25, F_guess_against)]) (tbl []) (tbl [(21, L_guess_Part_1 m)]) (tbl [])
def N_guess_Part : Nat → NS := fun l => (look l []).getD ⟨[], [], [], [], []⟩
def guess_Part_c1 (t : Term) (l : List ColStat) := guess_find (Term.mk (Term.op (t.kids.getD 0 zeroTerm)) (Term.v (t.kids.getD 0 zeroTerm)) (Term.depth (t.kids.getD 0 zeroTerm)) (Term.at_ (t.kids.getD 0 zeroTerm)) (Term.name (t.kids.getD 0 zeroTerm)) (Term.kids (t.kids.getD 0 zeroTerm)) (Term.sub (t.kids.getD 0 zeroTerm)) (Term.type (t.kids.getD 0 zeroTerm))) l
def guess_Part_c2 (t : Term) (l : List ColStat) := guess_find (Term.mk (Term.op (t.kids.getD 1 zeroTerm)) (Term.v (t.kids.getD 1 zeroTerm)) (Term.depth (t.kids.getD 1 zeroTerm)) (Term.at_ (t.kids.getD 1 zeroTerm)) (Term.name (t.kids.getD 1 zeroTerm)) (Term.kids (t.kids.getD 1 zeroTerm)) (Term.sub (t.kids.getD 1 zeroTerm)) (Term.type (t.kids.getD 1 zeroTerm))) l
def guess_Part_c3 (t : Term) (l : List ColStat) := column_share (guess_Part_c1 t l).fst (guess_Part_c1 t l).fst.nulls
def guess_Part_c4 (t : Term) (l : List ColStat) := guess_against (turnedI t.op) (guess_Part_c2 t l).fst (Term.v (t.kids.getD 0 zeroTerm))
def guess_Part_c5 (t : Term) (l : List ColStat) := guess_against t.op (guess_Part_c1 t l).fst (Term.v (t.kids.getD 1 zeroTerm))
theorem guess_Part_in_raw (m : Nat) (t : Term) (l : List ColStat) (K : List (A Un) → List (Ob Un) → Prop) :
    awp (M_guess_Part m) N_guess_Part (bodyOf Try.f10) (entry Try.f10.ntmps 0 [.d (.agg (enc Ty.term t)), .d (.v (.dat (U := Un) Ty.colStat l))]) (retQ (M_guess_Part m) Try.f10.results.toList [.d] K) =
(cnd (t.op == (1 : Int))
 (cnd (t.v.kind == (1 : Int))
  (cnd (t.v.n != (0 : Int))
   (K (A_guess_Part ((1000000 : Int))) (O_guess_Part ((1000000 : Int))))
   (K (A_guess_Part ((0 : Int))) (O_guess_Part ((0 : Int)))))
  (K (A_guess_Part ((0 : Int))) (O_guess_Part ((0 : Int)))))
 (cnd (t.op == (4 : Int))
  (cnd ((↑t.kids.length : Int) == (1 : Int))
   (((0 : Int) ≤ (0 : Int) ∧ (0 : Int) < (↑t.kids.length : Int)) ∧
   (((t.kids.getD 0 zeroTerm).ht < m) ∧
   (K (A_guess_Part (IntKind.i64.wrap ((1000000 : Int) - guess_Part_1 (0 : Int) (Term.mk t.op t.v t.depth t.at_ t.name t.kids t.sub t.type) l))) (O_guess_Part (IntKind.i64.wrap ((1000000 : Int) - guess_Part_1 (0 : Int) (Term.mk t.op t.v t.depth t.at_ t.name t.kids t.sub t.type) l))))))
   (cnd (t.op == (17 : Int))
    (cnd ((↑t.kids.length : Int) == (2 : Int))
     (((0 : Int) ≤ (0 : Int) ∧ (0 : Int) < (↑t.kids.length : Int)) ∧
     (((t.kids.getD 0 zeroTerm).ht < m) ∧
     (((0 : Int) ≤ (1 : Int) ∧ (1 : Int) < (↑t.kids.length : Int)) ∧
     (((t.kids.getD 1 zeroTerm).ht < m) ∧
     ((¬(1000000 : Int) = (0 : Int)) ∧
     (K (A_guess_Part (IntKind.i64.wrap ((IntKind.i64.wrap (guess_Part_1 (0 : Int) (Term.mk t.op t.v t.depth t.at_ t.name t.kids t.sub t.type) l * guess_Part_1 (1 : Int) (Term.mk t.op t.v t.depth t.at_ t.name t.kids t.sub t.type) l)).tdiv (1000000 : Int)))) (O_guess_Part (IntKind.i64.wrap ((IntKind.i64.wrap (guess_Part_1 (0 : Int) (Term.mk t.op t.v t.depth t.at_ t.name t.kids t.sub t.type) l * guess_Part_1 (1 : Int) (Term.mk t.op t.v t.depth t.at_ t.name t.kids t.sub t.type) l)).tdiv (1000000 : Int))))))))))
     (cnd (t.op == (18 : Int))
      (cnd ((↑t.kids.length : Int) == (2 : Int))
       (((0 : Int) ≤ (0 : Int) ∧ (0 : Int) < (↑t.kids.length : Int)) ∧
       (((t.kids.getD 0 zeroTerm).ht < m) ∧
       (((0 : Int) ≤ (1 : Int) ∧ (1 : Int) < (↑t.kids.length : Int)) ∧
       (((t.kids.getD 1 zeroTerm).ht < m) ∧
       ((¬(1000000 : Int) = (0 : Int)) ∧
       (K (A_guess_Part (IntKind.i64.wrap (IntKind.i64.wrap (guess_Part_1 (0 : Int) (Term.mk t.op t.v t.depth t.at_ t.name t.kids t.sub t.type) l + guess_Part_1 (1 : Int) (Term.mk t.op t.v t.depth t.at_ t.name t.kids t.sub t.type) l) - IntKind.i64.wrap ((IntKind.i64.wrap (guess_Part_1 (0 : Int) (Term.mk t.op t.v t.depth t.at_ t.name t.kids t.sub t.type) l * guess_Part_1 (1 : Int) (Term.mk t.op t.v t.depth t.at_ t.name t.kids t.sub t.type) l)).tdiv (1000000 : Int))))) (O_guess_Part (IntKind.i64.wrap (IntKind.i64.wrap (guess_Part_1 (0 : Int) (Term.mk t.op t.v t.depth t.at_ t.name t.kids t.sub t.type) l + guess_Part_1 (1 : Int) (Term.mk t.op t.v t.depth t.at_ t.name t.kids t.sub t.type) l) - IntKind.i64.wrap ((IntKind.i64.wrap (guess_Part_1 (0 : Int) (Term.mk t.op t.v t.depth t.at_ t.name t.kids t.sub t.type) l * guess_Part_1 (1 : Int) (Term.mk t.op t.v t.depth t.at_ t.name t.kids t.sub t.type) l)).tdiv (1000000 : Int)))))))))))
       (cnd (t.op == (19 : Int))
        (cnd ((↑t.kids.length : Int) == (1 : Int))
         (((0 : Int) ≤ (0 : Int) ∧ (0 : Int) < (↑t.kids.length : Int)) ∧
         (cnd ((guess_Part_c1 t l).snd)
          (((0 : Int) ≤ (guess_Part_c1 t l).fst.nulls ∧ (0 : Int) ≤ (guess_Part_c1 t l).fst.all) ∧
          (K (A_guess_Part (guess_Part_c3 t l)) (O_guess_Part (guess_Part_c3 t l))))
          (K (A_guess_Part ((333333 : Int))) (O_guess_Part ((333333 : Int))))))
         (cnd (decide (t.op ≥ (11 : Int)))
          (cnd (decide (t.op ≤ (16 : Int)))
           (cnd ((↑t.kids.length : Int) == (2 : Int))
            (((0 : Int) ≤ (0 : Int) ∧ (0 : Int) < (↑t.kids.length : Int)) ∧
            (((0 : Int) ≤ (1 : Int) ∧ (1 : Int) < (↑t.kids.length : Int)) ∧
            (cnd (Term.op (t.kids.getD 0 zeroTerm) == (1 : Int))
             (cnd ((guess_Part_c2 t l).snd)
              (cnd (Term.op (t.kids.getD 0 zeroTerm) == (1 : Int))
               ((((0 : Int) ≤ (guess_Part_c2 t l).fst.all ∧ (guess_Part_c2 t l).fst.all ≤ (1000000000000 : Int)) ∧ ((0 : Int) ≤ (guess_Part_c2 t l).fst.nulls ∧ (guess_Part_c2 t l).fst.nulls ≤ (1000000000000 : Int)) ∧ (0 : Int) ≤ (guess_Part_c2 t l).fst.others) ∧
               (K (A_guess_Part (guess_Part_c4 t l)) (O_guess_Part (guess_Part_c4 t l))))
               (K (A_guess_Part ((333333 : Int))) (O_guess_Part ((333333 : Int)))))
              (K (A_guess_Part ((333333 : Int))) (O_guess_Part ((333333 : Int)))))
             (cnd ((guess_Part_c1 t l).snd)
              (cnd (Term.op (t.kids.getD 1 zeroTerm) == (1 : Int))
               ((((0 : Int) ≤ (guess_Part_c1 t l).fst.all ∧ (guess_Part_c1 t l).fst.all ≤ (1000000000000 : Int)) ∧ ((0 : Int) ≤ (guess_Part_c1 t l).fst.nulls ∧ (guess_Part_c1 t l).fst.nulls ≤ (1000000000000 : Int)) ∧ (0 : Int) ≤ (guess_Part_c1 t l).fst.others) ∧
               (K (A_guess_Part (guess_Part_c5 t l)) (O_guess_Part (guess_Part_c5 t l))))
               (K (A_guess_Part ((333333 : Int))) (O_guess_Part ((333333 : Int)))))
              (K (A_guess_Part ((333333 : Int))) (O_guess_Part ((333333 : Int))))))))
            (K (A_guess_Part ((333333 : Int))) (O_guess_Part ((333333 : Int)))))
           (K (A_guess_Part ((333333 : Int))) (O_guess_Part ((333333 : Int)))))
          (K (A_guess_Part ((333333 : Int))) (O_guess_Part ((333333 : Int))))))
        (cnd (decide (t.op ≥ (11 : Int)))
         (cnd (decide (t.op ≤ (16 : Int)))
          (cnd ((↑t.kids.length : Int) == (2 : Int))
           (((0 : Int) ≤ (0 : Int) ∧ (0 : Int) < (↑t.kids.length : Int)) ∧
           (((0 : Int) ≤ (1 : Int) ∧ (1 : Int) < (↑t.kids.length : Int)) ∧
           (cnd (Term.op (t.kids.getD 0 zeroTerm) == (1 : Int))
            (cnd ((guess_Part_c2 t l).snd)
             (cnd (Term.op (t.kids.getD 0 zeroTerm) == (1 : Int))
              ((((0 : Int) ≤ (guess_Part_c2 t l).fst.all ∧ (guess_Part_c2 t l).fst.all ≤ (1000000000000 : Int)) ∧ ((0 : Int) ≤ (guess_Part_c2 t l).fst.nulls ∧ (guess_Part_c2 t l).fst.nulls ≤ (1000000000000 : Int)) ∧ (0 : Int) ≤ (guess_Part_c2 t l).fst.others) ∧
              (K (A_guess_Part (guess_Part_c4 t l)) (O_guess_Part (guess_Part_c4 t l))))
              (K (A_guess_Part ((333333 : Int))) (O_guess_Part ((333333 : Int)))))
             (K (A_guess_Part ((333333 : Int))) (O_guess_Part ((333333 : Int)))))
            (cnd ((guess_Part_c1 t l).snd)
             (cnd (Term.op (t.kids.getD 1 zeroTerm) == (1 : Int))
              ((((0 : Int) ≤ (guess_Part_c1 t l).fst.all ∧ (guess_Part_c1 t l).fst.all ≤ (1000000000000 : Int)) ∧ ((0 : Int) ≤ (guess_Part_c1 t l).fst.nulls ∧ (guess_Part_c1 t l).fst.nulls ≤ (1000000000000 : Int)) ∧ (0 : Int) ≤ (guess_Part_c1 t l).fst.others) ∧
              (K (A_guess_Part (guess_Part_c5 t l)) (O_guess_Part (guess_Part_c5 t l))))
              (K (A_guess_Part ((333333 : Int))) (O_guess_Part ((333333 : Int)))))
             (K (A_guess_Part ((333333 : Int))) (O_guess_Part ((333333 : Int))))))))
           (K (A_guess_Part ((333333 : Int))) (O_guess_Part ((333333 : Int)))))
          (K (A_guess_Part ((333333 : Int))) (O_guess_Part ((333333 : Int)))))
         (K (A_guess_Part ((333333 : Int))) (O_guess_Part ((333333 : Int)))))))
      (cnd (t.op == (19 : Int))
       (cnd ((↑t.kids.length : Int) == (1 : Int))
        (((0 : Int) ≤ (0 : Int) ∧ (0 : Int) < (↑t.kids.length : Int)) ∧
        (cnd ((guess_Part_c1 t l).snd)
         (((0 : Int) ≤ (guess_Part_c1 t l).fst.nulls ∧ (0 : Int) ≤ (guess_Part_c1 t l).fst.all) ∧
         (K (A_guess_Part (guess_Part_c3 t l)) (O_guess_Part (guess_Part_c3 t l))))
         (K (A_guess_Part ((333333 : Int))) (O_guess_Part ((333333 : Int))))))
        (cnd (decide (t.op ≥ (11 : Int)))
         (cnd (decide (t.op ≤ (16 : Int)))
          (cnd ((↑t.kids.length : Int) == (2 : Int))
           (((0 : Int) ≤ (0 : Int) ∧ (0 : Int) < (↑t.kids.length : Int)) ∧
           (((0 : Int) ≤ (1 : Int) ∧ (1 : Int) < (↑t.kids.length : Int)) ∧
           (cnd (Term.op (t.kids.getD 0 zeroTerm) == (1 : Int))
            (cnd ((guess_Part_c2 t l).snd)
             (cnd (Term.op (t.kids.getD 0 zeroTerm) == (1 : Int))
              ((((0 : Int) ≤ (guess_Part_c2 t l).fst.all ∧ (guess_Part_c2 t l).fst.all ≤ (1000000000000 : Int)) ∧ ((0 : Int) ≤ (guess_Part_c2 t l).fst.nulls ∧ (guess_Part_c2 t l).fst.nulls ≤ (1000000000000 : Int)) ∧ (0 : Int) ≤ (guess_Part_c2 t l).fst.others) ∧
              (K (A_guess_Part (guess_Part_c4 t l)) (O_guess_Part (guess_Part_c4 t l))))
              (K (A_guess_Part ((333333 : Int))) (O_guess_Part ((333333 : Int)))))
             (K (A_guess_Part ((333333 : Int))) (O_guess_Part ((333333 : Int)))))
            (cnd ((guess_Part_c1 t l).snd)
             (cnd (Term.op (t.kids.getD 1 zeroTerm) == (1 : Int))
              ((((0 : Int) ≤ (guess_Part_c1 t l).fst.all ∧ (guess_Part_c1 t l).fst.all ≤ (1000000000000 : Int)) ∧ ((0 : Int) ≤ (guess_Part_c1 t l).fst.nulls ∧ (guess_Part_c1 t l).fst.nulls ≤ (1000000000000 : Int)) ∧ (0 : Int) ≤ (guess_Part_c1 t l).fst.others) ∧
              (K (A_guess_Part (guess_Part_c5 t l)) (O_guess_Part (guess_Part_c5 t l))))
              (K (A_guess_Part ((333333 : Int))) (O_guess_Part ((333333 : Int)))))
             (K (A_guess_Part ((333333 : Int))) (O_guess_Part ((333333 : Int))))))))
           (K (A_guess_Part ((333333 : Int))) (O_guess_Part ((333333 : Int)))))
          (K (A_guess_Part ((333333 : Int))) (O_guess_Part ((333333 : Int)))))
         (K (A_guess_Part ((333333 : Int))) (O_guess_Part ((333333 : Int))))))
       (cnd (decide (t.op ≥ (11 : Int)))
        (cnd (decide (t.op ≤ (16 : Int)))
         (cnd ((↑t.kids.length : Int) == (2 : Int))
          (((0 : Int) ≤ (0 : Int) ∧ (0 : Int) < (↑t.kids.length : Int)) ∧
          (((0 : Int) ≤ (1 : Int) ∧ (1 : Int) < (↑t.kids.length : Int)) ∧
          (cnd (Term.op (t.kids.getD 0 zeroTerm) == (1 : Int))
           (cnd ((guess_Part_c2 t l).snd)
            (cnd (Term.op (t.kids.getD 0 zeroTerm) == (1 : Int))
             ((((0 : Int) ≤ (guess_Part_c2 t l).fst.all ∧ (guess_Part_c2 t l).fst.all ≤ (1000000000000 : Int)) ∧ ((0 : Int) ≤ (guess_Part_c2 t l).fst.nulls ∧ (guess_Part_c2 t l).fst.nulls ≤ (1000000000000 : Int)) ∧ (0 : Int) ≤ (guess_Part_c2 t l).fst.others) ∧
             (K (A_guess_Part (guess_Part_c4 t l)) (O_guess_Part (guess_Part_c4 t l))))
             (K (A_guess_Part ((333333 : Int))) (O_guess_Part ((333333 : Int)))))
            (K (A_guess_Part ((333333 : Int))) (O_guess_Part ((333333 : Int)))))
           (cnd ((guess_Part_c1 t l).snd)
            (cnd (Term.op (t.kids.getD 1 zeroTerm) == (1 : Int))
             ((((0 : Int) ≤ (guess_Part_c1 t l).fst.all ∧ (guess_Part_c1 t l).fst.all ≤ (1000000000000 : Int)) ∧ ((0 : Int) ≤ (guess_Part_c1 t l).fst.nulls ∧ (guess_Part_c1 t l).fst.nulls ≤ (1000000000000 : Int)) ∧ (0 : Int) ≤ (guess_Part_c1 t l).fst.others) ∧
             (K (A_guess_Part (guess_Part_c5 t l)) (O_guess_Part (guess_Part_c5 t l))))
             (K (A_guess_Part ((333333 : Int))) (O_guess_Part ((333333 : Int)))))
            (K (A_guess_Part ((333333 : Int))) (O_guess_Part ((333333 : Int))))))))
          (K (A_guess_Part ((333333 : Int))) (O_guess_Part ((333333 : Int)))))
         (K (A_guess_Part ((333333 : Int))) (O_guess_Part ((333333 : Int)))))
        (K (A_guess_Part ((333333 : Int))) (O_guess_Part ((333333 : Int))))))))
    (cnd (t.op == (18 : Int))
     (cnd ((↑t.kids.length : Int) == (2 : Int))
      (((0 : Int) ≤ (0 : Int) ∧ (0 : Int) < (↑t.kids.length : Int)) ∧
      (((t.kids.getD 0 zeroTerm).ht < m) ∧
      (((0 : Int) ≤ (1 : Int) ∧ (1 : Int) < (↑t.kids.length : Int)) ∧
      (((t.kids.getD 1 zeroTerm).ht < m) ∧
      ((¬(1000000 : Int) = (0 : Int)) ∧
      (K (A_guess_Part (IntKind.i64.wrap (IntKind.i64.wrap (guess_Part_1 (0 : Int) (Term.mk t.op t.v t.depth t.at_ t.name t.kids t.sub t.type) l + guess_Part_1 (1 : Int) (Term.mk t.op t.v t.depth t.at_ t.name t.kids t.sub t.type) l) - IntKind.i64.wrap ((IntKind.i64.wrap (guess_Part_1 (0 : Int) (Term.mk t.op t.v t.depth t.at_ t.name t.kids t.sub t.type) l * guess_Part_1 (1 : Int) (Term.mk t.op t.v t.depth t.at_ t.name t.kids t.sub t.type) l)).tdiv (1000000 : Int))))) (O_guess_Part (IntKind.i64.wrap (IntKind.i64.wrap (guess_Part_1 (0 : Int) (Term.mk t.op t.v t.depth t.at_ t.name t.kids t.sub t.type) l + guess_Part_1 (1 : Int) (Term.mk t.op t.v t.depth t.at_ t.name t.kids t.sub t.type) l) - IntKind.i64.wrap ((IntKind.i64.wrap (guess_Part_1 (0 : Int) (Term.mk t.op t.v t.depth t.at_ t.name t.kids t.sub t.type) l * guess_Part_1 (1 : Int) (Term.mk t.op t.v t.depth t.at_ t.name t.kids t.sub t.type) l)).tdiv (1000000 : Int)))))))))))
      (cnd (t.op == (19 : Int))
       (cnd ((↑t.kids.length : Int) == (1 : Int))
        (((0 : Int) ≤ (0 : Int) ∧ (0 : Int) < (↑t.kids.length : Int)) ∧
        (cnd ((guess_Part_c1 t l).snd)
         (((0 : Int) ≤ (guess_Part_c1 t l).fst.nulls ∧ (0 : Int) ≤ (guess_Part_c1 t l).fst.all) ∧
         (K (A_guess_Part (guess_Part_c3 t l)) (O_guess_Part (guess_Part_c3 t l))))
         (K (A_guess_Part ((333333 : Int))) (O_guess_Part ((333333 : Int))))))
        (cnd (decide (t.op ≥ (11 : Int)))
         (cnd (decide (t.op ≤ (16 : Int)))
          (cnd ((↑t.kids.length : Int) == (2 : Int))
           (((0 : Int) ≤ (0 : Int) ∧ (0 : Int) < (↑t.kids.length : Int)) ∧
           (((0 : Int) ≤ (1 : Int) ∧ (1 : Int) < (↑t.kids.length : Int)) ∧
           (cnd (Term.op (t.kids.getD 0 zeroTerm) == (1 : Int))
            (cnd ((guess_Part_c2 t l).snd)
             (cnd (Term.op (t.kids.getD 0 zeroTerm) == (1 : Int))
              ((((0 : Int) ≤ (guess_Part_c2 t l).fst.all ∧ (guess_Part_c2 t l).fst.all ≤ (1000000000000 : Int)) ∧ ((0 : Int) ≤ (guess_Part_c2 t l).fst.nulls ∧ (guess_Part_c2 t l).fst.nulls ≤ (1000000000000 : Int)) ∧ (0 : Int) ≤ (guess_Part_c2 t l).fst.others) ∧
              (K (A_guess_Part (guess_Part_c4 t l)) (O_guess_Part (guess_Part_c4 t l))))
              (K (A_guess_Part ((333333 : Int))) (O_guess_Part ((333333 : Int)))))
             (K (A_guess_Part ((333333 : Int))) (O_guess_Part ((333333 : Int)))))
            (cnd ((guess_Part_c1 t l).snd)
             (cnd (Term.op (t.kids.getD 1 zeroTerm) == (1 : Int))
              ((((0 : Int) ≤ (guess_Part_c1 t l).fst.all ∧ (guess_Part_c1 t l).fst.all ≤ (1000000000000 : Int)) ∧ ((0 : Int) ≤ (guess_Part_c1 t l).fst.nulls ∧ (guess_Part_c1 t l).fst.nulls ≤ (1000000000000 : Int)) ∧ (0 : Int) ≤ (guess_Part_c1 t l).fst.others) ∧
              (K (A_guess_Part (guess_Part_c5 t l)) (O_guess_Part (guess_Part_c5 t l))))
              (K (A_guess_Part ((333333 : Int))) (O_guess_Part ((333333 : Int)))))
             (K (A_guess_Part ((333333 : Int))) (O_guess_Part ((333333 : Int))))))))
           (K (A_guess_Part ((333333 : Int))) (O_guess_Part ((333333 : Int)))))
          (K (A_guess_Part ((333333 : Int))) (O_guess_Part ((333333 : Int)))))
         (K (A_guess_Part ((333333 : Int))) (O_guess_Part ((333333 : Int))))))
       (cnd (decide (t.op ≥ (11 : Int)))
        (cnd (decide (t.op ≤ (16 : Int)))
         (cnd ((↑t.kids.length : Int) == (2 : Int))
          (((0 : Int) ≤ (0 : Int) ∧ (0 : Int) < (↑t.kids.length : Int)) ∧
          (((0 : Int) ≤ (1 : Int) ∧ (1 : Int) < (↑t.kids.length : Int)) ∧
          (cnd (Term.op (t.kids.getD 0 zeroTerm) == (1 : Int))
           (cnd ((guess_Part_c2 t l).snd)
            (cnd (Term.op (t.kids.getD 0 zeroTerm) == (1 : Int))
             ((((0 : Int) ≤ (guess_Part_c2 t l).fst.all ∧ (guess_Part_c2 t l).fst.all ≤ (1000000000000 : Int)) ∧ ((0 : Int) ≤ (guess_Part_c2 t l).fst.nulls ∧ (guess_Part_c2 t l).fst.nulls ≤ (1000000000000 : Int)) ∧ (0 : Int) ≤ (guess_Part_c2 t l).fst.others) ∧
             (K (A_guess_Part (guess_Part_c4 t l)) (O_guess_Part (guess_Part_c4 t l))))
             (K (A_guess_Part ((333333 : Int))) (O_guess_Part ((333333 : Int)))))
            (K (A_guess_Part ((333333 : Int))) (O_guess_Part ((333333 : Int)))))
           (cnd ((guess_Part_c1 t l).snd)
            (cnd (Term.op (t.kids.getD 1 zeroTerm) == (1 : Int))
             ((((0 : Int) ≤ (guess_Part_c1 t l).fst.all ∧ (guess_Part_c1 t l).fst.all ≤ (1000000000000 : Int)) ∧ ((0 : Int) ≤ (guess_Part_c1 t l).fst.nulls ∧ (guess_Part_c1 t l).fst.nulls ≤ (1000000000000 : Int)) ∧ (0 : Int) ≤ (guess_Part_c1 t l).fst.others) ∧
             (K (A_guess_Part (guess_Part_c5 t l)) (O_guess_Part (guess_Part_c5 t l))))
             (K (A_guess_Part ((333333 : Int))) (O_guess_Part ((333333 : Int)))))
            (K (A_guess_Part ((333333 : Int))) (O_guess_Part ((333333 : Int))))))))
          (K (A_guess_Part ((333333 : Int))) (O_guess_Part ((333333 : Int)))))
         (K (A_guess_Part ((333333 : Int))) (O_guess_Part ((333333 : Int)))))
        (K (A_guess_Part ((333333 : Int))) (O_guess_Part ((333333 : Int)))))))
     (cnd (t.op == (19 : Int))
      (cnd ((↑t.kids.length : Int) == (1 : Int))
       (((0 : Int) ≤ (0 : Int) ∧ (0 : Int) < (↑t.kids.length : Int)) ∧
       (cnd ((guess_Part_c1 t l).snd)
        (((0 : Int) ≤ (guess_Part_c1 t l).fst.nulls ∧ (0 : Int) ≤ (guess_Part_c1 t l).fst.all) ∧
        (K (A_guess_Part (guess_Part_c3 t l)) (O_guess_Part (guess_Part_c3 t l))))
        (K (A_guess_Part ((333333 : Int))) (O_guess_Part ((333333 : Int))))))
       (cnd (decide (t.op ≥ (11 : Int)))
        (cnd (decide (t.op ≤ (16 : Int)))
         (cnd ((↑t.kids.length : Int) == (2 : Int))
          (((0 : Int) ≤ (0 : Int) ∧ (0 : Int) < (↑t.kids.length : Int)) ∧
          (((0 : Int) ≤ (1 : Int) ∧ (1 : Int) < (↑t.kids.length : Int)) ∧
          (cnd (Term.op (t.kids.getD 0 zeroTerm) == (1 : Int))
           (cnd ((guess_Part_c2 t l).snd)
            (cnd (Term.op (t.kids.getD 0 zeroTerm) == (1 : Int))
             ((((0 : Int) ≤ (guess_Part_c2 t l).fst.all ∧ (guess_Part_c2 t l).fst.all ≤ (1000000000000 : Int)) ∧ ((0 : Int) ≤ (guess_Part_c2 t l).fst.nulls ∧ (guess_Part_c2 t l).fst.nulls ≤ (1000000000000 : Int)) ∧ (0 : Int) ≤ (guess_Part_c2 t l).fst.others) ∧
             (K (A_guess_Part (guess_Part_c4 t l)) (O_guess_Part (guess_Part_c4 t l))))
             (K (A_guess_Part ((333333 : Int))) (O_guess_Part ((333333 : Int)))))
            (K (A_guess_Part ((333333 : Int))) (O_guess_Part ((333333 : Int)))))
           (cnd ((guess_Part_c1 t l).snd)
            (cnd (Term.op (t.kids.getD 1 zeroTerm) == (1 : Int))
             ((((0 : Int) ≤ (guess_Part_c1 t l).fst.all ∧ (guess_Part_c1 t l).fst.all ≤ (1000000000000 : Int)) ∧ ((0 : Int) ≤ (guess_Part_c1 t l).fst.nulls ∧ (guess_Part_c1 t l).fst.nulls ≤ (1000000000000 : Int)) ∧ (0 : Int) ≤ (guess_Part_c1 t l).fst.others) ∧
             (K (A_guess_Part (guess_Part_c5 t l)) (O_guess_Part (guess_Part_c5 t l))))
             (K (A_guess_Part ((333333 : Int))) (O_guess_Part ((333333 : Int)))))
            (K (A_guess_Part ((333333 : Int))) (O_guess_Part ((333333 : Int))))))))
          (K (A_guess_Part ((333333 : Int))) (O_guess_Part ((333333 : Int)))))
         (K (A_guess_Part ((333333 : Int))) (O_guess_Part ((333333 : Int)))))
        (K (A_guess_Part ((333333 : Int))) (O_guess_Part ((333333 : Int))))))
      (cnd (decide (t.op ≥ (11 : Int)))
       (cnd (decide (t.op ≤ (16 : Int)))
        (cnd ((↑t.kids.length : Int) == (2 : Int))
         (((0 : Int) ≤ (0 : Int) ∧ (0 : Int) < (↑t.kids.length : Int)) ∧
         (((0 : Int) ≤ (1 : Int) ∧ (1 : Int) < (↑t.kids.length : Int)) ∧
         (cnd (Term.op (t.kids.getD 0 zeroTerm) == (1 : Int))
          (cnd ((guess_Part_c2 t l).snd)
           (cnd (Term.op (t.kids.getD 0 zeroTerm) == (1 : Int))
            ((((0 : Int) ≤ (guess_Part_c2 t l).fst.all ∧ (guess_Part_c2 t l).fst.all ≤ (1000000000000 : Int)) ∧ ((0 : Int) ≤ (guess_Part_c2 t l).fst.nulls ∧ (guess_Part_c2 t l).fst.nulls ≤ (1000000000000 : Int)) ∧ (0 : Int) ≤ (guess_Part_c2 t l).fst.others) ∧
            (K (A_guess_Part (guess_Part_c4 t l)) (O_guess_Part (guess_Part_c4 t l))))
            (K (A_guess_Part ((333333 : Int))) (O_guess_Part ((333333 : Int)))))
           (K (A_guess_Part ((333333 : Int))) (O_guess_Part ((333333 : Int)))))
          (cnd ((guess_Part_c1 t l).snd)
           (cnd (Term.op (t.kids.getD 1 zeroTerm) == (1 : Int))
            ((((0 : Int) ≤ (guess_Part_c1 t l).fst.all ∧ (guess_Part_c1 t l).fst.all ≤ (1000000000000 : Int)) ∧ ((0 : Int) ≤ (guess_Part_c1 t l).fst.nulls ∧ (guess_Part_c1 t l).fst.nulls ≤ (1000000000000 : Int)) ∧ (0 : Int) ≤ (guess_Part_c1 t l).fst.others) ∧
            (K (A_guess_Part (guess_Part_c5 t l)) (O_guess_Part (guess_Part_c5 t l))))
            (K (A_guess_Part ((333333 : Int))) (O_guess_Part ((333333 : Int)))))
           (K (A_guess_Part ((333333 : Int))) (O_guess_Part ((333333 : Int))))))))
         (K (A_guess_Part ((333333 : Int))) (O_guess_Part ((333333 : Int)))))
        (K (A_guess_Part ((333333 : Int))) (O_guess_Part ((333333 : Int)))))
       (K (A_guess_Part ((333333 : Int))) (O_guess_Part ((333333 : Int)))))))))
  (cnd (t.op == (17 : Int))
   (cnd ((↑t.kids.length : Int) == (2 : Int))
    (((0 : Int) ≤ (0 : Int) ∧ (0 : Int) < (↑t.kids.length : Int)) ∧
    (((t.kids.getD 0 zeroTerm).ht < m) ∧
    (((0 : Int) ≤ (1 : Int) ∧ (1 : Int) < (↑t.kids.length : Int)) ∧
    (((t.kids.getD 1 zeroTerm).ht < m) ∧
    ((¬(1000000 : Int) = (0 : Int)) ∧
    (K (A_guess_Part (IntKind.i64.wrap ((IntKind.i64.wrap (guess_Part_1 (0 : Int) (Term.mk t.op t.v t.depth t.at_ t.name t.kids t.sub t.type) l * guess_Part_1 (1 : Int) (Term.mk t.op t.v t.depth t.at_ t.name t.kids t.sub t.type) l)).tdiv (1000000 : Int)))) (O_guess_Part (IntKind.i64.wrap ((IntKind.i64.wrap (guess_Part_1 (0 : Int) (Term.mk t.op t.v t.depth t.at_ t.name t.kids t.sub t.type) l * guess_Part_1 (1 : Int) (Term.mk t.op t.v t.depth t.at_ t.name t.kids t.sub t.type) l)).tdiv (1000000 : Int))))))))))
    (cnd (t.op == (18 : Int))
     (cnd ((↑t.kids.length : Int) == (2 : Int))
      (((0 : Int) ≤ (0 : Int) ∧ (0 : Int) < (↑t.kids.length : Int)) ∧
      (((t.kids.getD 0 zeroTerm).ht < m) ∧
      (((0 : Int) ≤ (1 : Int) ∧ (1 : Int) < (↑t.kids.length : Int)) ∧
      (((t.kids.getD 1 zeroTerm).ht < m) ∧
      ((¬(1000000 : Int) = (0 : Int)) ∧
      (K (A_guess_Part (IntKind.i64.wrap (IntKind.i64.wrap (guess_Part_1 (0 : Int) (Term.mk t.op t.v t.depth t.at_ t.name t.kids t.sub t.type) l + guess_Part_1 (1 : Int) (Term.mk t.op t.v t.depth t.at_ t.name t.kids t.sub t.type) l) - IntKind.i64.wrap ((IntKind.i64.wrap (guess_Part_1 (0 : Int) (Term.mk t.op t.v t.depth t.at_ t.name t.kids t.sub t.type) l * guess_Part_1 (1 : Int) (Term.mk t.op t.v t.depth t.at_ t.name t.kids t.sub t.type) l)).tdiv (1000000 : Int))))) (O_guess_Part (IntKind.i64.wrap (IntKind.i64.wrap (guess_Part_1 (0 : Int) (Term.mk t.op t.v t.depth t.at_ t.name t.kids t.sub t.type) l + guess_Part_1 (1 : Int) (Term.mk t.op t.v t.depth t.at_ t.name t.kids t.sub t.type) l) - IntKind.i64.wrap ((IntKind.i64.wrap (guess_Part_1 (0 : Int) (Term.mk t.op t.v t.depth t.at_ t.name t.kids t.sub t.type) l * guess_Part_1 (1 : Int) (Term.mk t.op t.v t.depth t.at_ t.name t.kids t.sub t.type) l)).tdiv (1000000 : Int)))))))))))
      (cnd (t.op == (19 : Int))
       (cnd ((↑t.kids.length : Int) == (1 : Int))
        (((0 : Int) ≤ (0 : Int) ∧ (0 : Int) < (↑t.kids.length : Int)) ∧
        (cnd ((guess_Part_c1 t l).snd)
         (((0 : Int) ≤ (guess_Part_c1 t l).fst.nulls ∧ (0 : Int) ≤ (guess_Part_c1 t l).fst.all) ∧
         (K (A_guess_Part (guess_Part_c3 t l)) (O_guess_Part (guess_Part_c3 t l))))
         (K (A_guess_Part ((333333 : Int))) (O_guess_Part ((333333 : Int))))))
        (cnd (decide (t.op ≥ (11 : Int)))
         (cnd (decide (t.op ≤ (16 : Int)))
          (cnd ((↑t.kids.length : Int) == (2 : Int))
           (((0 : Int) ≤ (0 : Int) ∧ (0 : Int) < (↑t.kids.length : Int)) ∧
           (((0 : Int) ≤ (1 : Int) ∧ (1 : Int) < (↑t.kids.length : Int)) ∧
           (cnd (Term.op (t.kids.getD 0 zeroTerm) == (1 : Int))
            (cnd ((guess_Part_c2 t l).snd)
             (cnd (Term.op (t.kids.getD 0 zeroTerm) == (1 : Int))
              ((((0 : Int) ≤ (guess_Part_c2 t l).fst.all ∧ (guess_Part_c2 t l).fst.all ≤ (1000000000000 : Int)) ∧ ((0 : Int) ≤ (guess_Part_c2 t l).fst.nulls ∧ (guess_Part_c2 t l).fst.nulls ≤ (1000000000000 : Int)) ∧ (0 : Int) ≤ (guess_Part_c2 t l).fst.others) ∧
              (K (A_guess_Part (guess_Part_c4 t l)) (O_guess_Part (guess_Part_c4 t l))))
              (K (A_guess_Part ((333333 : Int))) (O_guess_Part ((333333 : Int)))))
             (K (A_guess_Part ((333333 : Int))) (O_guess_Part ((333333 : Int)))))
            (cnd ((guess_Part_c1 t l).snd)
             (cnd (Term.op (t.kids.getD 1 zeroTerm) == (1 : Int))
              ((((0 : Int) ≤ (guess_Part_c1 t l).fst.all ∧ (guess_Part_c1 t l).fst.all ≤ (1000000000000 : Int)) ∧ ((0 : Int) ≤ (guess_Part_c1 t l).fst.nulls ∧ (guess_Part_c1 t l).fst.nulls ≤ (1000000000000 : Int)) ∧ (0 : Int) ≤ (guess_Part_c1 t l).fst.others) ∧
              (K (A_guess_Part (guess_Part_c5 t l)) (O_guess_Part (guess_Part_c5 t l))))
              (K (A_guess_Part ((333333 : Int))) (O_guess_Part ((333333 : Int)))))
             (K (A_guess_Part ((333333 : Int))) (O_guess_Part ((333333 : Int))))))))
           (K (A_guess_Part ((333333 : Int))) (O_guess_Part ((333333 : Int)))))
          (K (A_guess_Part ((333333 : Int))) (O_guess_Part ((333333 : Int)))))
         (K (A_guess_Part ((333333 : Int))) (O_guess_Part ((333333 : Int))))))
       (cnd (decide (t.op ≥ (11 : Int)))
        (cnd (decide (t.op ≤ (16 : Int)))
         (cnd ((↑t.kids.length : Int) == (2 : Int))
          (((0 : Int) ≤ (0 : Int) ∧ (0 : Int) < (↑t.kids.length : Int)) ∧
          (((0 : Int) ≤ (1 : Int) ∧ (1 : Int) < (↑t.kids.length : Int)) ∧
          (cnd (Term.op (t.kids.getD 0 zeroTerm) == (1 : Int))
           (cnd ((guess_Part_c2 t l).snd)
            (cnd (Term.op (t.kids.getD 0 zeroTerm) == (1 : Int))
             ((((0 : Int) ≤ (guess_Part_c2 t l).fst.all ∧ (guess_Part_c2 t l).fst.all ≤ (1000000000000 : Int)) ∧ ((0 : Int) ≤ (guess_Part_c2 t l).fst.nulls ∧ (guess_Part_c2 t l).fst.nulls ≤ (1000000000000 : Int)) ∧ (0 : Int) ≤ (guess_Part_c2 t l).fst.others) ∧
             (K (A_guess_Part (guess_Part_c4 t l)) (O_guess_Part (guess_Part_c4 t l))))
             (K (A_guess_Part ((333333 : Int))) (O_guess_Part ((333333 : Int)))))
            (K (A_guess_Part ((333333 : Int))) (O_guess_Part ((333333 : Int)))))
           (cnd ((guess_Part_c1 t l).snd)
            (cnd (Term.op (t.kids.getD 1 zeroTerm) == (1 : Int))
             ((((0 : Int) ≤ (guess_Part_c1 t l).fst.all ∧ (guess_Part_c1 t l).fst.all ≤ (1000000000000 : Int)) ∧ ((0 : Int) ≤ (guess_Part_c1 t l).fst.nulls ∧ (guess_Part_c1 t l).fst.nulls ≤ (1000000000000 : Int)) ∧ (0 : Int) ≤ (guess_Part_c1 t l).fst.others) ∧
             (K (A_guess_Part (guess_Part_c5 t l)) (O_guess_Part (guess_Part_c5 t l))))
             (K (A_guess_Part ((333333 : Int))) (O_guess_Part ((333333 : Int)))))
            (K (A_guess_Part ((333333 : Int))) (O_guess_Part ((333333 : Int))))))))
          (K (A_guess_Part ((333333 : Int))) (O_guess_Part ((333333 : Int)))))
         (K (A_guess_Part ((333333 : Int))) (O_guess_Part ((333333 : Int)))))
        (K (A_guess_Part ((333333 : Int))) (O_guess_Part ((333333 : Int)))))))
     (cnd (t.op == (19 : Int))
      (cnd ((↑t.kids.length : Int) == (1 : Int))
       (((0 : Int) ≤ (0 : Int) ∧ (0 : Int) < (↑t.kids.length : Int)) ∧
       (cnd ((guess_Part_c1 t l).snd)
        (((0 : Int) ≤ (guess_Part_c1 t l).fst.nulls ∧ (0 : Int) ≤ (guess_Part_c1 t l).fst.all) ∧
        (K (A_guess_Part (guess_Part_c3 t l)) (O_guess_Part (guess_Part_c3 t l))))
        (K (A_guess_Part ((333333 : Int))) (O_guess_Part ((333333 : Int))))))
       (cnd (decide (t.op ≥ (11 : Int)))
        (cnd (decide (t.op ≤ (16 : Int)))
         (cnd ((↑t.kids.length : Int) == (2 : Int))
          (((0 : Int) ≤ (0 : Int) ∧ (0 : Int) < (↑t.kids.length : Int)) ∧
          (((0 : Int) ≤ (1 : Int) ∧ (1 : Int) < (↑t.kids.length : Int)) ∧
          (cnd (Term.op (t.kids.getD 0 zeroTerm) == (1 : Int))
           (cnd ((guess_Part_c2 t l).snd)
            (cnd (Term.op (t.kids.getD 0 zeroTerm) == (1 : Int))
             ((((0 : Int) ≤ (guess_Part_c2 t l).fst.all ∧ (guess_Part_c2 t l).fst.all ≤ (1000000000000 : Int)) ∧ ((0 : Int) ≤ (guess_Part_c2 t l).fst.nulls ∧ (guess_Part_c2 t l).fst.nulls ≤ (1000000000000 : Int)) ∧ (0 : Int) ≤ (guess_Part_c2 t l).fst.others) ∧
             (K (A_guess_Part (guess_Part_c4 t l)) (O_guess_Part (guess_Part_c4 t l))))
             (K (A_guess_Part ((333333 : Int))) (O_guess_Part ((333333 : Int)))))
            (K (A_guess_Part ((333333 : Int))) (O_guess_Part ((333333 : Int)))))
           (cnd ((guess_Part_c1 t l).snd)
            (cnd (Term.op (t.kids.getD 1 zeroTerm) == (1 : Int))
             ((((0 : Int) ≤ (guess_Part_c1 t l).fst.all ∧ (guess_Part_c1 t l).fst.all ≤ (1000000000000 : Int)) ∧ ((0 : Int) ≤ (guess_Part_c1 t l).fst.nulls ∧ (guess_Part_c1 t l).fst.nulls ≤ (1000000000000 : Int)) ∧ (0 : Int) ≤ (guess_Part_c1 t l).fst.others) ∧
             (K (A_guess_Part (guess_Part_c5 t l)) (O_guess_Part (guess_Part_c5 t l))))
             (K (A_guess_Part ((333333 : Int))) (O_guess_Part ((333333 : Int)))))
            (K (A_guess_Part ((333333 : Int))) (O_guess_Part ((333333 : Int))))))))
          (K (A_guess_Part ((333333 : Int))) (O_guess_Part ((333333 : Int)))))
         (K (A_guess_Part ((333333 : Int))) (O_guess_Part ((333333 : Int)))))
        (K (A_guess_Part ((333333 : Int))) (O_guess_Part ((333333 : Int))))))
      (cnd (decide (t.op ≥ (11 : Int)))
       (cnd (decide (t.op ≤ (16 : Int)))
        (cnd ((↑t.kids.length : Int) == (2 : Int))
         (((0 : Int) ≤ (0 : Int) ∧ (0 : Int) < (↑t.kids.length : Int)) ∧
         (((0 : Int) ≤ (1 : Int) ∧ (1 : Int) < (↑t.kids.length : Int)) ∧
         (cnd (Term.op (t.kids.getD 0 zeroTerm) == (1 : Int))
          (cnd ((guess_Part_c2 t l).snd)
           (cnd (Term.op (t.kids.getD 0 zeroTerm) == (1 : Int))
            ((((0 : Int) ≤ (guess_Part_c2 t l).fst.all ∧ (guess_Part_c2 t l).fst.all ≤ (1000000000000 : Int)) ∧ ((0 : Int) ≤ (guess_Part_c2 t l).fst.nulls ∧ (guess_Part_c2 t l).fst.nulls ≤ (1000000000000 : Int)) ∧ (0 : Int) ≤ (guess_Part_c2 t l).fst.others) ∧
            (K (A_guess_Part (guess_Part_c4 t l)) (O_guess_Part (guess_Part_c4 t l))))
            (K (A_guess_Part ((333333 : Int))) (O_guess_Part ((333333 : Int)))))
           (K (A_guess_Part ((333333 : Int))) (O_guess_Part ((333333 : Int)))))
          (cnd ((guess_Part_c1 t l).snd)
           (cnd (Term.op (t.kids.getD 1 zeroTerm) == (1 : Int))
            ((((0 : Int) ≤ (guess_Part_c1 t l).fst.all ∧ (guess_Part_c1 t l).fst.all ≤ (1000000000000 : Int)) ∧ ((0 : Int) ≤ (guess_Part_c1 t l).fst.nulls ∧ (guess_Part_c1 t l).fst.nulls ≤ (1000000000000 : Int)) ∧ (0 : Int) ≤ (guess_Part_c1 t l).fst.others) ∧
            (K (A_guess_Part (guess_Part_c5 t l)) (O_guess_Part (guess_Part_c5 t l))))
            (K (A_guess_Part ((333333 : Int))) (O_guess_Part ((333333 : Int)))))
           (K (A_guess_Part ((333333 : Int))) (O_guess_Part ((333333 : Int))))))))
         (K (A_guess_Part ((333333 : Int))) (O_guess_Part ((333333 : Int)))))
        (K (A_guess_Part ((333333 : Int))) (O_guess_Part ((333333 : Int)))))
       (K (A_guess_Part ((333333 : Int))) (O_guess_Part ((333333 : Int))))))))
   (cnd (t.op == (18 : Int))
    (cnd ((↑t.kids.length : Int) == (2 : Int))
     (((0 : Int) ≤ (0 : Int) ∧ (0 : Int) < (↑t.kids.length : Int)) ∧
     (((t.kids.getD 0 zeroTerm).ht < m) ∧
     (((0 : Int) ≤ (1 : Int) ∧ (1 : Int) < (↑t.kids.length : Int)) ∧
     (((t.kids.getD 1 zeroTerm).ht < m) ∧
     ((¬(1000000 : Int) = (0 : Int)) ∧
     (K (A_guess_Part (IntKind.i64.wrap (IntKind.i64.wrap (guess_Part_1 (0 : Int) (Term.mk t.op t.v t.depth t.at_ t.name t.kids t.sub t.type) l + guess_Part_1 (1 : Int) (Term.mk t.op t.v t.depth t.at_ t.name t.kids t.sub t.type) l) - IntKind.i64.wrap ((IntKind.i64.wrap (guess_Part_1 (0 : Int) (Term.mk t.op t.v t.depth t.at_ t.name t.kids t.sub t.type) l * guess_Part_1 (1 : Int) (Term.mk t.op t.v t.depth t.at_ t.name t.kids t.sub t.type) l)).tdiv (1000000 : Int))))) (O_guess_Part (IntKind.i64.wrap (IntKind.i64.wrap (guess_Part_1 (0 : Int) (Term.mk t.op t.v t.depth t.at_ t.name t.kids t.sub t.type) l + guess_Part_1 (1 : Int) (Term.mk t.op t.v t.depth t.at_ t.name t.kids t.sub t.type) l) - IntKind.i64.wrap ((IntKind.i64.wrap (guess_Part_1 (0 : Int) (Term.mk t.op t.v t.depth t.at_ t.name t.kids t.sub t.type) l * guess_Part_1 (1 : Int) (Term.mk t.op t.v t.depth t.at_ t.name t.kids t.sub t.type) l)).tdiv (1000000 : Int)))))))))))
     (cnd (t.op == (19 : Int))
      (cnd ((↑t.kids.length : Int) == (1 : Int))
       (((0 : Int) ≤ (0 : Int) ∧ (0 : Int) < (↑t.kids.length : Int)) ∧
       (cnd ((guess_Part_c1 t l).snd)
        (((0 : Int) ≤ (guess_Part_c1 t l).fst.nulls ∧ (0 : Int) ≤ (guess_Part_c1 t l).fst.all) ∧
        (K (A_guess_Part (guess_Part_c3 t l)) (O_guess_Part (guess_Part_c3 t l))))
        (K (A_guess_Part ((333333 : Int))) (O_guess_Part ((333333 : Int))))))
       (cnd (decide (t.op ≥ (11 : Int)))
        (cnd (decide (t.op ≤ (16 : Int)))
         (cnd ((↑t.kids.length : Int) == (2 : Int))
          (((0 : Int) ≤ (0 : Int) ∧ (0 : Int) < (↑t.kids.length : Int)) ∧
          (((0 : Int) ≤ (1 : Int) ∧ (1 : Int) < (↑t.kids.length : Int)) ∧
          (cnd (Term.op (t.kids.getD 0 zeroTerm) == (1 : Int))
           (cnd ((guess_Part_c2 t l).snd)
            (cnd (Term.op (t.kids.getD 0 zeroTerm) == (1 : Int))
             ((((0 : Int) ≤ (guess_Part_c2 t l).fst.all ∧ (guess_Part_c2 t l).fst.all ≤ (1000000000000 : Int)) ∧ ((0 : Int) ≤ (guess_Part_c2 t l).fst.nulls ∧ (guess_Part_c2 t l).fst.nulls ≤ (1000000000000 : Int)) ∧ (0 : Int) ≤ (guess_Part_c2 t l).fst.others) ∧
             (K (A_guess_Part (guess_Part_c4 t l)) (O_guess_Part (guess_Part_c4 t l))))
             (K (A_guess_Part ((333333 : Int))) (O_guess_Part ((333333 : Int)))))
            (K (A_guess_Part ((333333 : Int))) (O_guess_Part ((333333 : Int)))))
           (cnd ((guess_Part_c1 t l).snd)
            (cnd (Term.op (t.kids.getD 1 zeroTerm) == (1 : Int))
             ((((0 : Int) ≤ (guess_Part_c1 t l).fst.all ∧ (guess_Part_c1 t l).fst.all ≤ (1000000000000 : Int)) ∧ ((0 : Int) ≤ (guess_Part_c1 t l).fst.nulls ∧ (guess_Part_c1 t l).fst.nulls ≤ (1000000000000 : Int)) ∧ (0 : Int) ≤ (guess_Part_c1 t l).fst.others) ∧
             (K (A_guess_Part (guess_Part_c5 t l)) (O_guess_Part (guess_Part_c5 t l))))
             (K (A_guess_Part ((333333 : Int))) (O_guess_Part ((333333 : Int)))))
            (K (A_guess_Part ((333333 : Int))) (O_guess_Part ((333333 : Int))))))))
          (K (A_guess_Part ((333333 : Int))) (O_guess_Part ((333333 : Int)))))
         (K (A_guess_Part ((333333 : Int))) (O_guess_Part ((333333 : Int)))))
        (K (A_guess_Part ((333333 : Int))) (O_guess_Part ((333333 : Int))))))
      (cnd (decide (t.op ≥ (11 : Int)))
       (cnd (decide (t.op ≤ (16 : Int)))
        (cnd ((↑t.kids.length : Int) == (2 : Int))
         (((0 : Int) ≤ (0 : Int) ∧ (0 : Int) < (↑t.kids.length : Int)) ∧
         (((0 : Int) ≤ (1 : Int) ∧ (1 : Int) < (↑t.kids.length : Int)) ∧
         (cnd (Term.op (t.kids.getD 0 zeroTerm) == (1 : Int))
          (cnd ((guess_Part_c2 t l).snd)
           (cnd (Term.op (t.kids.getD 0 zeroTerm) == (1 : Int))
            ((((0 : Int) ≤ (guess_Part_c2 t l).fst.all ∧ (guess_Part_c2 t l).fst.all ≤ (1000000000000 : Int)) ∧ ((0 : Int) ≤ (guess_Part_c2 t l).fst.nulls ∧ (guess_Part_c2 t l).fst.nulls ≤ (1000000000000 : Int)) ∧ (0 : Int) ≤ (guess_Part_c2 t l).fst.others) ∧
            (K (A_guess_Part (guess_Part_c4 t l)) (O_guess_Part (guess_Part_c4 t l))))
            (K (A_guess_Part ((333333 : Int))) (O_guess_Part ((333333 : Int)))))
           (K (A_guess_Part ((333333 : Int))) (O_guess_Part ((333333 : Int)))))
          (cnd ((guess_Part_c1 t l).snd)
           (cnd (Term.op (t.kids.getD 1 zeroTerm) == (1 : Int))
            ((((0 : Int) ≤ (guess_Part_c1 t l).fst.all ∧ (guess_Part_c1 t l).fst.all ≤ (1000000000000 : Int)) ∧ ((0 : Int) ≤ (guess_Part_c1 t l).fst.nulls ∧ (guess_Part_c1 t l).fst.nulls ≤ (1000000000000 : Int)) ∧ (0 : Int) ≤ (guess_Part_c1 t l).fst.others) ∧
            (K (A_guess_Part (guess_Part_c5 t l)) (O_guess_Part (guess_Part_c5 t l))))
            (K (A_guess_Part ((333333 : Int))) (O_guess_Part ((333333 : Int)))))
           (K (A_guess_Part ((333333 : Int))) (O_guess_Part ((333333 : Int))))))))
         (K (A_guess_Part ((333333 : Int))) (O_guess_Part ((333333 : Int)))))
        (K (A_guess_Part ((333333 : Int))) (O_guess_Part ((333333 : Int)))))
       (K (A_guess_Part ((333333 : Int))) (O_guess_Part ((333333 : Int)))))))
    (cnd (t.op == (19 : Int))
     (cnd ((↑t.kids.length : Int) == (1 : Int))
      (((0 : Int) ≤ (0 : Int) ∧ (0 : Int) < (↑t.kids.length : Int)) ∧
      (cnd ((guess_Part_c1 t l).snd)
       (((0 : Int) ≤ (guess_Part_c1 t l).fst.nulls ∧ (0 : Int) ≤ (guess_Part_c1 t l).fst.all) ∧
       (K (A_guess_Part (guess_Part_c3 t l)) (O_guess_Part (guess_Part_c3 t l))))
       (K (A_guess_Part ((333333 : Int))) (O_guess_Part ((333333 : Int))))))
      (cnd (decide (t.op ≥ (11 : Int)))
       (cnd (decide (t.op ≤ (16 : Int)))
        (cnd ((↑t.kids.length : Int) == (2 : Int))
         (((0 : Int) ≤ (0 : Int) ∧ (0 : Int) < (↑t.kids.length : Int)) ∧
         (((0 : Int) ≤ (1 : Int) ∧ (1 : Int) < (↑t.kids.length : Int)) ∧
         (cnd (Term.op (t.kids.getD 0 zeroTerm) == (1 : Int))
          (cnd ((guess_Part_c2 t l).snd)
           (cnd (Term.op (t.kids.getD 0 zeroTerm) == (1 : Int))
            ((((0 : Int) ≤ (guess_Part_c2 t l).fst.all ∧ (guess_Part_c2 t l).fst.all ≤ (1000000000000 : Int)) ∧ ((0 : Int) ≤ (guess_Part_c2 t l).fst.nulls ∧ (guess_Part_c2 t l).fst.nulls ≤ (1000000000000 : Int)) ∧ (0 : Int) ≤ (guess_Part_c2 t l).fst.others) ∧
            (K (A_guess_Part (guess_Part_c4 t l)) (O_guess_Part (guess_Part_c4 t l))))
            (K (A_guess_Part ((333333 : Int))) (O_guess_Part ((333333 : Int)))))
           (K (A_guess_Part ((333333 : Int))) (O_guess_Part ((333333 : Int)))))
          (cnd ((guess_Part_c1 t l).snd)
           (cnd (Term.op (t.kids.getD 1 zeroTerm) == (1 : Int))
            ((((0 : Int) ≤ (guess_Part_c1 t l).fst.all ∧ (guess_Part_c1 t l).fst.all ≤ (1000000000000 : Int)) ∧ ((0 : Int) ≤ (guess_Part_c1 t l).fst.nulls ∧ (guess_Part_c1 t l).fst.nulls ≤ (1000000000000 : Int)) ∧ (0 : Int) ≤ (guess_Part_c1 t l).fst.others) ∧
            (K (A_guess_Part (guess_Part_c5 t l)) (O_guess_Part (guess_Part_c5 t l))))
            (K (A_guess_Part ((333333 : Int))) (O_guess_Part ((333333 : Int)))))
           (K (A_guess_Part ((333333 : Int))) (O_guess_Part ((333333 : Int))))))))
         (K (A_guess_Part ((333333 : Int))) (O_guess_Part ((333333 : Int)))))
        (K (A_guess_Part ((333333 : Int))) (O_guess_Part ((333333 : Int)))))
       (K (A_guess_Part ((333333 : Int))) (O_guess_Part ((333333 : Int))))))
     (cnd (decide (t.op ≥ (11 : Int)))
      (cnd (decide (t.op ≤ (16 : Int)))
       (cnd ((↑t.kids.length : Int) == (2 : Int))
        (((0 : Int) ≤ (0 : Int) ∧ (0 : Int) < (↑t.kids.length : Int)) ∧
        (((0 : Int) ≤ (1 : Int) ∧ (1 : Int) < (↑t.kids.length : Int)) ∧
        (cnd (Term.op (t.kids.getD 0 zeroTerm) == (1 : Int))
         (cnd ((guess_Part_c2 t l).snd)
          (cnd (Term.op (t.kids.getD 0 zeroTerm) == (1 : Int))
           ((((0 : Int) ≤ (guess_Part_c2 t l).fst.all ∧ (guess_Part_c2 t l).fst.all ≤ (1000000000000 : Int)) ∧ ((0 : Int) ≤ (guess_Part_c2 t l).fst.nulls ∧ (guess_Part_c2 t l).fst.nulls ≤ (1000000000000 : Int)) ∧ (0 : Int) ≤ (guess_Part_c2 t l).fst.others) ∧
           (K (A_guess_Part (guess_Part_c4 t l)) (O_guess_Part (guess_Part_c4 t l))))
           (K (A_guess_Part ((333333 : Int))) (O_guess_Part ((333333 : Int)))))
          (K (A_guess_Part ((333333 : Int))) (O_guess_Part ((333333 : Int)))))
         (cnd ((guess_Part_c1 t l).snd)
          (cnd (Term.op (t.kids.getD 1 zeroTerm) == (1 : Int))
           ((((0 : Int) ≤ (guess_Part_c1 t l).fst.all ∧ (guess_Part_c1 t l).fst.all ≤ (1000000000000 : Int)) ∧ ((0 : Int) ≤ (guess_Part_c1 t l).fst.nulls ∧ (guess_Part_c1 t l).fst.nulls ≤ (1000000000000 : Int)) ∧ (0 : Int) ≤ (guess_Part_c1 t l).fst.others) ∧
           (K (A_guess_Part (guess_Part_c5 t l)) (O_guess_Part (guess_Part_c5 t l))))
           (K (A_guess_Part ((333333 : Int))) (O_guess_Part ((333333 : Int)))))
          (K (A_guess_Part ((333333 : Int))) (O_guess_Part ((333333 : Int))))))))
        (K (A_guess_Part ((333333 : Int))) (O_guess_Part ((333333 : Int)))))
       (K (A_guess_Part ((333333 : Int))) (O_guess_Part ((333333 : Int)))))
      (K (A_guess_Part ((333333 : Int))) (O_guess_Part ((333333 : Int)))))))))) := by kernel_rfl
theorem guess_Part_in (m : Nat) (t : Term) (l : List ColStat) (K : List (A Un) → List (Ob Un) → Prop) :
    awp (M_guess_Part m) N_guess_Part (bodyOf Try.f10) (entry Try.f10.ntmps 0 [.d (.agg (enc Ty.term t)), .d (.v (.dat (U := Un) Ty.colStat l))]) (retQ (M_guess_Part m) Try.f10.results.toList [.d] K) =
(cnd (t.op == (1 : Int))
 (cnd (t.v.kind == (1 : Int))
  (cnd (t.v.n != (0 : Int))
   (K (A_guess_Part ((1000000 : Int))) (O_guess_Part ((1000000 : Int))))
   (K (A_guess_Part ((0 : Int))) (O_guess_Part ((0 : Int)))))
  (K (A_guess_Part ((0 : Int))) (O_guess_Part ((0 : Int)))))
 (cnd (t.op == (4 : Int))
  (cnd ((↑t.kids.length : Int) == (1 : Int))
   (((0 : Int) ≤ (0 : Int) ∧ (0 : Int) < (↑t.kids.length : Int)) ∧
   (((t.kids.getD 0 zeroTerm).ht < m) ∧
   (K (A_guess_Part (IntKind.i64.wrap ((1000000 : Int) - guess_Part_1 (0 : Int) t l))) (O_guess_Part (IntKind.i64.wrap ((1000000 : Int) - guess_Part_1 (0 : Int) t l))))))
   (cnd (t.op == (17 : Int))
    (cnd ((↑t.kids.length : Int) == (2 : Int))
     (((0 : Int) ≤ (0 : Int) ∧ (0 : Int) < (↑t.kids.length : Int)) ∧
     (((t.kids.getD 0 zeroTerm).ht < m) ∧
     (((0 : Int) ≤ (1 : Int) ∧ (1 : Int) < (↑t.kids.length : Int)) ∧
     (((t.kids.getD 1 zeroTerm).ht < m) ∧
     ((¬(1000000 : Int) = (0 : Int)) ∧
     (K (A_guess_Part (IntKind.i64.wrap ((IntKind.i64.wrap (guess_Part_1 (0 : Int) t l * guess_Part_1 (1 : Int) t l)).tdiv (1000000 : Int)))) (O_guess_Part (IntKind.i64.wrap ((IntKind.i64.wrap (guess_Part_1 (0 : Int) t l * guess_Part_1 (1 : Int) t l)).tdiv (1000000 : Int))))))))))
     (cnd (t.op == (18 : Int))
      (cnd ((↑t.kids.length : Int) == (2 : Int))
       (((0 : Int) ≤ (0 : Int) ∧ (0 : Int) < (↑t.kids.length : Int)) ∧
       (((t.kids.getD 0 zeroTerm).ht < m) ∧
       (((0 : Int) ≤ (1 : Int) ∧ (1 : Int) < (↑t.kids.length : Int)) ∧
       (((t.kids.getD 1 zeroTerm).ht < m) ∧
       ((¬(1000000 : Int) = (0 : Int)) ∧
       (K (A_guess_Part (IntKind.i64.wrap (IntKind.i64.wrap (guess_Part_1 (0 : Int) t l + guess_Part_1 (1 : Int) t l) - IntKind.i64.wrap ((IntKind.i64.wrap (guess_Part_1 (0 : Int) t l * guess_Part_1 (1 : Int) t l)).tdiv (1000000 : Int))))) (O_guess_Part (IntKind.i64.wrap (IntKind.i64.wrap (guess_Part_1 (0 : Int) t l + guess_Part_1 (1 : Int) t l) - IntKind.i64.wrap ((IntKind.i64.wrap (guess_Part_1 (0 : Int) t l * guess_Part_1 (1 : Int) t l)).tdiv (1000000 : Int)))))))))))
       (cnd (t.op == (19 : Int))
        (cnd ((↑t.kids.length : Int) == (1 : Int))
         (((0 : Int) ≤ (0 : Int) ∧ (0 : Int) < (↑t.kids.length : Int)) ∧
         (cnd ((guess_Part_c1 t l).snd)
          (((0 : Int) ≤ (guess_Part_c1 t l).fst.nulls ∧ (0 : Int) ≤ (guess_Part_c1 t l).fst.all) ∧
          (K (A_guess_Part (guess_Part_c3 t l)) (O_guess_Part (guess_Part_c3 t l))))
          (K (A_guess_Part ((333333 : Int))) (O_guess_Part ((333333 : Int))))))
         (cnd (decide (t.op ≥ (11 : Int)))
          (cnd (decide (t.op ≤ (16 : Int)))
           (cnd ((↑t.kids.length : Int) == (2 : Int))
            (((0 : Int) ≤ (0 : Int) ∧ (0 : Int) < (↑t.kids.length : Int)) ∧
            (((0 : Int) ≤ (1 : Int) ∧ (1 : Int) < (↑t.kids.length : Int)) ∧
            (cnd (Term.op (t.kids.getD 0 zeroTerm) == (1 : Int))
             (cnd ((guess_Part_c2 t l).snd)
              (cnd (Term.op (t.kids.getD 0 zeroTerm) == (1 : Int))
               ((((0 : Int) ≤ (guess_Part_c2 t l).fst.all ∧ (guess_Part_c2 t l).fst.all ≤ (1000000000000 : Int)) ∧ ((0 : Int) ≤ (guess_Part_c2 t l).fst.nulls ∧ (guess_Part_c2 t l).fst.nulls ≤ (1000000000000 : Int)) ∧ (0 : Int) ≤ (guess_Part_c2 t l).fst.others) ∧
               (K (A_guess_Part (guess_Part_c4 t l)) (O_guess_Part (guess_Part_c4 t l))))
               (K (A_guess_Part ((333333 : Int))) (O_guess_Part ((333333 : Int)))))
              (K (A_guess_Part ((333333 : Int))) (O_guess_Part ((333333 : Int)))))
             (cnd ((guess_Part_c1 t l).snd)
              (cnd (Term.op (t.kids.getD 1 zeroTerm) == (1 : Int))
               ((((0 : Int) ≤ (guess_Part_c1 t l).fst.all ∧ (guess_Part_c1 t l).fst.all ≤ (1000000000000 : Int)) ∧ ((0 : Int) ≤ (guess_Part_c1 t l).fst.nulls ∧ (guess_Part_c1 t l).fst.nulls ≤ (1000000000000 : Int)) ∧ (0 : Int) ≤ (guess_Part_c1 t l).fst.others) ∧
               (K (A_guess_Part (guess_Part_c5 t l)) (O_guess_Part (guess_Part_c5 t l))))
               (K (A_guess_Part ((333333 : Int))) (O_guess_Part ((333333 : Int)))))
              (K (A_guess_Part ((333333 : Int))) (O_guess_Part ((333333 : Int))))))))
            (K (A_guess_Part ((333333 : Int))) (O_guess_Part ((333333 : Int)))))
           (K (A_guess_Part ((333333 : Int))) (O_guess_Part ((333333 : Int)))))
          (K (A_guess_Part ((333333 : Int))) (O_guess_Part ((333333 : Int))))))
        (cnd (decide (t.op ≥ (11 : Int)))
         (cnd (decide (t.op ≤ (16 : Int)))
          (cnd ((↑t.kids.length : Int) == (2 : Int))
           (((0 : Int) ≤ (0 : Int) ∧ (0 : Int) < (↑t.kids.length : Int)) ∧
           (((0 : Int) ≤ (1 : Int) ∧ (1 : Int) < (↑t.kids.length : Int)) ∧
           (cnd (Term.op (t.kids.getD 0 zeroTerm) == (1 : Int))
            (cnd ((guess_Part_c2 t l).snd)
             (cnd (Term.op (t.kids.getD 0 zeroTerm) == (1 : Int))
              ((((0 : Int) ≤ (guess_Part_c2 t l).fst.all ∧ (guess_Part_c2 t l).fst.all ≤ (1000000000000 : Int)) ∧ ((0 : Int) ≤ (guess_Part_c2 t l).fst.nulls ∧ (guess_Part_c2 t l).fst.nulls ≤ (1000000000000 : Int)) ∧ (0 : Int) ≤ (guess_Part_c2 t l).fst.others) ∧
              (K (A_guess_Part (guess_Part_c4 t l)) (O_guess_Part (guess_Part_c4 t l))))
              (K (A_guess_Part ((333333 : Int))) (O_guess_Part ((333333 : Int)))))
             (K (A_guess_Part ((333333 : Int))) (O_guess_Part ((333333 : Int)))))
            (cnd ((guess_Part_c1 t l).snd)
             (cnd (Term.op (t.kids.getD 1 zeroTerm) == (1 : Int))
              ((((0 : Int) ≤ (guess_Part_c1 t l).fst.all ∧ (guess_Part_c1 t l).fst.all ≤ (1000000000000 : Int)) ∧ ((0 : Int) ≤ (guess_Part_c1 t l).fst.nulls ∧ (guess_Part_c1 t l).fst.nulls ≤ (1000000000000 : Int)) ∧ (0 : Int) ≤ (guess_Part_c1 t l).fst.others) ∧
              (K (A_guess_Part (guess_Part_c5 t l)) (O_guess_Part (guess_Part_c5 t l))))
              (K (A_guess_Part ((333333 : Int))) (O_guess_Part ((333333 : Int)))))
             (K (A_guess_Part ((333333 : Int))) (O_guess_Part ((333333 : Int))))))))
           (K (A_guess_Part ((333333 : Int))) (O_guess_Part ((333333 : Int)))))
          (K (A_guess_Part ((333333 : Int))) (O_guess_Part ((333333 : Int)))))
         (K (A_guess_Part ((333333 : Int))) (O_guess_Part ((333333 : Int)))))))
      (cnd (t.op == (19 : Int))
       (cnd ((↑t.kids.length : Int) == (1 : Int))
        (((0 : Int) ≤ (0 : Int) ∧ (0 : Int) < (↑t.kids.length : Int)) ∧
        (cnd ((guess_Part_c1 t l).snd)
         (((0 : Int) ≤ (guess_Part_c1 t l).fst.nulls ∧ (0 : Int) ≤ (guess_Part_c1 t l).fst.all) ∧
         (K (A_guess_Part (guess_Part_c3 t l)) (O_guess_Part (guess_Part_c3 t l))))
         (K (A_guess_Part ((333333 : Int))) (O_guess_Part ((333333 : Int))))))
        (cnd (decide (t.op ≥ (11 : Int)))
         (cnd (decide (t.op ≤ (16 : Int)))
          (cnd ((↑t.kids.length : Int) == (2 : Int))
           (((0 : Int) ≤ (0 : Int) ∧ (0 : Int) < (↑t.kids.length : Int)) ∧
           (((0 : Int) ≤ (1 : Int) ∧ (1 : Int) < (↑t.kids.length : Int)) ∧
           (cnd (Term.op (t.kids.getD 0 zeroTerm) == (1 : Int))
            (cnd ((guess_Part_c2 t l).snd)
             (cnd (Term.op (t.kids.getD 0 zeroTerm) == (1 : Int))
              ((((0 : Int) ≤ (guess_Part_c2 t l).fst.all ∧ (guess_Part_c2 t l).fst.all ≤ (1000000000000 : Int)) ∧ ((0 : Int) ≤ (guess_Part_c2 t l).fst.nulls ∧ (guess_Part_c2 t l).fst.nulls ≤ (1000000000000 : Int)) ∧ (0 : Int) ≤ (guess_Part_c2 t l).fst.others) ∧
              (K (A_guess_Part (guess_Part_c4 t l)) (O_guess_Part (guess_Part_c4 t l))))
              (K (A_guess_Part ((333333 : Int))) (O_guess_Part ((333333 : Int)))))
             (K (A_guess_Part ((333333 : Int))) (O_guess_Part ((333333 : Int)))))
            (cnd ((guess_Part_c1 t l).snd)
             (cnd (Term.op (t.kids.getD 1 zeroTerm) == (1 : Int))
              ((((0 : Int) ≤ (guess_Part_c1 t l).fst.all ∧ (guess_Part_c1 t l).fst.all ≤ (1000000000000 : Int)) ∧ ((0 : Int) ≤ (guess_Part_c1 t l).fst.nulls ∧ (guess_Part_c1 t l).fst.nulls ≤ (1000000000000 : Int)) ∧ (0 : Int) ≤ (guess_Part_c1 t l).fst.others) ∧
              (K (A_guess_Part (guess_Part_c5 t l)) (O_guess_Part (guess_Part_c5 t l))))
              (K (A_guess_Part ((333333 : Int))) (O_guess_Part ((333333 : Int)))))
             (K (A_guess_Part ((333333 : Int))) (O_guess_Part ((333333 : Int))))))))
           (K (A_guess_Part ((333333 : Int))) (O_guess_Part ((333333 : Int)))))
          (K (A_guess_Part ((333333 : Int))) (O_guess_Part ((333333 : Int)))))
         (K (A_guess_Part ((333333 : Int))) (O_guess_Part ((333333 : Int))))))
       (cnd (decide (t.op ≥ (11 : Int)))
        (cnd (decide (t.op ≤ (16 : Int)))
         (cnd ((↑t.kids.length : Int) == (2 : Int))
          (((0 : Int) ≤ (0 : Int) ∧ (0 : Int) < (↑t.kids.length : Int)) ∧
          (((0 : Int) ≤ (1 : Int) ∧ (1 : Int) < (↑t.kids.length : Int)) ∧
          (cnd (Term.op (t.kids.getD 0 zeroTerm) == (1 : Int))
           (cnd ((guess_Part_c2 t l).snd)
            (cnd (Term.op (t.kids.getD 0 zeroTerm) == (1 : Int))
             ((((0 : Int) ≤ (guess_Part_c2 t l).fst.all ∧ (guess_Part_c2 t l).fst.all ≤ (1000000000000 : Int)) ∧ ((0 : Int) ≤ (guess_Part_c2 t l).fst.nulls ∧ (guess_Part_c2 t l).fst.nulls ≤ (1000000000000 : Int)) ∧ (0 : Int) ≤ (guess_Part_c2 t l).fst.others) ∧
             (K (A_guess_Part (guess_Part_c4 t l)) (O_guess_Part (guess_Part_c4 t l))))
             (K (A_guess_Part ((333333 : Int))) (O_guess_Part ((333333 : Int)))))
            (K (A_guess_Part ((333333 : Int))) (O_guess_Part ((333333 : Int)))))
           (cnd ((guess_Part_c1 t l).snd)
            (cnd (Term.op (t.kids.getD 1 zeroTerm) == (1 : Int))
             ((((0 : Int) ≤ (guess_Part_c1 t l).fst.all ∧ (guess_Part_c1 t l).fst.all ≤ (1000000000000 : Int)) ∧ ((0 : Int) ≤ (guess_Part_c1 t l).fst.nulls ∧ (guess_Part_c1 t l).fst.nulls ≤ (1000000000000 : Int)) ∧ (0 : Int) ≤ (guess_Part_c1 t l).fst.others) ∧
             (K (A_guess_Part (guess_Part_c5 t l)) (O_guess_Part (guess_Part_c5 t l))))
             (K (A_guess_Part ((333333 : Int))) (O_guess_Part ((333333 : Int)))))
            (K (A_guess_Part ((333333 : Int))) (O_guess_Part ((333333 : Int))))))))
          (K (A_guess_Part ((333333 : Int))) (O_guess_Part ((333333 : Int)))))
         (K (A_guess_Part ((333333 : Int))) (O_guess_Part ((333333 : Int)))))
        (K (A_guess_Part ((333333 : Int))) (O_guess_Part ((333333 : Int))))))))
    (cnd (t.op == (18 : Int))
     (cnd ((↑t.kids.length : Int) == (2 : Int))
      (((0 : Int) ≤ (0 : Int) ∧ (0 : Int) < (↑t.kids.length : Int)) ∧
      (((t.kids.getD 0 zeroTerm).ht < m) ∧
      (((0 : Int) ≤ (1 : Int) ∧ (1 : Int) < (↑t.kids.length : Int)) ∧
      (((t.kids.getD 1 zeroTerm).ht < m) ∧
      ((¬(1000000 : Int) = (0 : Int)) ∧
      (K (A_guess_Part (IntKind.i64.wrap (IntKind.i64.wrap (guess_Part_1 (0 : Int) t l + guess_Part_1 (1 : Int) t l) - IntKind.i64.wrap ((IntKind.i64.wrap (guess_Part_1 (0 : Int) t l * guess_Part_1 (1 : Int) t l)).tdiv (1000000 : Int))))) (O_guess_Part (IntKind.i64.wrap (IntKind.i64.wrap (guess_Part_1 (0 : Int) t l + guess_Part_1 (1 : Int) t l) - IntKind.i64.wrap ((IntKind.i64.wrap (guess_Part_1 (0 : Int) t l * guess_Part_1 (1 : Int) t l)).tdiv (1000000 : Int)))))))))))
      (cnd (t.op == (19 : Int))
       (cnd ((↑t.kids.length : Int) == (1 : Int))
        (((0 : Int) ≤ (0 : Int) ∧ (0 : Int) < (↑t.kids.length : Int)) ∧
        (cnd ((guess_Part_c1 t l).snd)
         (((0 : Int) ≤ (guess_Part_c1 t l).fst.nulls ∧ (0 : Int) ≤ (guess_Part_c1 t l).fst.all) ∧
         (K (A_guess_Part (guess_Part_c3 t l)) (O_guess_Part (guess_Part_c3 t l))))
         (K (A_guess_Part ((333333 : Int))) (O_guess_Part ((333333 : Int))))))
        (cnd (decide (t.op ≥ (11 : Int)))
         (cnd (decide (t.op ≤ (16 : Int)))
          (cnd ((↑t.kids.length : Int) == (2 : Int))
           (((0 : Int) ≤ (0 : Int) ∧ (0 : Int) < (↑t.kids.length : Int)) ∧
           (((0 : Int) ≤ (1 : Int) ∧ (1 : Int) < (↑t.kids.length : Int)) ∧
           (cnd (Term.op (t.kids.getD 0 zeroTerm) == (1 : Int))
            (cnd ((guess_Part_c2 t l).snd)
             (cnd (Term.op (t.kids.getD 0 zeroTerm) == (1 : Int))
              ((((0 : Int) ≤ (guess_Part_c2 t l).fst.all ∧ (guess_Part_c2 t l).fst.all ≤ (1000000000000 : Int)) ∧ ((0 : Int) ≤ (guess_Part_c2 t l).fst.nulls ∧ (guess_Part_c2 t l).fst.nulls ≤ (1000000000000 : Int)) ∧ (0 : Int) ≤ (guess_Part_c2 t l).fst.others) ∧
              (K (A_guess_Part (guess_Part_c4 t l)) (O_guess_Part (guess_Part_c4 t l))))
              (K (A_guess_Part ((333333 : Int))) (O_guess_Part ((333333 : Int)))))
             (K (A_guess_Part ((333333 : Int))) (O_guess_Part ((333333 : Int)))))
            (cnd ((guess_Part_c1 t l).snd)
             (cnd (Term.op (t.kids.getD 1 zeroTerm) == (1 : Int))
              ((((0 : Int) ≤ (guess_Part_c1 t l).fst.all ∧ (guess_Part_c1 t l).fst.all ≤ (1000000000000 : Int)) ∧ ((0 : Int) ≤ (guess_Part_c1 t l).fst.nulls ∧ (guess_Part_c1 t l).fst.nulls ≤ (1000000000000 : Int)) ∧ (0 : Int) ≤ (guess_Part_c1 t l).fst.others) ∧
              (K (A_guess_Part (guess_Part_c5 t l)) (O_guess_Part (guess_Part_c5 t l))))
              (K (A_guess_Part ((333333 : Int))) (O_guess_Part ((333333 : Int)))))
             (K (A_guess_Part ((333333 : Int))) (O_guess_Part ((333333 : Int))))))))
           (K (A_guess_Part ((333333 : Int))) (O_guess_Part ((333333 : Int)))))
          (K (A_guess_Part ((333333 : Int))) (O_guess_Part ((333333 : Int)))))
         (K (A_guess_Part ((333333 : Int))) (O_guess_Part ((333333 : Int))))))
       (cnd (decide (t.op ≥ (11 : Int)))
        (cnd (decide (t.op ≤ (16 : Int)))
         (cnd ((↑t.kids.length : Int) == (2 : Int))
          (((0 : Int) ≤ (0 : Int) ∧ (0 : Int) < (↑t.kids.length : Int)) ∧
          (((0 : Int) ≤ (1 : Int) ∧ (1 : Int) < (↑t.kids.length : Int)) ∧
          (cnd (Term.op (t.kids.getD 0 zeroTerm) == (1 : Int))
           (cnd ((guess_Part_c2 t l).snd)
            (cnd (Term.op (t.kids.getD 0 zeroTerm) == (1 : Int))
             ((((0 : Int) ≤ (guess_Part_c2 t l).fst.all ∧ (guess_Part_c2 t l).fst.all ≤ (1000000000000 : Int)) ∧ ((0 : Int) ≤ (guess_Part_c2 t l).fst.nulls ∧ (guess_Part_c2 t l).fst.nulls ≤ (1000000000000 : Int)) ∧ (0 : Int) ≤ (guess_Part_c2 t l).fst.others) ∧
             (K (A_guess_Part (guess_Part_c4 t l)) (O_guess_Part (guess_Part_c4 t l))))
             (K (A_guess_Part ((333333 : Int))) (O_guess_Part ((333333 : Int)))))
            (K (A_guess_Part ((333333 : Int))) (O_guess_Part ((333333 : Int)))))
           (cnd ((guess_Part_c1 t l).snd)
            (cnd (Term.op (t.kids.getD 1 zeroTerm) == (1 : Int))
             ((((0 : Int) ≤ (guess_Part_c1 t l).fst.all ∧ (guess_Part_c1 t l).fst.all ≤ (1000000000000 : Int)) ∧ ((0 : Int) ≤ (guess_Part_c1 t l).fst.nulls ∧ (guess_Part_c1 t l).fst.nulls ≤ (1000000000000 : Int)) ∧ (0 : Int) ≤ (guess_Part_c1 t l).fst.others) ∧
             (K (A_guess_Part (guess_Part_c5 t l)) (O_guess_Part (guess_Part_c5 t l))))
             (K (A_guess_Part ((333333 : Int))) (O_guess_Part ((333333 : Int)))))
            (K (A_guess_Part ((333333 : Int))) (O_guess_Part ((333333 : Int))))))))
          (K (A_guess_Part ((333333 : Int))) (O_guess_Part ((333333 : Int)))))
         (K (A_guess_Part ((333333 : Int))) (O_guess_Part ((333333 : Int)))))
        (K (A_guess_Part ((333333 : Int))) (O_guess_Part ((333333 : Int)))))))
     (cnd (t.op == (19 : Int))
      (cnd ((↑t.kids.length : Int) == (1 : Int))
       (((0 : Int) ≤ (0 : Int) ∧ (0 : Int) < (↑t.kids.length : Int)) ∧
       (cnd ((guess_Part_c1 t l).snd)
        (((0 : Int) ≤ (guess_Part_c1 t l).fst.nulls ∧ (0 : Int) ≤ (guess_Part_c1 t l).fst.all) ∧
        (K (A_guess_Part (guess_Part_c3 t l)) (O_guess_Part (guess_Part_c3 t l))))
        (K (A_guess_Part ((333333 : Int))) (O_guess_Part ((333333 : Int))))))
       (cnd (decide (t.op ≥ (11 : Int)))
        (cnd (decide (t.op ≤ (16 : Int)))
         (cnd ((↑t.kids.length : Int) == (2 : Int))
          (((0 : Int) ≤ (0 : Int) ∧ (0 : Int) < (↑t.kids.length : Int)) ∧
          (((0 : Int) ≤ (1 : Int) ∧ (1 : Int) < (↑t.kids.length : Int)) ∧
          (cnd (Term.op (t.kids.getD 0 zeroTerm) == (1 : Int))
           (cnd ((guess_Part_c2 t l).snd)
            (cnd (Term.op (t.kids.getD 0 zeroTerm) == (1 : Int))
             ((((0 : Int) ≤ (guess_Part_c2 t l).fst.all ∧ (guess_Part_c2 t l).fst.all ≤ (1000000000000 : Int)) ∧ ((0 : Int) ≤ (guess_Part_c2 t l).fst.nulls ∧ (guess_Part_c2 t l).fst.nulls ≤ (1000000000000 : Int)) ∧ (0 : Int) ≤ (guess_Part_c2 t l).fst.others) ∧
             (K (A_guess_Part (guess_Part_c4 t l)) (O_guess_Part (guess_Part_c4 t l))))
             (K (A_guess_Part ((333333 : Int))) (O_guess_Part ((333333 : Int)))))
            (K (A_guess_Part ((333333 : Int))) (O_guess_Part ((333333 : Int)))))
           (cnd ((guess_Part_c1 t l).snd)
            (cnd (Term.op (t.kids.getD 1 zeroTerm) == (1 : Int))
             ((((0 : Int) ≤ (guess_Part_c1 t l).fst.all ∧ (guess_Part_c1 t l).fst.all ≤ (1000000000000 : Int)) ∧ ((0 : Int) ≤ (guess_Part_c1 t l).fst.nulls ∧ (guess_Part_c1 t l).fst.nulls ≤ (1000000000000 : Int)) ∧ (0 : Int) ≤ (guess_Part_c1 t l).fst.others) ∧
             (K (A_guess_Part (guess_Part_c5 t l)) (O_guess_Part (guess_Part_c5 t l))))
             (K (A_guess_Part ((333333 : Int))) (O_guess_Part ((333333 : Int)))))
            (K (A_guess_Part ((333333 : Int))) (O_guess_Part ((333333 : Int))))))))
          (K (A_guess_Part ((333333 : Int))) (O_guess_Part ((333333 : Int)))))
         (K (A_guess_Part ((333333 : Int))) (O_guess_Part ((333333 : Int)))))
        (K (A_guess_Part ((333333 : Int))) (O_guess_Part ((333333 : Int))))))
      (cnd (decide (t.op ≥ (11 : Int)))
       (cnd (decide (t.op ≤ (16 : Int)))
        (cnd ((↑t.kids.length : Int) == (2 : Int))
         (((0 : Int) ≤ (0 : Int) ∧ (0 : Int) < (↑t.kids.length : Int)) ∧
         (((0 : Int) ≤ (1 : Int) ∧ (1 : Int) < (↑t.kids.length : Int)) ∧
         (cnd (Term.op (t.kids.getD 0 zeroTerm) == (1 : Int))
          (cnd ((guess_Part_c2 t l).snd)
           (cnd (Term.op (t.kids.getD 0 zeroTerm) == (1 : Int))
            ((((0 : Int) ≤ (guess_Part_c2 t l).fst.all ∧ (guess_Part_c2 t l).fst.all ≤ (1000000000000 : Int)) ∧ ((0 : Int) ≤ (guess_Part_c2 t l).fst.nulls ∧ (guess_Part_c2 t l).fst.nulls ≤ (1000000000000 : Int)) ∧ (0 : Int) ≤ (guess_Part_c2 t l).fst.others) ∧
            (K (A_guess_Part (guess_Part_c4 t l)) (O_guess_Part (guess_Part_c4 t l))))
            (K (A_guess_Part ((333333 : Int))) (O_guess_Part ((333333 : Int)))))
           (K (A_guess_Part ((333333 : Int))) (O_guess_Part ((333333 : Int)))))
          (cnd ((guess_Part_c1 t l).snd)
           (cnd (Term.op (t.kids.getD 1 zeroTerm) == (1 : Int))
            ((((0 : Int) ≤ (guess_Part_c1 t l).fst.all ∧ (guess_Part_c1 t l).fst.all ≤ (1000000000000 : Int)) ∧ ((0 : Int) ≤ (guess_Part_c1 t l).fst.nulls ∧ (guess_Part_c1 t l).fst.nulls ≤ (1000000000000 : Int)) ∧ (0 : Int) ≤ (guess_Part_c1 t l).fst.others) ∧
            (K (A_guess_Part (guess_Part_c5 t l)) (O_guess_Part (guess_Part_c5 t l))))
            (K (A_guess_Part ((333333 : Int))) (O_guess_Part ((333333 : Int)))))
           (K (A_guess_Part ((333333 : Int))) (O_guess_Part ((333333 : Int))))))))
         (K (A_guess_Part ((333333 : Int))) (O_guess_Part ((333333 : Int)))))
        (K (A_guess_Part ((333333 : Int))) (O_guess_Part ((333333 : Int)))))
       (K (A_guess_Part ((333333 : Int))) (O_guess_Part ((333333 : Int)))))))))
  (cnd (t.op == (17 : Int))
   (cnd ((↑t.kids.length : Int) == (2 : Int))
    (((0 : Int) ≤ (0 : Int) ∧ (0 : Int) < (↑t.kids.length : Int)) ∧
    (((t.kids.getD 0 zeroTerm).ht < m) ∧
    (((0 : Int) ≤ (1 : Int) ∧ (1 : Int) < (↑t.kids.length : Int)) ∧
    (((t.kids.getD 1 zeroTerm).ht < m) ∧
    ((¬(1000000 : Int) = (0 : Int)) ∧
    (K (A_guess_Part (IntKind.i64.wrap ((IntKind.i64.wrap (guess_Part_1 (0 : Int) t l * guess_Part_1 (1 : Int) t l)).tdiv (1000000 : Int)))) (O_guess_Part (IntKind.i64.wrap ((IntKind.i64.wrap (guess_Part_1 (0 : Int) t l * guess_Part_1 (1 : Int) t l)).tdiv (1000000 : Int))))))))))
    (cnd (t.op == (18 : Int))
     (cnd ((↑t.kids.length : Int) == (2 : Int))
      (((0 : Int) ≤ (0 : Int) ∧ (0 : Int) < (↑t.kids.length : Int)) ∧
      (((t.kids.getD 0 zeroTerm).ht < m) ∧
      (((0 : Int) ≤ (1 : Int) ∧ (1 : Int) < (↑t.kids.length : Int)) ∧
      (((t.kids.getD 1 zeroTerm).ht < m) ∧
      ((¬(1000000 : Int) = (0 : Int)) ∧
      (K (A_guess_Part (IntKind.i64.wrap (IntKind.i64.wrap (guess_Part_1 (0 : Int) t l + guess_Part_1 (1 : Int) t l) - IntKind.i64.wrap ((IntKind.i64.wrap (guess_Part_1 (0 : Int) t l * guess_Part_1 (1 : Int) t l)).tdiv (1000000 : Int))))) (O_guess_Part (IntKind.i64.wrap (IntKind.i64.wrap (guess_Part_1 (0 : Int) t l + guess_Part_1 (1 : Int) t l) - IntKind.i64.wrap ((IntKind.i64.wrap (guess_Part_1 (0 : Int) t l * guess_Part_1 (1 : Int) t l)).tdiv (1000000 : Int)))))))))))
      (cnd (t.op == (19 : Int))
       (cnd ((↑t.kids.length : Int) == (1 : Int))
        (((0 : Int) ≤ (0 : Int) ∧ (0 : Int) < (↑t.kids.length : Int)) ∧
        (cnd ((guess_Part_c1 t l).snd)
         (((0 : Int) ≤ (guess_Part_c1 t l).fst.nulls ∧ (0 : Int) ≤ (guess_Part_c1 t l).fst.all) ∧
         (K (A_guess_Part (guess_Part_c3 t l)) (O_guess_Part (guess_Part_c3 t l))))
         (K (A_guess_Part ((333333 : Int))) (O_guess_Part ((333333 : Int))))))
        (cnd (decide (t.op ≥ (11 : Int)))
         (cnd (decide (t.op ≤ (16 : Int)))
          (cnd ((↑t.kids.length : Int) == (2 : Int))
           (((0 : Int) ≤ (0 : Int) ∧ (0 : Int) < (↑t.kids.length : Int)) ∧
           (((0 : Int) ≤ (1 : Int) ∧ (1 : Int) < (↑t.kids.length : Int)) ∧
           (cnd (Term.op (t.kids.getD 0 zeroTerm) == (1 : Int))
            (cnd ((guess_Part_c2 t l).snd)
             (cnd (Term.op (t.kids.getD 0 zeroTerm) == (1 : Int))
              ((((0 : Int) ≤ (guess_Part_c2 t l).fst.all ∧ (guess_Part_c2 t l).fst.all ≤ (1000000000000 : Int)) ∧ ((0 : Int) ≤ (guess_Part_c2 t l).fst.nulls ∧ (guess_Part_c2 t l).fst.nulls ≤ (1000000000000 : Int)) ∧ (0 : Int) ≤ (guess_Part_c2 t l).fst.others) ∧
              (K (A_guess_Part (guess_Part_c4 t l)) (O_guess_Part (guess_Part_c4 t l))))
              (K (A_guess_Part ((333333 : Int))) (O_guess_Part ((333333 : Int)))))
             (K (A_guess_Part ((333333 : Int))) (O_guess_Part ((333333 : Int)))))
            (cnd ((guess_Part_c1 t l).snd)
             (cnd (Term.op (t.kids.getD 1 zeroTerm) == (1 : Int))
              ((((0 : Int) ≤ (guess_Part_c1 t l).fst.all ∧ (guess_Part_c1 t l).fst.all ≤ (1000000000000 : Int)) ∧ ((0 : Int) ≤ (guess_Part_c1 t l).fst.nulls ∧ (guess_Part_c1 t l).fst.nulls ≤ (1000000000000 : Int)) ∧ (0 : Int) ≤ (guess_Part_c1 t l).fst.others) ∧
              (K (A_guess_Part (guess_Part_c5 t l)) (O_guess_Part (guess_Part_c5 t l))))
              (K (A_guess_Part ((333333 : Int))) (O_guess_Part ((333333 : Int)))))
             (K (A_guess_Part ((333333 : Int))) (O_guess_Part ((333333 : Int))))))))
           (K (A_guess_Part ((333333 : Int))) (O_guess_Part ((333333 : Int)))))
          (K (A_guess_Part ((333333 : Int))) (O_guess_Part ((333333 : Int)))))
         (K (A_guess_Part ((333333 : Int))) (O_guess_Part ((333333 : Int))))))
       (cnd (decide (t.op ≥ (11 : Int)))
        (cnd (decide (t.op ≤ (16 : Int)))
         (cnd ((↑t.kids.length : Int) == (2 : Int))
          (((0 : Int) ≤ (0 : Int) ∧ (0 : Int) < (↑t.kids.length : Int)) ∧
          (((0 : Int) ≤ (1 : Int) ∧ (1 : Int) < (↑t.kids.length : Int)) ∧
          (cnd (Term.op (t.kids.getD 0 zeroTerm) == (1 : Int))
           (cnd ((guess_Part_c2 t l).snd)
            (cnd (Term.op (t.kids.getD 0 zeroTerm) == (1 : Int))
             ((((0 : Int) ≤ (guess_Part_c2 t l).fst.all ∧ (guess_Part_c2 t l).fst.all ≤ (1000000000000 : Int)) ∧ ((0 : Int) ≤ (guess_Part_c2 t l).fst.nulls ∧ (guess_Part_c2 t l).fst.nulls ≤ (1000000000000 : Int)) ∧ (0 : Int) ≤ (guess_Part_c2 t l).fst.others) ∧
             (K (A_guess_Part (guess_Part_c4 t l)) (O_guess_Part (guess_Part_c4 t l))))
             (K (A_guess_Part ((333333 : Int))) (O_guess_Part ((333333 : Int)))))
            (K (A_guess_Part ((333333 : Int))) (O_guess_Part ((333333 : Int)))))
           (cnd ((guess_Part_c1 t l).snd)
            (cnd (Term.op (t.kids.getD 1 zeroTerm) == (1 : Int))
             ((((0 : Int) ≤ (guess_Part_c1 t l).fst.all ∧ (guess_Part_c1 t l).fst.all ≤ (1000000000000 : Int)) ∧ ((0 : Int) ≤ (guess_Part_c1 t l).fst.nulls ∧ (guess_Part_c1 t l).fst.nulls ≤ (1000000000000 : Int)) ∧ (0 : Int) ≤ (guess_Part_c1 t l).fst.others) ∧
             (K (A_guess_Part (guess_Part_c5 t l)) (O_guess_Part (guess_Part_c5 t l))))
             (K (A_guess_Part ((333333 : Int))) (O_guess_Part ((333333 : Int)))))
            (K (A_guess_Part ((333333 : Int))) (O_guess_Part ((333333 : Int))))))))
          (K (A_guess_Part ((333333 : Int))) (O_guess_Part ((333333 : Int)))))
         (K (A_guess_Part ((333333 : Int))) (O_guess_Part ((333333 : Int)))))
        (K (A_guess_Part ((333333 : Int))) (O_guess_Part ((333333 : Int)))))))
     (cnd (t.op == (19 : Int))
      (cnd ((↑t.kids.length : Int) == (1 : Int))
       (((0 : Int) ≤ (0 : Int) ∧ (0 : Int) < (↑t.kids.length : Int)) ∧
       (cnd ((guess_Part_c1 t l).snd)
        (((0 : Int) ≤ (guess_Part_c1 t l).fst.nulls ∧ (0 : Int) ≤ (guess_Part_c1 t l).fst.all) ∧
        (K (A_guess_Part (guess_Part_c3 t l)) (O_guess_Part (guess_Part_c3 t l))))
        (K (A_guess_Part ((333333 : Int))) (O_guess_Part ((333333 : Int))))))
       (cnd (decide (t.op ≥ (11 : Int)))
        (cnd (decide (t.op ≤ (16 : Int)))
         (cnd ((↑t.kids.length : Int) == (2 : Int))
          (((0 : Int) ≤ (0 : Int) ∧ (0 : Int) < (↑t.kids.length : Int)) ∧
          (((0 : Int) ≤ (1 : Int) ∧ (1 : Int) < (↑t.kids.length : Int)) ∧
          (cnd (Term.op (t.kids.getD 0 zeroTerm) == (1 : Int))
           (cnd ((guess_Part_c2 t l).snd)
            (cnd (Term.op (t.kids.getD 0 zeroTerm) == (1 : Int))
             ((((0 : Int) ≤ (guess_Part_c2 t l).fst.all ∧ (guess_Part_c2 t l).fst.all ≤ (1000000000000 : Int)) ∧ ((0 : Int) ≤ (guess_Part_c2 t l).fst.nulls ∧ (guess_Part_c2 t l).fst.nulls ≤ (1000000000000 : Int)) ∧ (0 : Int) ≤ (guess_Part_c2 t l).fst.others) ∧
             (K (A_guess_Part (guess_Part_c4 t l)) (O_guess_Part (guess_Part_c4 t l))))
             (K (A_guess_Part ((333333 : Int))) (O_guess_Part ((333333 : Int)))))
            (K (A_guess_Part ((333333 : Int))) (O_guess_Part ((333333 : Int)))))
           (cnd ((guess_Part_c1 t l).snd)
            (cnd (Term.op (t.kids.getD 1 zeroTerm) == (1 : Int))
             ((((0 : Int) ≤ (guess_Part_c1 t l).fst.all ∧ (guess_Part_c1 t l).fst.all ≤ (1000000000000 : Int)) ∧ ((0 : Int) ≤ (guess_Part_c1 t l).fst.nulls ∧ (guess_Part_c1 t l).fst.nulls ≤ (1000000000000 : Int)) ∧ (0 : Int) ≤ (guess_Part_c1 t l).fst.others) ∧
             (K (A_guess_Part (guess_Part_c5 t l)) (O_guess_Part (guess_Part_c5 t l))))
             (K (A_guess_Part ((333333 : Int))) (O_guess_Part ((333333 : Int)))))
            (K (A_guess_Part ((333333 : Int))) (O_guess_Part ((333333 : Int))))))))
          (K (A_guess_Part ((333333 : Int))) (O_guess_Part ((333333 : Int)))))
         (K (A_guess_Part ((333333 : Int))) (O_guess_Part ((333333 : Int)))))
        (K (A_guess_Part ((333333 : Int))) (O_guess_Part ((333333 : Int))))))
      (cnd (decide (t.op ≥ (11 : Int)))
       (cnd (decide (t.op ≤ (16 : Int)))
        (cnd ((↑t.kids.length : Int) == (2 : Int))
         (((0 : Int) ≤ (0 : Int) ∧ (0 : Int) < (↑t.kids.length : Int)) ∧
         (((0 : Int) ≤ (1 : Int) ∧ (1 : Int) < (↑t.kids.length : Int)) ∧
         (cnd (Term.op (t.kids.getD 0 zeroTerm) == (1 : Int))
          (cnd ((guess_Part_c2 t l).snd)
           (cnd (Term.op (t.kids.getD 0 zeroTerm) == (1 : Int))
            ((((0 : Int) ≤ (guess_Part_c2 t l).fst.all ∧ (guess_Part_c2 t l).fst.all ≤ (1000000000000 : Int)) ∧ ((0 : Int) ≤ (guess_Part_c2 t l).fst.nulls ∧ (guess_Part_c2 t l).fst.nulls ≤ (1000000000000 : Int)) ∧ (0 : Int) ≤ (guess_Part_c2 t l).fst.others) ∧
            (K (A_guess_Part (guess_Part_c4 t l)) (O_guess_Part (guess_Part_c4 t l))))
            (K (A_guess_Part ((333333 : Int))) (O_guess_Part ((333333 : Int)))))
           (K (A_guess_Part ((333333 : Int))) (O_guess_Part ((333333 : Int)))))
          (cnd ((guess_Part_c1 t l).snd)
           (cnd (Term.op (t.kids.getD 1 zeroTerm) == (1 : Int))
            ((((0 : Int) ≤ (guess_Part_c1 t l).fst.all ∧ (guess_Part_c1 t l).fst.all ≤ (1000000000000 : Int)) ∧ ((0 : Int) ≤ (guess_Part_c1 t l).fst.nulls ∧ (guess_Part_c1 t l).fst.nulls ≤ (1000000000000 : Int)) ∧ (0 : Int) ≤ (guess_Part_c1 t l).fst.others) ∧
            (K (A_guess_Part (guess_Part_c5 t l)) (O_guess_Part (guess_Part_c5 t l))))
            (K (A_guess_Part ((333333 : Int))) (O_guess_Part ((333333 : Int)))))
           (K (A_guess_Part ((333333 : Int))) (O_guess_Part ((333333 : Int))))))))
         (K (A_guess_Part ((333333 : Int))) (O_guess_Part ((333333 : Int)))))
        (K (A_guess_Part ((333333 : Int))) (O_guess_Part ((333333 : Int)))))
       (K (A_guess_Part ((333333 : Int))) (O_guess_Part ((333333 : Int))))))))
   (cnd (t.op == (18 : Int))
    (cnd ((↑t.kids.length : Int) == (2 : Int))
     (((0 : Int) ≤ (0 : Int) ∧ (0 : Int) < (↑t.kids.length : Int)) ∧
     (((t.kids.getD 0 zeroTerm).ht < m) ∧
     (((0 : Int) ≤ (1 : Int) ∧ (1 : Int) < (↑t.kids.length : Int)) ∧
     (((t.kids.getD 1 zeroTerm).ht < m) ∧
     ((¬(1000000 : Int) = (0 : Int)) ∧
     (K (A_guess_Part (IntKind.i64.wrap (IntKind.i64.wrap (guess_Part_1 (0 : Int) t l + guess_Part_1 (1 : Int) t l) - IntKind.i64.wrap ((IntKind.i64.wrap (guess_Part_1 (0 : Int) t l * guess_Part_1 (1 : Int) t l)).tdiv (1000000 : Int))))) (O_guess_Part (IntKind.i64.wrap (IntKind.i64.wrap (guess_Part_1 (0 : Int) t l + guess_Part_1 (1 : Int) t l) - IntKind.i64.wrap ((IntKind.i64.wrap (guess_Part_1 (0 : Int) t l * guess_Part_1 (1 : Int) t l)).tdiv (1000000 : Int)))))))))))
     (cnd (t.op == (19 : Int))
      (cnd ((↑t.kids.length : Int) == (1 : Int))
       (((0 : Int) ≤ (0 : Int) ∧ (0 : Int) < (↑t.kids.length : Int)) ∧
       (cnd ((guess_Part_c1 t l).snd)
        (((0 : Int) ≤ (guess_Part_c1 t l).fst.nulls ∧ (0 : Int) ≤ (guess_Part_c1 t l).fst.all) ∧
        (K (A_guess_Part (guess_Part_c3 t l)) (O_guess_Part (guess_Part_c3 t l))))
        (K (A_guess_Part ((333333 : Int))) (O_guess_Part ((333333 : Int))))))
       (cnd (decide (t.op ≥ (11 : Int)))
        (cnd (decide (t.op ≤ (16 : Int)))
         (cnd ((↑t.kids.length : Int) == (2 : Int))
          (((0 : Int) ≤ (0 : Int) ∧ (0 : Int) < (↑t.kids.length : Int)) ∧
          (((0 : Int) ≤ (1 : Int) ∧ (1 : Int) < (↑t.kids.length : Int)) ∧
          (cnd (Term.op (t.kids.getD 0 zeroTerm) == (1 : Int))
           (cnd ((guess_Part_c2 t l).snd)
            (cnd (Term.op (t.kids.getD 0 zeroTerm) == (1 : Int))
             ((((0 : Int) ≤ (guess_Part_c2 t l).fst.all ∧ (guess_Part_c2 t l).fst.all ≤ (1000000000000 : Int)) ∧ ((0 : Int) ≤ (guess_Part_c2 t l).fst.nulls ∧ (guess_Part_c2 t l).fst.nulls ≤ (1000000000000 : Int)) ∧ (0 : Int) ≤ (guess_Part_c2 t l).fst.others) ∧
             (K (A_guess_Part (guess_Part_c4 t l)) (O_guess_Part (guess_Part_c4 t l))))
             (K (A_guess_Part ((333333 : Int))) (O_guess_Part ((333333 : Int)))))
            (K (A_guess_Part ((333333 : Int))) (O_guess_Part ((333333 : Int)))))
           (cnd ((guess_Part_c1 t l).snd)
            (cnd (Term.op (t.kids.getD 1 zeroTerm) == (1 : Int))
             ((((0 : Int) ≤ (guess_Part_c1 t l).fst.all ∧ (guess_Part_c1 t l).fst.all ≤ (1000000000000 : Int)) ∧ ((0 : Int) ≤ (guess_Part_c1 t l).fst.nulls ∧ (guess_Part_c1 t l).fst.nulls ≤ (1000000000000 : Int)) ∧ (0 : Int) ≤ (guess_Part_c1 t l).fst.others) ∧
             (K (A_guess_Part (guess_Part_c5 t l)) (O_guess_Part (guess_Part_c5 t l))))
             (K (A_guess_Part ((333333 : Int))) (O_guess_Part ((333333 : Int)))))
            (K (A_guess_Part ((333333 : Int))) (O_guess_Part ((333333 : Int))))))))
          (K (A_guess_Part ((333333 : Int))) (O_guess_Part ((333333 : Int)))))
         (K (A_guess_Part ((333333 : Int))) (O_guess_Part ((333333 : Int)))))
        (K (A_guess_Part ((333333 : Int))) (O_guess_Part ((333333 : Int))))))
      (cnd (decide (t.op ≥ (11 : Int)))
       (cnd (decide (t.op ≤ (16 : Int)))
        (cnd ((↑t.kids.length : Int) == (2 : Int))
         (((0 : Int) ≤ (0 : Int) ∧ (0 : Int) < (↑t.kids.length : Int)) ∧
         (((0 : Int) ≤ (1 : Int) ∧ (1 : Int) < (↑t.kids.length : Int)) ∧
         (cnd (Term.op (t.kids.getD 0 zeroTerm) == (1 : Int))
          (cnd ((guess_Part_c2 t l).snd)
           (cnd (Term.op (t.kids.getD 0 zeroTerm) == (1 : Int))
            ((((0 : Int) ≤ (guess_Part_c2 t l).fst.all ∧ (guess_Part_c2 t l).fst.all ≤ (1000000000000 : Int)) ∧ ((0 : Int) ≤ (guess_Part_c2 t l).fst.nulls ∧ (guess_Part_c2 t l).fst.nulls ≤ (1000000000000 : Int)) ∧ (0 : Int) ≤ (guess_Part_c2 t l).fst.others) ∧
            (K (A_guess_Part (guess_Part_c4 t l)) (O_guess_Part (guess_Part_c4 t l))))
            (K (A_guess_Part ((333333 : Int))) (O_guess_Part ((333333 : Int)))))
           (K (A_guess_Part ((333333 : Int))) (O_guess_Part ((333333 : Int)))))
          (cnd ((guess_Part_c1 t l).snd)
           (cnd (Term.op (t.kids.getD 1 zeroTerm) == (1 : Int))
            ((((0 : Int) ≤ (guess_Part_c1 t l).fst.all ∧ (guess_Part_c1 t l).fst.all ≤ (1000000000000 : Int)) ∧ ((0 : Int) ≤ (guess_Part_c1 t l).fst.nulls ∧ (guess_Part_c1 t l).fst.nulls ≤ (1000000000000 : Int)) ∧ (0 : Int) ≤ (guess_Part_c1 t l).fst.others) ∧
            (K (A_guess_Part (guess_Part_c5 t l)) (O_guess_Part (guess_Part_c5 t l))))
            (K (A_guess_Part ((333333 : Int))) (O_guess_Part ((333333 : Int)))))
           (K (A_guess_Part ((333333 : Int))) (O_guess_Part ((333333 : Int))))))))
         (K (A_guess_Part ((333333 : Int))) (O_guess_Part ((333333 : Int)))))
        (K (A_guess_Part ((333333 : Int))) (O_guess_Part ((333333 : Int)))))
       (K (A_guess_Part ((333333 : Int))) (O_guess_Part ((333333 : Int)))))))
    (cnd (t.op == (19 : Int))
     (cnd ((↑t.kids.length : Int) == (1 : Int))
      (((0 : Int) ≤ (0 : Int) ∧ (0 : Int) < (↑t.kids.length : Int)) ∧
      (cnd ((guess_Part_c1 t l).snd)
       (((0 : Int) ≤ (guess_Part_c1 t l).fst.nulls ∧ (0 : Int) ≤ (guess_Part_c1 t l).fst.all) ∧
       (K (A_guess_Part (guess_Part_c3 t l)) (O_guess_Part (guess_Part_c3 t l))))
       (K (A_guess_Part ((333333 : Int))) (O_guess_Part ((333333 : Int))))))
      (cnd (decide (t.op ≥ (11 : Int)))
       (cnd (decide (t.op ≤ (16 : Int)))
        (cnd ((↑t.kids.length : Int) == (2 : Int))
         (((0 : Int) ≤ (0 : Int) ∧ (0 : Int) < (↑t.kids.length : Int)) ∧
         (((0 : Int) ≤ (1 : Int) ∧ (1 : Int) < (↑t.kids.length : Int)) ∧
         (cnd (Term.op (t.kids.getD 0 zeroTerm) == (1 : Int))
          (cnd ((guess_Part_c2 t l).snd)
           (cnd (Term.op (t.kids.getD 0 zeroTerm) == (1 : Int))
            ((((0 : Int) ≤ (guess_Part_c2 t l).fst.all ∧ (guess_Part_c2 t l).fst.all ≤ (1000000000000 : Int)) ∧ ((0 : Int) ≤ (guess_Part_c2 t l).fst.nulls ∧ (guess_Part_c2 t l).fst.nulls ≤ (1000000000000 : Int)) ∧ (0 : Int) ≤ (guess_Part_c2 t l).fst.others) ∧
            (K (A_guess_Part (guess_Part_c4 t l)) (O_guess_Part (guess_Part_c4 t l))))
            (K (A_guess_Part ((333333 : Int))) (O_guess_Part ((333333 : Int)))))
           (K (A_guess_Part ((333333 : Int))) (O_guess_Part ((333333 : Int)))))
          (cnd ((guess_Part_c1 t l).snd)
           (cnd (Term.op (t.kids.getD 1 zeroTerm) == (1 : Int))
            ((((0 : Int) ≤ (guess_Part_c1 t l).fst.all ∧ (guess_Part_c1 t l).fst.all ≤ (1000000000000 : Int)) ∧ ((0 : Int) ≤ (guess_Part_c1 t l).fst.nulls ∧ (guess_Part_c1 t l).fst.nulls ≤ (1000000000000 : Int)) ∧ (0 : Int) ≤ (guess_Part_c1 t l).fst.others) ∧
            (K (A_guess_Part (guess_Part_c5 t l)) (O_guess_Part (guess_Part_c5 t l))))
            (K (A_guess_Part ((333333 : Int))) (O_guess_Part ((333333 : Int)))))
           (K (A_guess_Part ((333333 : Int))) (O_guess_Part ((333333 : Int))))))))
         (K (A_guess_Part ((333333 : Int))) (O_guess_Part ((333333 : Int)))))
        (K (A_guess_Part ((333333 : Int))) (O_guess_Part ((333333 : Int)))))
       (K (A_guess_Part ((333333 : Int))) (O_guess_Part ((333333 : Int))))))
     (cnd (decide (t.op ≥ (11 : Int)))
      (cnd (decide (t.op ≤ (16 : Int)))
       (cnd ((↑t.kids.length : Int) == (2 : Int))
        (((0 : Int) ≤ (0 : Int) ∧ (0 : Int) < (↑t.kids.length : Int)) ∧
        (((0 : Int) ≤ (1 : Int) ∧ (1 : Int) < (↑t.kids.length : Int)) ∧
        (cnd (Term.op (t.kids.getD 0 zeroTerm) == (1 : Int))
         (cnd ((guess_Part_c2 t l).snd)
          (cnd (Term.op (t.kids.getD 0 zeroTerm) == (1 : Int))
           ((((0 : Int) ≤ (guess_Part_c2 t l).fst.all ∧ (guess_Part_c2 t l).fst.all ≤ (1000000000000 : Int)) ∧ ((0 : Int) ≤ (guess_Part_c2 t l).fst.nulls ∧ (guess_Part_c2 t l).fst.nulls ≤ (1000000000000 : Int)) ∧ (0 : Int) ≤ (guess_Part_c2 t l).fst.others) ∧
           (K (A_guess_Part (guess_Part_c4 t l)) (O_guess_Part (guess_Part_c4 t l))))
           (K (A_guess_Part ((333333 : Int))) (O_guess_Part ((333333 : Int)))))
          (K (A_guess_Part ((333333 : Int))) (O_guess_Part ((333333 : Int)))))
         (cnd ((guess_Part_c1 t l).snd)
          (cnd (Term.op (t.kids.getD 1 zeroTerm) == (1 : Int))
           ((((0 : Int) ≤ (guess_Part_c1 t l).fst.all ∧ (guess_Part_c1 t l).fst.all ≤ (1000000000000 : Int)) ∧ ((0 : Int) ≤ (guess_Part_c1 t l).fst.nulls ∧ (guess_Part_c1 t l).fst.nulls ≤ (1000000000000 : Int)) ∧ (0 : Int) ≤ (guess_Part_c1 t l).fst.others) ∧
           (K (A_guess_Part (guess_Part_c5 t l)) (O_guess_Part (guess_Part_c5 t l))))
           (K (A_guess_Part ((333333 : Int))) (O_guess_Part ((333333 : Int)))))
          (K (A_guess_Part ((333333 : Int))) (O_guess_Part ((333333 : Int))))))))
        (K (A_guess_Part ((333333 : Int))) (O_guess_Part ((333333 : Int)))))
       (K (A_guess_Part ((333333 : Int))) (O_guess_Part ((333333 : Int)))))
      (K (A_guess_Part ((333333 : Int))) (O_guess_Part ((333333 : Int)))))))))) :=
  (guess_Part_in_raw m t l K).trans (by simp only [Term.eta])
def guess_Part_fn (m : Nat) (t : Term) (l : List ColStat) : Option (Int) :=
  if (t.op == (1 : Int)) = true then
   if (t.v.kind == (1 : Int)) = true then
    if (t.v.n != (0 : Int)) = true then
     some ((1000000 : Int))
    else
     some ((0 : Int))
   else
    some ((0 : Int))
  else
   if (t.op == (4 : Int)) = true then
    if ((↑t.kids.length : Int) == (1 : Int)) = true then
     if (0 : Int) ≤ (0 : Int) ∧ (0 : Int) < (↑t.kids.length : Int) then
      if (t.kids.getD 0 zeroTerm).ht < m then
       some (IntKind.i64.wrap ((1000000 : Int) - guess_Part_1 (0 : Int) t l))
      else none
     else none
    else
     if (t.op == (17 : Int)) = true then
      if ((↑t.kids.length : Int) == (2 : Int)) = true then
       if (0 : Int) ≤ (0 : Int) ∧ (0 : Int) < (↑t.kids.length : Int) then
        if (t.kids.getD 0 zeroTerm).ht < m then
         if (0 : Int) ≤ (1 : Int) ∧ (1 : Int) < (↑t.kids.length : Int) then
          if (t.kids.getD 1 zeroTerm).ht < m then
           if ¬(1000000 : Int) = (0 : Int) then
            some (IntKind.i64.wrap ((IntKind.i64.wrap (guess_Part_1 (0 : Int) t l * guess_Part_1 (1 : Int) t l)).tdiv (1000000 : Int)))
           else none
          else none
         else none
        else none
       else none
      else
       if (t.op == (18 : Int)) = true then
        if ((↑t.kids.length : Int) == (2 : Int)) = true then
         if (0 : Int) ≤ (0 : Int) ∧ (0 : Int) < (↑t.kids.length : Int) then
          if (t.kids.getD 0 zeroTerm).ht < m then
           if (0 : Int) ≤ (1 : Int) ∧ (1 : Int) < (↑t.kids.length : Int) then
            if (t.kids.getD 1 zeroTerm).ht < m then
             if ¬(1000000 : Int) = (0 : Int) then
              some (IntKind.i64.wrap (IntKind.i64.wrap (guess_Part_1 (0 : Int) t l + guess_Part_1 (1 : Int) t l) - IntKind.i64.wrap ((IntKind.i64.wrap (guess_Part_1 (0 : Int) t l * guess_Part_1 (1 : Int) t l)).tdiv (1000000 : Int))))
             else none
            else none
           else none
          else none
         else none
        else
         if (t.op == (19 : Int)) = true then
          if ((↑t.kids.length : Int) == (1 : Int)) = true then
           if (0 : Int) ≤ (0 : Int) ∧ (0 : Int) < (↑t.kids.length : Int) then
            if ((guess_Part_c1 t l).snd) = true then
             if (0 : Int) ≤ (guess_Part_c1 t l).fst.nulls ∧ (0 : Int) ≤ (guess_Part_c1 t l).fst.all then
              some (guess_Part_c3 t l)
             else none
            else
             some ((333333 : Int))
           else none
          else
           if (decide (t.op ≥ (11 : Int))) = true then
            if (decide (t.op ≤ (16 : Int))) = true then
             if ((↑t.kids.length : Int) == (2 : Int)) = true then
              if (0 : Int) ≤ (0 : Int) ∧ (0 : Int) < (↑t.kids.length : Int) then
               if (0 : Int) ≤ (1 : Int) ∧ (1 : Int) < (↑t.kids.length : Int) then
                if (Term.op (t.kids.getD 0 zeroTerm) == (1 : Int)) = true then
                 if ((guess_Part_c2 t l).snd) = true then
                  if (Term.op (t.kids.getD 0 zeroTerm) == (1 : Int)) = true then
                   if ((0 : Int) ≤ (guess_Part_c2 t l).fst.all ∧ (guess_Part_c2 t l).fst.all ≤ (1000000000000 : Int)) ∧ ((0 : Int) ≤ (guess_Part_c2 t l).fst.nulls ∧ (guess_Part_c2 t l).fst.nulls ≤ (1000000000000 : Int)) ∧ (0 : Int) ≤ (guess_Part_c2 t l).fst.others then
                    some (guess_Part_c4 t l)
                   else none
                  else
                   some ((333333 : Int))
                 else
                  some ((333333 : Int))
                else
                 if ((guess_Part_c1 t l).snd) = true then
                  if (Term.op (t.kids.getD 1 zeroTerm) == (1 : Int)) = true then
                   if ((0 : Int) ≤ (guess_Part_c1 t l).fst.all ∧ (guess_Part_c1 t l).fst.all ≤ (1000000000000 : Int)) ∧ ((0 : Int) ≤ (guess_Part_c1 t l).fst.nulls ∧ (guess_Part_c1 t l).fst.nulls ≤ (1000000000000 : Int)) ∧ (0 : Int) ≤ (guess_Part_c1 t l).fst.others then
                    some (guess_Part_c5 t l)
                   else none
                  else
                   some ((333333 : Int))
                 else
                  some ((333333 : Int))
               else none
              else none
             else
              some ((333333 : Int))
            else
             some ((333333 : Int))
           else
            some ((333333 : Int))
         else
          if (decide (t.op ≥ (11 : Int))) = true then
           if (decide (t.op ≤ (16 : Int))) = true then
            if ((↑t.kids.length : Int) == (2 : Int)) = true then
             if (0 : Int) ≤ (0 : Int) ∧ (0 : Int) < (↑t.kids.length : Int) then
              if (0 : Int) ≤ (1 : Int) ∧ (1 : Int) < (↑t.kids.length : Int) then
               if (Term.op (t.kids.getD 0 zeroTerm) == (1 : Int)) = true then
                if ((guess_Part_c2 t l).snd) = true then
                 if (Term.op (t.kids.getD 0 zeroTerm) == (1 : Int)) = true then
                  if ((0 : Int) ≤ (guess_Part_c2 t l).fst.all ∧ (guess_Part_c2 t l).fst.all ≤ (1000000000000 : Int)) ∧ ((0 : Int) ≤ (guess_Part_c2 t l).fst.nulls ∧ (guess_Part_c2 t l).fst.nulls ≤ (1000000000000 : Int)) ∧ (0 : Int) ≤ (guess_Part_c2 t l).fst.others then
                   some (guess_Part_c4 t l)
                  else none
                 else
                  some ((333333 : Int))
                else
                 some ((333333 : Int))
               else
                if ((guess_Part_c1 t l).snd) = true then
                 if (Term.op (t.kids.getD 1 zeroTerm) == (1 : Int)) = true then
                  if ((0 : Int) ≤ (guess_Part_c1 t l).fst.all ∧ (guess_Part_c1 t l).fst.all ≤ (1000000000000 : Int)) ∧ ((0 : Int) ≤ (guess_Part_c1 t l).fst.nulls ∧ (guess_Part_c1 t l).fst.nulls ≤ (1000000000000 : Int)) ∧ (0 : Int) ≤ (guess_Part_c1 t l).fst.others then
                   some (guess_Part_c5 t l)
                  else none
                 else
                  some ((333333 : Int))
                else
                 some ((333333 : Int))
              else none
             else none
            else
             some ((333333 : Int))
           else
            some ((333333 : Int))
          else
           some ((333333 : Int))
       else
        if (t.op == (19 : Int)) = true then
         if ((↑t.kids.length : Int) == (1 : Int)) = true then
          if (0 : Int) ≤ (0 : Int) ∧ (0 : Int) < (↑t.kids.length : Int) then
           if ((guess_Part_c1 t l).snd) = true then
            if (0 : Int) ≤ (guess_Part_c1 t l).fst.nulls ∧ (0 : Int) ≤ (guess_Part_c1 t l).fst.all then
             some (guess_Part_c3 t l)
            else none
           else
            some ((333333 : Int))
          else none
         else
          if (decide (t.op ≥ (11 : Int))) = true then
           if (decide (t.op ≤ (16 : Int))) = true then
            if ((↑t.kids.length : Int) == (2 : Int)) = true then
             if (0 : Int) ≤ (0 : Int) ∧ (0 : Int) < (↑t.kids.length : Int) then
              if (0 : Int) ≤ (1 : Int) ∧ (1 : Int) < (↑t.kids.length : Int) then
               if (Term.op (t.kids.getD 0 zeroTerm) == (1 : Int)) = true then
                if ((guess_Part_c2 t l).snd) = true then
                 if (Term.op (t.kids.getD 0 zeroTerm) == (1 : Int)) = true then
                  if ((0 : Int) ≤ (guess_Part_c2 t l).fst.all ∧ (guess_Part_c2 t l).fst.all ≤ (1000000000000 : Int)) ∧ ((0 : Int) ≤ (guess_Part_c2 t l).fst.nulls ∧ (guess_Part_c2 t l).fst.nulls ≤ (1000000000000 : Int)) ∧ (0 : Int) ≤ (guess_Part_c2 t l).fst.others then
                   some (guess_Part_c4 t l)
                  else none
                 else
                  some ((333333 : Int))
                else
                 some ((333333 : Int))
               else
                if ((guess_Part_c1 t l).snd) = true then
                 if (Term.op (t.kids.getD 1 zeroTerm) == (1 : Int)) = true then
                  if ((0 : Int) ≤ (guess_Part_c1 t l).fst.all ∧ (guess_Part_c1 t l).fst.all ≤ (1000000000000 : Int)) ∧ ((0 : Int) ≤ (guess_Part_c1 t l).fst.nulls ∧ (guess_Part_c1 t l).fst.nulls ≤ (1000000000000 : Int)) ∧ (0 : Int) ≤ (guess_Part_c1 t l).fst.others then
                   some (guess_Part_c5 t l)
                  else none
                 else
                  some ((333333 : Int))
                else
                 some ((333333 : Int))
              else none
             else none
            else
             some ((333333 : Int))
           else
            some ((333333 : Int))
          else
           some ((333333 : Int))
        else
         if (decide (t.op ≥ (11 : Int))) = true then
          if (decide (t.op ≤ (16 : Int))) = true then
           if ((↑t.kids.length : Int) == (2 : Int)) = true then
            if (0 : Int) ≤ (0 : Int) ∧ (0 : Int) < (↑t.kids.length : Int) then
             if (0 : Int) ≤ (1 : Int) ∧ (1 : Int) < (↑t.kids.length : Int) then
              if (Term.op (t.kids.getD 0 zeroTerm) == (1 : Int)) = true then
               if ((guess_Part_c2 t l).snd) = true then
                if (Term.op (t.kids.getD 0 zeroTerm) == (1 : Int)) = true then
                 if ((0 : Int) ≤ (guess_Part_c2 t l).fst.all ∧ (guess_Part_c2 t l).fst.all ≤ (1000000000000 : Int)) ∧ ((0 : Int) ≤ (guess_Part_c2 t l).fst.nulls ∧ (guess_Part_c2 t l).fst.nulls ≤ (1000000000000 : Int)) ∧ (0 : Int) ≤ (guess_Part_c2 t l).fst.others then
                  some (guess_Part_c4 t l)
                 else none
                else
                 some ((333333 : Int))
               else
                some ((333333 : Int))
              else
               if ((guess_Part_c1 t l).snd) = true then
                if (Term.op (t.kids.getD 1 zeroTerm) == (1 : Int)) = true then
                 if ((0 : Int) ≤ (guess_Part_c1 t l).fst.all ∧ (guess_Part_c1 t l).fst.all ≤ (1000000000000 : Int)) ∧ ((0 : Int) ≤ (guess_Part_c1 t l).fst.nulls ∧ (guess_Part_c1 t l).fst.nulls ≤ (1000000000000 : Int)) ∧ (0 : Int) ≤ (guess_Part_c1 t l).fst.others then
                  some (guess_Part_c5 t l)
                 else none
                else
                 some ((333333 : Int))
               else
                some ((333333 : Int))
             else none
            else none
           else
            some ((333333 : Int))
          else
           some ((333333 : Int))
         else
          some ((333333 : Int))
     else
      if (t.op == (18 : Int)) = true then
       if ((↑t.kids.length : Int) == (2 : Int)) = true then
        if (0 : Int) ≤ (0 : Int) ∧ (0 : Int) < (↑t.kids.length : Int) then
         if (t.kids.getD 0 zeroTerm).ht < m then
          if (0 : Int) ≤ (1 : Int) ∧ (1 : Int) < (↑t.kids.length : Int) then
           if (t.kids.getD 1 zeroTerm).ht < m then
            if ¬(1000000 : Int) = (0 : Int) then
             some (IntKind.i64.wrap (IntKind.i64.wrap (guess_Part_1 (0 : Int) t l + guess_Part_1 (1 : Int) t l) - IntKind.i64.wrap ((IntKind.i64.wrap (guess_Part_1 (0 : Int) t l * guess_Part_1 (1 : Int) t l)).tdiv (1000000 : Int))))
            else none
           else none
          else none
         else none
        else none
       else
        if (t.op == (19 : Int)) = true then
         if ((↑t.kids.length : Int) == (1 : Int)) = true then
          if (0 : Int) ≤ (0 : Int) ∧ (0 : Int) < (↑t.kids.length : Int) then
           if ((guess_Part_c1 t l).snd) = true then
            if (0 : Int) ≤ (guess_Part_c1 t l).fst.nulls ∧ (0 : Int) ≤ (guess_Part_c1 t l).fst.all then
             some (guess_Part_c3 t l)
            else none
           else
            some ((333333 : Int))
          else none
         else
          if (decide (t.op ≥ (11 : Int))) = true then
           if (decide (t.op ≤ (16 : Int))) = true then
            if ((↑t.kids.length : Int) == (2 : Int)) = true then
             if (0 : Int) ≤ (0 : Int) ∧ (0 : Int) < (↑t.kids.length : Int) then
              if (0 : Int) ≤ (1 : Int) ∧ (1 : Int) < (↑t.kids.length : Int) then
               if (Term.op (t.kids.getD 0 zeroTerm) == (1 : Int)) = true then
                if ((guess_Part_c2 t l).snd) = true then
                 if (Term.op (t.kids.getD 0 zeroTerm) == (1 : Int)) = true then
                  if ((0 : Int) ≤ (guess_Part_c2 t l).fst.all ∧ (guess_Part_c2 t l).fst.all ≤ (1000000000000 : Int)) ∧ ((0 : Int) ≤ (guess_Part_c2 t l).fst.nulls ∧ (guess_Part_c2 t l).fst.nulls ≤ (1000000000000 : Int)) ∧ (0 : Int) ≤ (guess_Part_c2 t l).fst.others then
                   some (guess_Part_c4 t l)
                  else none
                 else
                  some ((333333 : Int))
                else
                 some ((333333 : Int))
               else
                if ((guess_Part_c1 t l).snd) = true then
                 if (Term.op (t.kids.getD 1 zeroTerm) == (1 : Int)) = true then
                  if ((0 : Int) ≤ (guess_Part_c1 t l).fst.all ∧ (guess_Part_c1 t l).fst.all ≤ (1000000000000 : Int)) ∧ ((0 : Int) ≤ (guess_Part_c1 t l).fst.nulls ∧ (guess_Part_c1 t l).fst.nulls ≤ (1000000000000 : Int)) ∧ (0 : Int) ≤ (guess_Part_c1 t l).fst.others then
                   some (guess_Part_c5 t l)
                  else none
                 else
                  some ((333333 : Int))
                else
                 some ((333333 : Int))
              else none
             else none
            else
             some ((333333 : Int))
           else
            some ((333333 : Int))
          else
           some ((333333 : Int))
        else
         if (decide (t.op ≥ (11 : Int))) = true then
          if (decide (t.op ≤ (16 : Int))) = true then
           if ((↑t.kids.length : Int) == (2 : Int)) = true then
            if (0 : Int) ≤ (0 : Int) ∧ (0 : Int) < (↑t.kids.length : Int) then
             if (0 : Int) ≤ (1 : Int) ∧ (1 : Int) < (↑t.kids.length : Int) then
              if (Term.op (t.kids.getD 0 zeroTerm) == (1 : Int)) = true then
               if ((guess_Part_c2 t l).snd) = true then
                if (Term.op (t.kids.getD 0 zeroTerm) == (1 : Int)) = true then
                 if ((0 : Int) ≤ (guess_Part_c2 t l).fst.all ∧ (guess_Part_c2 t l).fst.all ≤ (1000000000000 : Int)) ∧ ((0 : Int) ≤ (guess_Part_c2 t l).fst.nulls ∧ (guess_Part_c2 t l).fst.nulls ≤ (1000000000000 : Int)) ∧ (0 : Int) ≤ (guess_Part_c2 t l).fst.others then
                  some (guess_Part_c4 t l)
                 else none
                else
                 some ((333333 : Int))
               else
                some ((333333 : Int))
              else
               if ((guess_Part_c1 t l).snd) = true then
                if (Term.op (t.kids.getD 1 zeroTerm) == (1 : Int)) = true then
                 if ((0 : Int) ≤ (guess_Part_c1 t l).fst.all ∧ (guess_Part_c1 t l).fst.all ≤ (1000000000000 : Int)) ∧ ((0 : Int) ≤ (guess_Part_c1 t l).fst.nulls ∧ (guess_Part_c1 t l).fst.nulls ≤ (1000000000000 : Int)) ∧ (0 : Int) ≤ (guess_Part_c1 t l).fst.others then
                  some (guess_Part_c5 t l)
                 else none
                else
                 some ((333333 : Int))
               else
                some ((333333 : Int))
             else none
            else none
           else
            some ((333333 : Int))
          else
           some ((333333 : Int))
         else
          some ((333333 : Int))
      else
       if (t.op == (19 : Int)) = true then
        if ((↑t.kids.length : Int) == (1 : Int)) = true then
         if (0 : Int) ≤ (0 : Int) ∧ (0 : Int) < (↑t.kids.length : Int) then
          if ((guess_Part_c1 t l).snd) = true then
           if (0 : Int) ≤ (guess_Part_c1 t l).fst.nulls ∧ (0 : Int) ≤ (guess_Part_c1 t l).fst.all then
            some (guess_Part_c3 t l)
           else none
          else
           some ((333333 : Int))
         else none
        else
         if (decide (t.op ≥ (11 : Int))) = true then
          if (decide (t.op ≤ (16 : Int))) = true then
           if ((↑t.kids.length : Int) == (2 : Int)) = true then
            if (0 : Int) ≤ (0 : Int) ∧ (0 : Int) < (↑t.kids.length : Int) then
             if (0 : Int) ≤ (1 : Int) ∧ (1 : Int) < (↑t.kids.length : Int) then
              if (Term.op (t.kids.getD 0 zeroTerm) == (1 : Int)) = true then
               if ((guess_Part_c2 t l).snd) = true then
                if (Term.op (t.kids.getD 0 zeroTerm) == (1 : Int)) = true then
                 if ((0 : Int) ≤ (guess_Part_c2 t l).fst.all ∧ (guess_Part_c2 t l).fst.all ≤ (1000000000000 : Int)) ∧ ((0 : Int) ≤ (guess_Part_c2 t l).fst.nulls ∧ (guess_Part_c2 t l).fst.nulls ≤ (1000000000000 : Int)) ∧ (0 : Int) ≤ (guess_Part_c2 t l).fst.others then
                  some (guess_Part_c4 t l)
                 else none
                else
                 some ((333333 : Int))
               else
                some ((333333 : Int))
              else
               if ((guess_Part_c1 t l).snd) = true then
                if (Term.op (t.kids.getD 1 zeroTerm) == (1 : Int)) = true then
                 if ((0 : Int) ≤ (guess_Part_c1 t l).fst.all ∧ (guess_Part_c1 t l).fst.all ≤ (1000000000000 : Int)) ∧ ((0 : Int) ≤ (guess_Part_c1 t l).fst.nulls ∧ (guess_Part_c1 t l).fst.nulls ≤ (1000000000000 : Int)) ∧ (0 : Int) ≤ (guess_Part_c1 t l).fst.others then
                  some (guess_Part_c5 t l)
                 else none
                else
                 some ((333333 : Int))
               else
                some ((333333 : Int))
             else none
            else none
           else
            some ((333333 : Int))
          else
           some ((333333 : Int))
         else
          some ((333333 : Int))
       else
        if (decide (t.op ≥ (11 : Int))) = true then
         if (decide (t.op ≤ (16 : Int))) = true then
          if ((↑t.kids.length : Int) == (2 : Int)) = true then
           if (0 : Int) ≤ (0 : Int) ∧ (0 : Int) < (↑t.kids.length : Int) then
            if (0 : Int) ≤ (1 : Int) ∧ (1 : Int) < (↑t.kids.length : Int) then
             if (Term.op (t.kids.getD 0 zeroTerm) == (1 : Int)) = true then
              if ((guess_Part_c2 t l).snd) = true then
               if (Term.op (t.kids.getD 0 zeroTerm) == (1 : Int)) = true then
                if ((0 : Int) ≤ (guess_Part_c2 t l).fst.all ∧ (guess_Part_c2 t l).fst.all ≤ (1000000000000 : Int)) ∧ ((0 : Int) ≤ (guess_Part_c2 t l).fst.nulls ∧ (guess_Part_c2 t l).fst.nulls ≤ (1000000000000 : Int)) ∧ (0 : Int) ≤ (guess_Part_c2 t l).fst.others then
                 some (guess_Part_c4 t l)
                else none
               else
                some ((333333 : Int))
              else
               some ((333333 : Int))
             else
              if ((guess_Part_c1 t l).snd) = true then
               if (Term.op (t.kids.getD 1 zeroTerm) == (1 : Int)) = true then
                if ((0 : Int) ≤ (guess_Part_c1 t l).fst.all ∧ (guess_Part_c1 t l).fst.all ≤ (1000000000000 : Int)) ∧ ((0 : Int) ≤ (guess_Part_c1 t l).fst.nulls ∧ (guess_Part_c1 t l).fst.nulls ≤ (1000000000000 : Int)) ∧ (0 : Int) ≤ (guess_Part_c1 t l).fst.others then
                 some (guess_Part_c5 t l)
                else none
               else
                some ((333333 : Int))
              else
               some ((333333 : Int))
            else none
           else none
          else
           some ((333333 : Int))
         else
          some ((333333 : Int))
        else
         some ((333333 : Int))
   else
    if (t.op == (17 : Int)) = true then
     if ((↑t.kids.length : Int) == (2 : Int)) = true then
      if (0 : Int) ≤ (0 : Int) ∧ (0 : Int) < (↑t.kids.length : Int) then
       if (t.kids.getD 0 zeroTerm).ht < m then
        if (0 : Int) ≤ (1 : Int) ∧ (1 : Int) < (↑t.kids.length : Int) then
         if (t.kids.getD 1 zeroTerm).ht < m then
          if ¬(1000000 : Int) = (0 : Int) then
           some (IntKind.i64.wrap ((IntKind.i64.wrap (guess_Part_1 (0 : Int) t l * guess_Part_1 (1 : Int) t l)).tdiv (1000000 : Int)))
          else none
         else none
        else none
       else none
      else none
     else
      if (t.op == (18 : Int)) = true then
       if ((↑t.kids.length : Int) == (2 : Int)) = true then
        if (0 : Int) ≤ (0 : Int) ∧ (0 : Int) < (↑t.kids.length : Int) then
         if (t.kids.getD 0 zeroTerm).ht < m then
          if (0 : Int) ≤ (1 : Int) ∧ (1 : Int) < (↑t.kids.length : Int) then
           if (t.kids.getD 1 zeroTerm).ht < m then
            if ¬(1000000 : Int) = (0 : Int) then
             some (IntKind.i64.wrap (IntKind.i64.wrap (guess_Part_1 (0 : Int) t l + guess_Part_1 (1 : Int) t l) - IntKind.i64.wrap ((IntKind.i64.wrap (guess_Part_1 (0 : Int) t l * guess_Part_1 (1 : Int) t l)).tdiv (1000000 : Int))))
            else none
           else none
          else none
         else none
        else none
       else
        if (t.op == (19 : Int)) = true then
         if ((↑t.kids.length : Int) == (1 : Int)) = true then
          if (0 : Int) ≤ (0 : Int) ∧ (0 : Int) < (↑t.kids.length : Int) then
           if ((guess_Part_c1 t l).snd) = true then
            if (0 : Int) ≤ (guess_Part_c1 t l).fst.nulls ∧ (0 : Int) ≤ (guess_Part_c1 t l).fst.all then
             some (guess_Part_c3 t l)
            else none
           else
            some ((333333 : Int))
          else none
         else
          if (decide (t.op ≥ (11 : Int))) = true then
           if (decide (t.op ≤ (16 : Int))) = true then
            if ((↑t.kids.length : Int) == (2 : Int)) = true then
             if (0 : Int) ≤ (0 : Int) ∧ (0 : Int) < (↑t.kids.length : Int) then
              if (0 : Int) ≤ (1 : Int) ∧ (1 : Int) < (↑t.kids.length : Int) then
               if (Term.op (t.kids.getD 0 zeroTerm) == (1 : Int)) = true then
                if ((guess_Part_c2 t l).snd) = true then
                 if (Term.op (t.kids.getD 0 zeroTerm) == (1 : Int)) = true then
                  if ((0 : Int) ≤ (guess_Part_c2 t l).fst.all ∧ (guess_Part_c2 t l).fst.all ≤ (1000000000000 : Int)) ∧ ((0 : Int) ≤ (guess_Part_c2 t l).fst.nulls ∧ (guess_Part_c2 t l).fst.nulls ≤ (1000000000000 : Int)) ∧ (0 : Int) ≤ (guess_Part_c2 t l).fst.others then
                   some (guess_Part_c4 t l)
                  else none
                 else
                  some ((333333 : Int))
                else
                 some ((333333 : Int))
               else
                if ((guess_Part_c1 t l).snd) = true then
                 if (Term.op (t.kids.getD 1 zeroTerm) == (1 : Int)) = true then
                  if ((0 : Int) ≤ (guess_Part_c1 t l).fst.all ∧ (guess_Part_c1 t l).fst.all ≤ (1000000000000 : Int)) ∧ ((0 : Int) ≤ (guess_Part_c1 t l).fst.nulls ∧ (guess_Part_c1 t l).fst.nulls ≤ (1000000000000 : Int)) ∧ (0 : Int) ≤ (guess_Part_c1 t l).fst.others then
                   some (guess_Part_c5 t l)
                  else none
                 else
                  some ((333333 : Int))
                else
                 some ((333333 : Int))
              else none
             else none
            else
             some ((333333 : Int))
           else
            some ((333333 : Int))
          else
           some ((333333 : Int))
        else
         if (decide (t.op ≥ (11 : Int))) = true then
          if (decide (t.op ≤ (16 : Int))) = true then
           if ((↑t.kids.length : Int) == (2 : Int)) = true then
            if (0 : Int) ≤ (0 : Int) ∧ (0 : Int) < (↑t.kids.length : Int) then
             if (0 : Int) ≤ (1 : Int) ∧ (1 : Int) < (↑t.kids.length : Int) then
              if (Term.op (t.kids.getD 0 zeroTerm) == (1 : Int)) = true then
               if ((guess_Part_c2 t l).snd) = true then
                if (Term.op (t.kids.getD 0 zeroTerm) == (1 : Int)) = true then
                 if ((0 : Int) ≤ (guess_Part_c2 t l).fst.all ∧ (guess_Part_c2 t l).fst.all ≤ (1000000000000 : Int)) ∧ ((0 : Int) ≤ (guess_Part_c2 t l).fst.nulls ∧ (guess_Part_c2 t l).fst.nulls ≤ (1000000000000 : Int)) ∧ (0 : Int) ≤ (guess_Part_c2 t l).fst.others then
                  some (guess_Part_c4 t l)
                 else none
                else
                 some ((333333 : Int))
               else
                some ((333333 : Int))
              else
               if ((guess_Part_c1 t l).snd) = true then
                if (Term.op (t.kids.getD 1 zeroTerm) == (1 : Int)) = true then
                 if ((0 : Int) ≤ (guess_Part_c1 t l).fst.all ∧ (guess_Part_c1 t l).fst.all ≤ (1000000000000 : Int)) ∧ ((0 : Int) ≤ (guess_Part_c1 t l).fst.nulls ∧ (guess_Part_c1 t l).fst.nulls ≤ (1000000000000 : Int)) ∧ (0 : Int) ≤ (guess_Part_c1 t l).fst.others then
                  some (guess_Part_c5 t l)
                 else none
                else
                 some ((333333 : Int))
               else
                some ((333333 : Int))
             else none
            else none
           else
            some ((333333 : Int))
          else
           some ((333333 : Int))
         else
          some ((333333 : Int))
      else
       if (t.op == (19 : Int)) = true then
        if ((↑t.kids.length : Int) == (1 : Int)) = true then
         if (0 : Int) ≤ (0 : Int) ∧ (0 : Int) < (↑t.kids.length : Int) then
          if ((guess_Part_c1 t l).snd) = true then
           if (0 : Int) ≤ (guess_Part_c1 t l).fst.nulls ∧ (0 : Int) ≤ (guess_Part_c1 t l).fst.all then
            some (guess_Part_c3 t l)
           else none
          else
           some ((333333 : Int))
         else none
        else
         if (decide (t.op ≥ (11 : Int))) = true then
          if (decide (t.op ≤ (16 : Int))) = true then
           if ((↑t.kids.length : Int) == (2 : Int)) = true then
            if (0 : Int) ≤ (0 : Int) ∧ (0 : Int) < (↑t.kids.length : Int) then
             if (0 : Int) ≤ (1 : Int) ∧ (1 : Int) < (↑t.kids.length : Int) then
              if (Term.op (t.kids.getD 0 zeroTerm) == (1 : Int)) = true then
               if ((guess_Part_c2 t l).snd) = true then
                if (Term.op (t.kids.getD 0 zeroTerm) == (1 : Int)) = true then
                 if ((0 : Int) ≤ (guess_Part_c2 t l).fst.all ∧ (guess_Part_c2 t l).fst.all ≤ (1000000000000 : Int)) ∧ ((0 : Int) ≤ (guess_Part_c2 t l).fst.nulls ∧ (guess_Part_c2 t l).fst.nulls ≤ (1000000000000 : Int)) ∧ (0 : Int) ≤ (guess_Part_c2 t l).fst.others then
                  some (guess_Part_c4 t l)
                 else none
                else
                 some ((333333 : Int))
               else
                some ((333333 : Int))
              else
               if ((guess_Part_c1 t l).snd) = true then
                if (Term.op (t.kids.getD 1 zeroTerm) == (1 : Int)) = true then
                 if ((0 : Int) ≤ (guess_Part_c1 t l).fst.all ∧ (guess_Part_c1 t l).fst.all ≤ (1000000000000 : Int)) ∧ ((0 : Int) ≤ (guess_Part_c1 t l).fst.nulls ∧ (guess_Part_c1 t l).fst.nulls ≤ (1000000000000 : Int)) ∧ (0 : Int) ≤ (guess_Part_c1 t l).fst.others then
                  some (guess_Part_c5 t l)
                 else none
                else
                 some ((333333 : Int))
               else
                some ((333333 : Int))
             else none
            else none
           else
            some ((333333 : Int))
          else
           some ((333333 : Int))
         else
          some ((333333 : Int))
       else
        if (decide (t.op ≥ (11 : Int))) = true then
         if (decide (t.op ≤ (16 : Int))) = true then
          if ((↑t.kids.length : Int) == (2 : Int)) = true then
           if (0 : Int) ≤ (0 : Int) ∧ (0 : Int) < (↑t.kids.length : Int) then
            if (0 : Int) ≤ (1 : Int) ∧ (1 : Int) < (↑t.kids.length : Int) then
             if (Term.op (t.kids.getD 0 zeroTerm) == (1 : Int)) = true then
              if ((guess_Part_c2 t l).snd) = true then
               if (Term.op (t.kids.getD 0 zeroTerm) == (1 : Int)) = true then
                if ((0 : Int) ≤ (guess_Part_c2 t l).fst.all ∧ (guess_Part_c2 t l).fst.all ≤ (1000000000000 : Int)) ∧ ((0 : Int) ≤ (guess_Part_c2 t l).fst.nulls ∧ (guess_Part_c2 t l).fst.nulls ≤ (1000000000000 : Int)) ∧ (0 : Int) ≤ (guess_Part_c2 t l).fst.others then
                 some (guess_Part_c4 t l)
                else none
               else
                some ((333333 : Int))
              else
               some ((333333 : Int))
             else
              if ((guess_Part_c1 t l).snd) = true then
               if (Term.op (t.kids.getD 1 zeroTerm) == (1 : Int)) = true then
                if ((0 : Int) ≤ (guess_Part_c1 t l).fst.all ∧ (guess_Part_c1 t l).fst.all ≤ (1000000000000 : Int)) ∧ ((0 : Int) ≤ (guess_Part_c1 t l).fst.nulls ∧ (guess_Part_c1 t l).fst.nulls ≤ (1000000000000 : Int)) ∧ (0 : Int) ≤ (guess_Part_c1 t l).fst.others then
                 some (guess_Part_c5 t l)
                else none
               else
                some ((333333 : Int))
              else
               some ((333333 : Int))
            else none
           else none
          else
           some ((333333 : Int))
         else
          some ((333333 : Int))
        else
         some ((333333 : Int))
    else
     if (t.op == (18 : Int)) = true then
      if ((↑t.kids.length : Int) == (2 : Int)) = true then
       if (0 : Int) ≤ (0 : Int) ∧ (0 : Int) < (↑t.kids.length : Int) then
        if (t.kids.getD 0 zeroTerm).ht < m then
         if (0 : Int) ≤ (1 : Int) ∧ (1 : Int) < (↑t.kids.length : Int) then
          if (t.kids.getD 1 zeroTerm).ht < m then
           if ¬(1000000 : Int) = (0 : Int) then
            some (IntKind.i64.wrap (IntKind.i64.wrap (guess_Part_1 (0 : Int) t l + guess_Part_1 (1 : Int) t l) - IntKind.i64.wrap ((IntKind.i64.wrap (guess_Part_1 (0 : Int) t l * guess_Part_1 (1 : Int) t l)).tdiv (1000000 : Int))))
           else none
          else none
         else none
        else none
       else none
      else
       if (t.op == (19 : Int)) = true then
        if ((↑t.kids.length : Int) == (1 : Int)) = true then
         if (0 : Int) ≤ (0 : Int) ∧ (0 : Int) < (↑t.kids.length : Int) then
          if ((guess_Part_c1 t l).snd) = true then
           if (0 : Int) ≤ (guess_Part_c1 t l).fst.nulls ∧ (0 : Int) ≤ (guess_Part_c1 t l).fst.all then
            some (guess_Part_c3 t l)
           else none
          else
           some ((333333 : Int))
         else none
        else
         if (decide (t.op ≥ (11 : Int))) = true then
          if (decide (t.op ≤ (16 : Int))) = true then
           if ((↑t.kids.length : Int) == (2 : Int)) = true then
            if (0 : Int) ≤ (0 : Int) ∧ (0 : Int) < (↑t.kids.length : Int) then
             if (0 : Int) ≤ (1 : Int) ∧ (1 : Int) < (↑t.kids.length : Int) then
              if (Term.op (t.kids.getD 0 zeroTerm) == (1 : Int)) = true then
               if ((guess_Part_c2 t l).snd) = true then
                if (Term.op (t.kids.getD 0 zeroTerm) == (1 : Int)) = true then
                 if ((0 : Int) ≤ (guess_Part_c2 t l).fst.all ∧ (guess_Part_c2 t l).fst.all ≤ (1000000000000 : Int)) ∧ ((0 : Int) ≤ (guess_Part_c2 t l).fst.nulls ∧ (guess_Part_c2 t l).fst.nulls ≤ (1000000000000 : Int)) ∧ (0 : Int) ≤ (guess_Part_c2 t l).fst.others then
                  some (guess_Part_c4 t l)
                 else none
                else
                 some ((333333 : Int))
               else
                some ((333333 : Int))
              else
               if ((guess_Part_c1 t l).snd) = true then
                if (Term.op (t.kids.getD 1 zeroTerm) == (1 : Int)) = true then
                 if ((0 : Int) ≤ (guess_Part_c1 t l).fst.all ∧ (guess_Part_c1 t l).fst.all ≤ (1000000000000 : Int)) ∧ ((0 : Int) ≤ (guess_Part_c1 t l).fst.nulls ∧ (guess_Part_c1 t l).fst.nulls ≤ (1000000000000 : Int)) ∧ (0 : Int) ≤ (guess_Part_c1 t l).fst.others then
                  some (guess_Part_c5 t l)
                 else none
                else
                 some ((333333 : Int))
               else
                some ((333333 : Int))
             else none
            else none
           else
            some ((333333 : Int))
          else
           some ((333333 : Int))
         else
          some ((333333 : Int))
       else
        if (decide (t.op ≥ (11 : Int))) = true then
         if (decide (t.op ≤ (16 : Int))) = true then
          if ((↑t.kids.length : Int) == (2 : Int)) = true then
           if (0 : Int) ≤ (0 : Int) ∧ (0 : Int) < (↑t.kids.length : Int) then
            if (0 : Int) ≤ (1 : Int) ∧ (1 : Int) < (↑t.kids.length : Int) then
             if (Term.op (t.kids.getD 0 zeroTerm) == (1 : Int)) = true then
              if ((guess_Part_c2 t l).snd) = true then
               if (Term.op (t.kids.getD 0 zeroTerm) == (1 : Int)) = true then
                if ((0 : Int) ≤ (guess_Part_c2 t l).fst.all ∧ (guess_Part_c2 t l).fst.all ≤ (1000000000000 : Int)) ∧ ((0 : Int) ≤ (guess_Part_c2 t l).fst.nulls ∧ (guess_Part_c2 t l).fst.nulls ≤ (1000000000000 : Int)) ∧ (0 : Int) ≤ (guess_Part_c2 t l).fst.others then
                 some (guess_Part_c4 t l)
                else none
               else
                some ((333333 : Int))
              else
               some ((333333 : Int))
             else
              if ((guess_Part_c1 t l).snd) = true then
               if (Term.op (t.kids.getD 1 zeroTerm) == (1 : Int)) = true then
                if ((0 : Int) ≤ (guess_Part_c1 t l).fst.all ∧ (guess_Part_c1 t l).fst.all ≤ (1000000000000 : Int)) ∧ ((0 : Int) ≤ (guess_Part_c1 t l).fst.nulls ∧ (guess_Part_c1 t l).fst.nulls ≤ (1000000000000 : Int)) ∧ (0 : Int) ≤ (guess_Part_c1 t l).fst.others then
                 some (guess_Part_c5 t l)
                else none
               else
                some ((333333 : Int))
              else
               some ((333333 : Int))
            else none
           else none
          else
           some ((333333 : Int))
         else
          some ((333333 : Int))
        else
         some ((333333 : Int))
     else
      if (t.op == (19 : Int)) = true then
       if ((↑t.kids.length : Int) == (1 : Int)) = true then
        if (0 : Int) ≤ (0 : Int) ∧ (0 : Int) < (↑t.kids.length : Int) then
         if ((guess_Part_c1 t l).snd) = true then
          if (0 : Int) ≤ (guess_Part_c1 t l).fst.nulls ∧ (0 : Int) ≤ (guess_Part_c1 t l).fst.all then
           some (guess_Part_c3 t l)
          else none
         else
          some ((333333 : Int))
        else none
       else
        if (decide (t.op ≥ (11 : Int))) = true then
         if (decide (t.op ≤ (16 : Int))) = true then
          if ((↑t.kids.length : Int) == (2 : Int)) = true then
           if (0 : Int) ≤ (0 : Int) ∧ (0 : Int) < (↑t.kids.length : Int) then
            if (0 : Int) ≤ (1 : Int) ∧ (1 : Int) < (↑t.kids.length : Int) then
             if (Term.op (t.kids.getD 0 zeroTerm) == (1 : Int)) = true then
              if ((guess_Part_c2 t l).snd) = true then
               if (Term.op (t.kids.getD 0 zeroTerm) == (1 : Int)) = true then
                if ((0 : Int) ≤ (guess_Part_c2 t l).fst.all ∧ (guess_Part_c2 t l).fst.all ≤ (1000000000000 : Int)) ∧ ((0 : Int) ≤ (guess_Part_c2 t l).fst.nulls ∧ (guess_Part_c2 t l).fst.nulls ≤ (1000000000000 : Int)) ∧ (0 : Int) ≤ (guess_Part_c2 t l).fst.others then
                 some (guess_Part_c4 t l)
                else none
               else
                some ((333333 : Int))
              else
               some ((333333 : Int))
             else
              if ((guess_Part_c1 t l).snd) = true then
               if (Term.op (t.kids.getD 1 zeroTerm) == (1 : Int)) = true then
                if ((0 : Int) ≤ (guess_Part_c1 t l).fst.all ∧ (guess_Part_c1 t l).fst.all ≤ (1000000000000 : Int)) ∧ ((0 : Int) ≤ (guess_Part_c1 t l).fst.nulls ∧ (guess_Part_c1 t l).fst.nulls ≤ (1000000000000 : Int)) ∧ (0 : Int) ≤ (guess_Part_c1 t l).fst.others then
                 some (guess_Part_c5 t l)
                else none
               else
                some ((333333 : Int))
              else
               some ((333333 : Int))
            else none
           else none
          else
           some ((333333 : Int))
         else
          some ((333333 : Int))
        else
         some ((333333 : Int))
      else
       if (decide (t.op ≥ (11 : Int))) = true then
        if (decide (t.op ≤ (16 : Int))) = true then
         if ((↑t.kids.length : Int) == (2 : Int)) = true then
          if (0 : Int) ≤ (0 : Int) ∧ (0 : Int) < (↑t.kids.length : Int) then
           if (0 : Int) ≤ (1 : Int) ∧ (1 : Int) < (↑t.kids.length : Int) then
            if (Term.op (t.kids.getD 0 zeroTerm) == (1 : Int)) = true then
             if ((guess_Part_c2 t l).snd) = true then
              if (Term.op (t.kids.getD 0 zeroTerm) == (1 : Int)) = true then
               if ((0 : Int) ≤ (guess_Part_c2 t l).fst.all ∧ (guess_Part_c2 t l).fst.all ≤ (1000000000000 : Int)) ∧ ((0 : Int) ≤ (guess_Part_c2 t l).fst.nulls ∧ (guess_Part_c2 t l).fst.nulls ≤ (1000000000000 : Int)) ∧ (0 : Int) ≤ (guess_Part_c2 t l).fst.others then
                some (guess_Part_c4 t l)
               else none
              else
               some ((333333 : Int))
             else
              some ((333333 : Int))
            else
             if ((guess_Part_c1 t l).snd) = true then
              if (Term.op (t.kids.getD 1 zeroTerm) == (1 : Int)) = true then
               if ((0 : Int) ≤ (guess_Part_c1 t l).fst.all ∧ (guess_Part_c1 t l).fst.all ≤ (1000000000000 : Int)) ∧ ((0 : Int) ≤ (guess_Part_c1 t l).fst.nulls ∧ (guess_Part_c1 t l).fst.nulls ≤ (1000000000000 : Int)) ∧ (0 : Int) ≤ (guess_Part_c1 t l).fst.others then
                some (guess_Part_c5 t l)
               else none
              else
               some ((333333 : Int))
             else
              some ((333333 : Int))
           else none
          else none
         else
          some ((333333 : Int))
        else
         some ((333333 : Int))
       else
        some ((333333 : Int))
theorem guess_Part_run {m : Nat} {t : Term} {l : List ColStat} {r : Int} (h : guess_Part_fn m t l = some r) : Runs (awp (M_guess_Part m) N_guess_Part (bodyOf Try.f10) (entry Try.f10.ntmps 0 [.d (.agg (enc Ty.term t)), .d (.v (.dat (U := Un) Ty.colStat l))]) (retQ (M_guess_Part m) Try.f10.results.toList [.d] fun rs os => rs = A_guess_Part r ∧ os = O_guess_Part r)) := by
  constructor
  rw [guess_Part_in m t l (fun rs os => rs = A_guess_Part r ∧ os = O_guess_Part r)]
  unfold guess_Part_fn at h
  rcases ite_some h with ⟨c1, h2⟩ | ⟨c1, h2⟩
  · rcases ite_some h2 with ⟨c3, h4⟩ | ⟨c3, h4⟩
    · rcases ite_some h4 with ⟨c5, h6⟩ | ⟨c5, h6⟩
      · cases h6
        exact (cnd_t c1 (cnd_t c3 (cnd_t c5 ⟨rfl, rfl⟩)))
      · cases h6
        exact (cnd_t c1 (cnd_t c3 (cnd_f (bfalse c5) ⟨rfl, rfl⟩)))
    · cases h4
      exact (cnd_t c1 (cnd_f (bfalse c3) ⟨rfl, rfl⟩))
  · rcases ite_some h2 with ⟨c7, h8⟩ | ⟨c7, h8⟩
    · rcases ite_some h8 with ⟨c9, h10⟩ | ⟨c9, h10⟩
      · obtain ⟨c11, h12⟩ := ob_some h10
        obtain ⟨c13, h14⟩ := ob_some h12
        cases h14
        exact (cnd_f (bfalse c1) (cnd_t c7 (cnd_t c9 (And.intro c11 (And.intro c13 ⟨rfl, rfl⟩)))))
      · rcases ite_some h10 with ⟨c15, h16⟩ | ⟨c15, h16⟩
        · rcases ite_some h16 with ⟨c17, h18⟩ | ⟨c17, h18⟩
          · obtain ⟨c19, h20⟩ := ob_some h18
            obtain ⟨c21, h22⟩ := ob_some h20
            obtain ⟨c23, h24⟩ := ob_some h22
            obtain ⟨c25, h26⟩ := ob_some h24
            obtain ⟨c27, h28⟩ := ob_some h26
            cases h28
            exact (cnd_f (bfalse c1) (cnd_t c7 (cnd_f (bfalse c9) (cnd_t c15 (cnd_t c17 (And.intro c19 (And.intro c21 (And.intro c23 (And.intro c25 (And.intro c27 ⟨rfl, rfl⟩))))))))))
          · rcases ite_some h18 with ⟨c29, h30⟩ | ⟨c29, h30⟩
            · rcases ite_some h30 with ⟨c31, h32⟩ | ⟨c31, h32⟩
              · obtain ⟨c33, h34⟩ := ob_some h32
                obtain ⟨c35, h36⟩ := ob_some h34
                obtain ⟨c37, h38⟩ := ob_some h36
                obtain ⟨c39, h40⟩ := ob_some h38
                obtain ⟨c41, h42⟩ := ob_some h40
                cases h42
                exact (cnd_f (bfalse c1) (cnd_t c7 (cnd_f (bfalse c9) (cnd_t c15 (cnd_f (bfalse c17) (cnd_t c29 (cnd_t c31 (And.intro c33 (And.intro c35 (And.intro c37 (And.intro c39 (And.intro c41 ⟨rfl, rfl⟩))))))))))))
              · rcases ite_some h32 with ⟨c43, h44⟩ | ⟨c43, h44⟩
                · rcases ite_some h44 with ⟨c45, h46⟩ | ⟨c45, h46⟩
                  · obtain ⟨c47, h48⟩ := ob_some h46
                    rcases ite_some h48 with ⟨c49, h50⟩ | ⟨c49, h50⟩
                    · obtain ⟨c51, h52⟩ := ob_some h50
                      cases h52
                      exact (cnd_f (bfalse c1) (cnd_t c7 (cnd_f (bfalse c9) (cnd_t c15 (cnd_f (bfalse c17) (cnd_t c29 (cnd_f (bfalse c31) (cnd_t c43 (cnd_t c45 (And.intro c47 (cnd_t c49 (And.intro c51 ⟨rfl, rfl⟩))))))))))))
                    · cases h50
                      exact (cnd_f (bfalse c1) (cnd_t c7 (cnd_f (bfalse c9) (cnd_t c15 (cnd_f (bfalse c17) (cnd_t c29 (cnd_f (bfalse c31) (cnd_t c43 (cnd_t c45 (And.intro c47 (cnd_f (bfalse c49) ⟨rfl, rfl⟩)))))))))))
                  · rcases ite_some h46 with ⟨c53, h54⟩ | ⟨c53, h54⟩
                    · rcases ite_some h54 with ⟨c55, h56⟩ | ⟨c55, h56⟩
                      · rcases ite_some h56 with ⟨c57, h58⟩ | ⟨c57, h58⟩
                        · obtain ⟨c59, h60⟩ := ob_some h58
                          obtain ⟨c61, h62⟩ := ob_some h60
                          rcases ite_some h62 with ⟨c63, h64⟩ | ⟨c63, h64⟩
                          · rcases ite_some h64 with ⟨c65, h66⟩ | ⟨c65, h66⟩
                            · rcases ite_some h66 with ⟨c67, h68⟩ | ⟨c67, h68⟩
                              · obtain ⟨c69, h70⟩ := ob_some h68
                                cases h70
                                exact (cnd_f (bfalse c1) (cnd_t c7 (cnd_f (bfalse c9) (cnd_t c15 (cnd_f (bfalse c17) (cnd_t c29 (cnd_f (bfalse c31) (cnd_t c43 (cnd_f (bfalse c45) (cnd_t c53 (cnd_t c55 (cnd_t c57 (And.intro c59 (And.intro c61 (cnd_t c63 (cnd_t c65 (cnd_t c67 (And.intro c69 ⟨rfl, rfl⟩))))))))))))))))))
                              · cases h68
                                exact (cnd_f (bfalse c1) (cnd_t c7 (cnd_f (bfalse c9) (cnd_t c15 (cnd_f (bfalse c17) (cnd_t c29 (cnd_f (bfalse c31) (cnd_t c43 (cnd_f (bfalse c45) (cnd_t c53 (cnd_t c55 (cnd_t c57 (And.intro c59 (And.intro c61 (cnd_t c63 (cnd_t c65 (cnd_f (bfalse c67) ⟨rfl, rfl⟩)))))))))))))))))
                            · cases h66
                              exact (cnd_f (bfalse c1) (cnd_t c7 (cnd_f (bfalse c9) (cnd_t c15 (cnd_f (bfalse c17) (cnd_t c29 (cnd_f (bfalse c31) (cnd_t c43 (cnd_f (bfalse c45) (cnd_t c53 (cnd_t c55 (cnd_t c57 (And.intro c59 (And.intro c61 (cnd_t c63 (cnd_f (bfalse c65) ⟨rfl, rfl⟩))))))))))))))))
                          · rcases ite_some h64 with ⟨c71, h72⟩ | ⟨c71, h72⟩
                            · rcases ite_some h72 with ⟨c73, h74⟩ | ⟨c73, h74⟩
                              · obtain ⟨c75, h76⟩ := ob_some h74
                                cases h76
                                exact (cnd_f (bfalse c1) (cnd_t c7 (cnd_f (bfalse c9) (cnd_t c15 (cnd_f (bfalse c17) (cnd_t c29 (cnd_f (bfalse c31) (cnd_t c43 (cnd_f (bfalse c45) (cnd_t c53 (cnd_t c55 (cnd_t c57 (And.intro c59 (And.intro c61 (cnd_f (bfalse c63) (cnd_t c71 (cnd_t c73 (And.intro c75 ⟨rfl, rfl⟩))))))))))))))))))
                              · cases h74
                                exact (cnd_f (bfalse c1) (cnd_t c7 (cnd_f (bfalse c9) (cnd_t c15 (cnd_f (bfalse c17) (cnd_t c29 (cnd_f (bfalse c31) (cnd_t c43 (cnd_f (bfalse c45) (cnd_t c53 (cnd_t c55 (cnd_t c57 (And.intro c59 (And.intro c61 (cnd_f (bfalse c63) (cnd_t c71 (cnd_f (bfalse c73) ⟨rfl, rfl⟩)))))))))))))))))
                            · cases h72
                              exact (cnd_f (bfalse c1) (cnd_t c7 (cnd_f (bfalse c9) (cnd_t c15 (cnd_f (bfalse c17) (cnd_t c29 (cnd_f (bfalse c31) (cnd_t c43 (cnd_f (bfalse c45) (cnd_t c53 (cnd_t c55 (cnd_t c57 (And.intro c59 (And.intro c61 (cnd_f (bfalse c63) (cnd_f (bfalse c71) ⟨rfl, rfl⟩))))))))))))))))
                        · cases h58
                          exact (cnd_f (bfalse c1) (cnd_t c7 (cnd_f (bfalse c9) (cnd_t c15 (cnd_f (bfalse c17) (cnd_t c29 (cnd_f (bfalse c31) (cnd_t c43 (cnd_f (bfalse c45) (cnd_t c53 (cnd_t c55 (cnd_f (bfalse c57) ⟨rfl, rfl⟩))))))))))))
                      · cases h56
                        exact (cnd_f (bfalse c1) (cnd_t c7 (cnd_f (bfalse c9) (cnd_t c15 (cnd_f (bfalse c17) (cnd_t c29 (cnd_f (bfalse c31) (cnd_t c43 (cnd_f (bfalse c45) (cnd_t c53 (cnd_f (bfalse c55) ⟨rfl, rfl⟩)))))))))))
                    · cases h54
                      exact (cnd_f (bfalse c1) (cnd_t c7 (cnd_f (bfalse c9) (cnd_t c15 (cnd_f (bfalse c17) (cnd_t c29 (cnd_f (bfalse c31) (cnd_t c43 (cnd_f (bfalse c45) (cnd_f (bfalse c53) ⟨rfl, rfl⟩))))))))))
                · rcases ite_some h44 with ⟨c77, h78⟩ | ⟨c77, h78⟩
                  · rcases ite_some h78 with ⟨c79, h80⟩ | ⟨c79, h80⟩
                    · rcases ite_some h80 with ⟨c81, h82⟩ | ⟨c81, h82⟩
                      · obtain ⟨c83, h84⟩ := ob_some h82
                        obtain ⟨c85, h86⟩ := ob_some h84
                        rcases ite_some h86 with ⟨c87, h88⟩ | ⟨c87, h88⟩
                        · rcases ite_some h88 with ⟨c89, h90⟩ | ⟨c89, h90⟩
                          · rcases ite_some h90 with ⟨c91, h92⟩ | ⟨c91, h92⟩
                            · obtain ⟨c93, h94⟩ := ob_some h92
                              cases h94
                              exact (cnd_f (bfalse c1) (cnd_t c7 (cnd_f (bfalse c9) (cnd_t c15 (cnd_f (bfalse c17) (cnd_t c29 (cnd_f (bfalse c31) (cnd_f (bfalse c43) (cnd_t c77 (cnd_t c79 (cnd_t c81 (And.intro c83 (And.intro c85 (cnd_t c87 (cnd_t c89 (cnd_t c91 (And.intro c93 ⟨rfl, rfl⟩)))))))))))))))))
                            · cases h92
                              exact (cnd_f (bfalse c1) (cnd_t c7 (cnd_f (bfalse c9) (cnd_t c15 (cnd_f (bfalse c17) (cnd_t c29 (cnd_f (bfalse c31) (cnd_f (bfalse c43) (cnd_t c77 (cnd_t c79 (cnd_t c81 (And.intro c83 (And.intro c85 (cnd_t c87 (cnd_t c89 (cnd_f (bfalse c91) ⟨rfl, rfl⟩))))))))))))))))
                          · cases h90
                            exact (cnd_f (bfalse c1) (cnd_t c7 (cnd_f (bfalse c9) (cnd_t c15 (cnd_f (bfalse c17) (cnd_t c29 (cnd_f (bfalse c31) (cnd_f (bfalse c43) (cnd_t c77 (cnd_t c79 (cnd_t c81 (And.intro c83 (And.intro c85 (cnd_t c87 (cnd_f (bfalse c89) ⟨rfl, rfl⟩)))))))))))))))
                        · rcases ite_some h88 with ⟨c95, h96⟩ | ⟨c95, h96⟩
                          · rcases ite_some h96 with ⟨c97, h98⟩ | ⟨c97, h98⟩
                            · obtain ⟨c99, h100⟩ := ob_some h98
                              cases h100
                              exact (cnd_f (bfalse c1) (cnd_t c7 (cnd_f (bfalse c9) (cnd_t c15 (cnd_f (bfalse c17) (cnd_t c29 (cnd_f (bfalse c31) (cnd_f (bfalse c43) (cnd_t c77 (cnd_t c79 (cnd_t c81 (And.intro c83 (And.intro c85 (cnd_f (bfalse c87) (cnd_t c95 (cnd_t c97 (And.intro c99 ⟨rfl, rfl⟩)))))))))))))))))
                            · cases h98
                              exact (cnd_f (bfalse c1) (cnd_t c7 (cnd_f (bfalse c9) (cnd_t c15 (cnd_f (bfalse c17) (cnd_t c29 (cnd_f (bfalse c31) (cnd_f (bfalse c43) (cnd_t c77 (cnd_t c79 (cnd_t c81 (And.intro c83 (And.intro c85 (cnd_f (bfalse c87) (cnd_t c95 (cnd_f (bfalse c97) ⟨rfl, rfl⟩))))))))))))))))
                          · cases h96
                            exact (cnd_f (bfalse c1) (cnd_t c7 (cnd_f (bfalse c9) (cnd_t c15 (cnd_f (bfalse c17) (cnd_t c29 (cnd_f (bfalse c31) (cnd_f (bfalse c43) (cnd_t c77 (cnd_t c79 (cnd_t c81 (And.intro c83 (And.intro c85 (cnd_f (bfalse c87) (cnd_f (bfalse c95) ⟨rfl, rfl⟩)))))))))))))))
                      · cases h82
                        exact (cnd_f (bfalse c1) (cnd_t c7 (cnd_f (bfalse c9) (cnd_t c15 (cnd_f (bfalse c17) (cnd_t c29 (cnd_f (bfalse c31) (cnd_f (bfalse c43) (cnd_t c77 (cnd_t c79 (cnd_f (bfalse c81) ⟨rfl, rfl⟩)))))))))))
                    · cases h80
                      exact (cnd_f (bfalse c1) (cnd_t c7 (cnd_f (bfalse c9) (cnd_t c15 (cnd_f (bfalse c17) (cnd_t c29 (cnd_f (bfalse c31) (cnd_f (bfalse c43) (cnd_t c77 (cnd_f (bfalse c79) ⟨rfl, rfl⟩))))))))))
                  · cases h78
                    exact (cnd_f (bfalse c1) (cnd_t c7 (cnd_f (bfalse c9) (cnd_t c15 (cnd_f (bfalse c17) (cnd_t c29 (cnd_f (bfalse c31) (cnd_f (bfalse c43) (cnd_f (bfalse c77) ⟨rfl, rfl⟩)))))))))
            · rcases ite_some h30 with ⟨c101, h102⟩ | ⟨c101, h102⟩
              · rcases ite_some h102 with ⟨c103, h104⟩ | ⟨c103, h104⟩
                · obtain ⟨c105, h106⟩ := ob_some h104
                  rcases ite_some h106 with ⟨c107, h108⟩ | ⟨c107, h108⟩
                  · obtain ⟨c109, h110⟩ := ob_some h108
                    cases h110
                    exact (cnd_f (bfalse c1) (cnd_t c7 (cnd_f (bfalse c9) (cnd_t c15 (cnd_f (bfalse c17) (cnd_f (bfalse c29) (cnd_t c101 (cnd_t c103 (And.intro c105 (cnd_t c107 (And.intro c109 ⟨rfl, rfl⟩)))))))))))
                  · cases h108
                    exact (cnd_f (bfalse c1) (cnd_t c7 (cnd_f (bfalse c9) (cnd_t c15 (cnd_f (bfalse c17) (cnd_f (bfalse c29) (cnd_t c101 (cnd_t c103 (And.intro c105 (cnd_f (bfalse c107) ⟨rfl, rfl⟩))))))))))
                · rcases ite_some h104 with ⟨c111, h112⟩ | ⟨c111, h112⟩
                  · rcases ite_some h112 with ⟨c113, h114⟩ | ⟨c113, h114⟩
                    · rcases ite_some h114 with ⟨c115, h116⟩ | ⟨c115, h116⟩
                      · obtain ⟨c117, h118⟩ := ob_some h116
                        obtain ⟨c119, h120⟩ := ob_some h118
                        rcases ite_some h120 with ⟨c121, h122⟩ | ⟨c121, h122⟩
                        · rcases ite_some h122 with ⟨c123, h124⟩ | ⟨c123, h124⟩
                          · rcases ite_some h124 with ⟨c125, h126⟩ | ⟨c125, h126⟩
                            · obtain ⟨c127, h128⟩ := ob_some h126
                              cases h128
                              exact (cnd_f (bfalse c1) (cnd_t c7 (cnd_f (bfalse c9) (cnd_t c15 (cnd_f (bfalse c17) (cnd_f (bfalse c29) (cnd_t c101 (cnd_f (bfalse c103) (cnd_t c111 (cnd_t c113 (cnd_t c115 (And.intro c117 (And.intro c119 (cnd_t c121 (cnd_t c123 (cnd_t c125 (And.intro c127 ⟨rfl, rfl⟩)))))))))))))))))
                            · cases h126
                              exact (cnd_f (bfalse c1) (cnd_t c7 (cnd_f (bfalse c9) (cnd_t c15 (cnd_f (bfalse c17) (cnd_f (bfalse c29) (cnd_t c101 (cnd_f (bfalse c103) (cnd_t c111 (cnd_t c113 (cnd_t c115 (And.intro c117 (And.intro c119 (cnd_t c121 (cnd_t c123 (cnd_f (bfalse c125) ⟨rfl, rfl⟩))))))))))))))))
                          · cases h124
                            exact (cnd_f (bfalse c1) (cnd_t c7 (cnd_f (bfalse c9) (cnd_t c15 (cnd_f (bfalse c17) (cnd_f (bfalse c29) (cnd_t c101 (cnd_f (bfalse c103) (cnd_t c111 (cnd_t c113 (cnd_t c115 (And.intro c117 (And.intro c119 (cnd_t c121 (cnd_f (bfalse c123) ⟨rfl, rfl⟩)))))))))))))))
                        · rcases ite_some h122 with ⟨c129, h130⟩ | ⟨c129, h130⟩
                          · rcases ite_some h130 with ⟨c131, h132⟩ | ⟨c131, h132⟩
                            · obtain ⟨c133, h134⟩ := ob_some h132
                              cases h134
                              exact (cnd_f (bfalse c1) (cnd_t c7 (cnd_f (bfalse c9) (cnd_t c15 (cnd_f (bfalse c17) (cnd_f (bfalse c29) (cnd_t c101 (cnd_f (bfalse c103) (cnd_t c111 (cnd_t c113 (cnd_t c115 (And.intro c117 (And.intro c119 (cnd_f (bfalse c121) (cnd_t c129 (cnd_t c131 (And.intro c133 ⟨rfl, rfl⟩)))))))))))))))))
                            · cases h132
                              exact (cnd_f (bfalse c1) (cnd_t c7 (cnd_f (bfalse c9) (cnd_t c15 (cnd_f (bfalse c17) (cnd_f (bfalse c29) (cnd_t c101 (cnd_f (bfalse c103) (cnd_t c111 (cnd_t c113 (cnd_t c115 (And.intro c117 (And.intro c119 (cnd_f (bfalse c121) (cnd_t c129 (cnd_f (bfalse c131) ⟨rfl, rfl⟩))))))))))))))))
                          · cases h130
                            exact (cnd_f (bfalse c1) (cnd_t c7 (cnd_f (bfalse c9) (cnd_t c15 (cnd_f (bfalse c17) (cnd_f (bfalse c29) (cnd_t c101 (cnd_f (bfalse c103) (cnd_t c111 (cnd_t c113 (cnd_t c115 (And.intro c117 (And.intro c119 (cnd_f (bfalse c121) (cnd_f (bfalse c129) ⟨rfl, rfl⟩)))))))))))))))
                      · cases h116
                        exact (cnd_f (bfalse c1) (cnd_t c7 (cnd_f (bfalse c9) (cnd_t c15 (cnd_f (bfalse c17) (cnd_f (bfalse c29) (cnd_t c101 (cnd_f (bfalse c103) (cnd_t c111 (cnd_t c113 (cnd_f (bfalse c115) ⟨rfl, rfl⟩)))))))))))
                    · cases h114
                      exact (cnd_f (bfalse c1) (cnd_t c7 (cnd_f (bfalse c9) (cnd_t c15 (cnd_f (bfalse c17) (cnd_f (bfalse c29) (cnd_t c101 (cnd_f (bfalse c103) (cnd_t c111 (cnd_f (bfalse c113) ⟨rfl, rfl⟩))))))))))
                  · cases h112
                    exact (cnd_f (bfalse c1) (cnd_t c7 (cnd_f (bfalse c9) (cnd_t c15 (cnd_f (bfalse c17) (cnd_f (bfalse c29) (cnd_t c101 (cnd_f (bfalse c103) (cnd_f (bfalse c111) ⟨rfl, rfl⟩)))))))))
              · rcases ite_some h102 with ⟨c135, h136⟩ | ⟨c135, h136⟩
                · rcases ite_some h136 with ⟨c137, h138⟩ | ⟨c137, h138⟩
                  · rcases ite_some h138 with ⟨c139, h140⟩ | ⟨c139, h140⟩
                    · obtain ⟨c141, h142⟩ := ob_some h140
                      obtain ⟨c143, h144⟩ := ob_some h142
                      rcases ite_some h144 with ⟨c145, h146⟩ | ⟨c145, h146⟩
                      · rcases ite_some h146 with ⟨c147, h148⟩ | ⟨c147, h148⟩
                        · rcases ite_some h148 with ⟨c149, h150⟩ | ⟨c149, h150⟩
                          · obtain ⟨c151, h152⟩ := ob_some h150
                            cases h152
                            exact (cnd_f (bfalse c1) (cnd_t c7 (cnd_f (bfalse c9) (cnd_t c15 (cnd_f (bfalse c17) (cnd_f (bfalse c29) (cnd_f (bfalse c101) (cnd_t c135 (cnd_t c137 (cnd_t c139 (And.intro c141 (And.intro c143 (cnd_t c145 (cnd_t c147 (cnd_t c149 (And.intro c151 ⟨rfl, rfl⟩))))))))))))))))
                          · cases h150
                            exact (cnd_f (bfalse c1) (cnd_t c7 (cnd_f (bfalse c9) (cnd_t c15 (cnd_f (bfalse c17) (cnd_f (bfalse c29) (cnd_f (bfalse c101) (cnd_t c135 (cnd_t c137 (cnd_t c139 (And.intro c141 (And.intro c143 (cnd_t c145 (cnd_t c147 (cnd_f (bfalse c149) ⟨rfl, rfl⟩)))))))))))))))
                        · cases h148
                          exact (cnd_f (bfalse c1) (cnd_t c7 (cnd_f (bfalse c9) (cnd_t c15 (cnd_f (bfalse c17) (cnd_f (bfalse c29) (cnd_f (bfalse c101) (cnd_t c135 (cnd_t c137 (cnd_t c139 (And.intro c141 (And.intro c143 (cnd_t c145 (cnd_f (bfalse c147) ⟨rfl, rfl⟩))))))))))))))
                      · rcases ite_some h146 with ⟨c153, h154⟩ | ⟨c153, h154⟩
                        · rcases ite_some h154 with ⟨c155, h156⟩ | ⟨c155, h156⟩
                          · obtain ⟨c157, h158⟩ := ob_some h156
                            cases h158
                            exact (cnd_f (bfalse c1) (cnd_t c7 (cnd_f (bfalse c9) (cnd_t c15 (cnd_f (bfalse c17) (cnd_f (bfalse c29) (cnd_f (bfalse c101) (cnd_t c135 (cnd_t c137 (cnd_t c139 (And.intro c141 (And.intro c143 (cnd_f (bfalse c145) (cnd_t c153 (cnd_t c155 (And.intro c157 ⟨rfl, rfl⟩))))))))))))))))
                          · cases h156
                            exact (cnd_f (bfalse c1) (cnd_t c7 (cnd_f (bfalse c9) (cnd_t c15 (cnd_f (bfalse c17) (cnd_f (bfalse c29) (cnd_f (bfalse c101) (cnd_t c135 (cnd_t c137 (cnd_t c139 (And.intro c141 (And.intro c143 (cnd_f (bfalse c145) (cnd_t c153 (cnd_f (bfalse c155) ⟨rfl, rfl⟩)))))))))))))))
                        · cases h154
                          exact (cnd_f (bfalse c1) (cnd_t c7 (cnd_f (bfalse c9) (cnd_t c15 (cnd_f (bfalse c17) (cnd_f (bfalse c29) (cnd_f (bfalse c101) (cnd_t c135 (cnd_t c137 (cnd_t c139 (And.intro c141 (And.intro c143 (cnd_f (bfalse c145) (cnd_f (bfalse c153) ⟨rfl, rfl⟩))))))))))))))
                    · cases h140
                      exact (cnd_f (bfalse c1) (cnd_t c7 (cnd_f (bfalse c9) (cnd_t c15 (cnd_f (bfalse c17) (cnd_f (bfalse c29) (cnd_f (bfalse c101) (cnd_t c135 (cnd_t c137 (cnd_f (bfalse c139) ⟨rfl, rfl⟩))))))))))
                  · cases h138
                    exact (cnd_f (bfalse c1) (cnd_t c7 (cnd_f (bfalse c9) (cnd_t c15 (cnd_f (bfalse c17) (cnd_f (bfalse c29) (cnd_f (bfalse c101) (cnd_t c135 (cnd_f (bfalse c137) ⟨rfl, rfl⟩)))))))))
                · cases h136
                  exact (cnd_f (bfalse c1) (cnd_t c7 (cnd_f (bfalse c9) (cnd_t c15 (cnd_f (bfalse c17) (cnd_f (bfalse c29) (cnd_f (bfalse c101) (cnd_f (bfalse c135) ⟨rfl, rfl⟩))))))))
        · rcases ite_some h16 with ⟨c159, h160⟩ | ⟨c159, h160⟩
          · rcases ite_some h160 with ⟨c161, h162⟩ | ⟨c161, h162⟩
            · obtain ⟨c163, h164⟩ := ob_some h162
              obtain ⟨c165, h166⟩ := ob_some h164
              obtain ⟨c167, h168⟩ := ob_some h166
              obtain ⟨c169, h170⟩ := ob_some h168
              obtain ⟨c171, h172⟩ := ob_some h170
              cases h172
              exact (cnd_f (bfalse c1) (cnd_t c7 (cnd_f (bfalse c9) (cnd_f (bfalse c15) (cnd_t c159 (cnd_t c161 (And.intro c163 (And.intro c165 (And.intro c167 (And.intro c169 (And.intro c171 ⟨rfl, rfl⟩)))))))))))
            · rcases ite_some h162 with ⟨c173, h174⟩ | ⟨c173, h174⟩
              · rcases ite_some h174 with ⟨c175, h176⟩ | ⟨c175, h176⟩
                · obtain ⟨c177, h178⟩ := ob_some h176
                  rcases ite_some h178 with ⟨c179, h180⟩ | ⟨c179, h180⟩
                  · obtain ⟨c181, h182⟩ := ob_some h180
                    cases h182
                    exact (cnd_f (bfalse c1) (cnd_t c7 (cnd_f (bfalse c9) (cnd_f (bfalse c15) (cnd_t c159 (cnd_f (bfalse c161) (cnd_t c173 (cnd_t c175 (And.intro c177 (cnd_t c179 (And.intro c181 ⟨rfl, rfl⟩)))))))))))
                  · cases h180
                    exact (cnd_f (bfalse c1) (cnd_t c7 (cnd_f (bfalse c9) (cnd_f (bfalse c15) (cnd_t c159 (cnd_f (bfalse c161) (cnd_t c173 (cnd_t c175 (And.intro c177 (cnd_f (bfalse c179) ⟨rfl, rfl⟩))))))))))
                · rcases ite_some h176 with ⟨c183, h184⟩ | ⟨c183, h184⟩
                  · rcases ite_some h184 with ⟨c185, h186⟩ | ⟨c185, h186⟩
                    · rcases ite_some h186 with ⟨c187, h188⟩ | ⟨c187, h188⟩
                      · obtain ⟨c189, h190⟩ := ob_some h188
                        obtain ⟨c191, h192⟩ := ob_some h190
                        rcases ite_some h192 with ⟨c193, h194⟩ | ⟨c193, h194⟩
                        · rcases ite_some h194 with ⟨c195, h196⟩ | ⟨c195, h196⟩
                          · rcases ite_some h196 with ⟨c197, h198⟩ | ⟨c197, h198⟩
                            · obtain ⟨c199, h200⟩ := ob_some h198
                              cases h200
                              exact (cnd_f (bfalse c1) (cnd_t c7 (cnd_f (bfalse c9) (cnd_f (bfalse c15) (cnd_t c159 (cnd_f (bfalse c161) (cnd_t c173 (cnd_f (bfalse c175) (cnd_t c183 (cnd_t c185 (cnd_t c187 (And.intro c189 (And.intro c191 (cnd_t c193 (cnd_t c195 (cnd_t c197 (And.intro c199 ⟨rfl, rfl⟩)))))))))))))))))
                            · cases h198
                              exact (cnd_f (bfalse c1) (cnd_t c7 (cnd_f (bfalse c9) (cnd_f (bfalse c15) (cnd_t c159 (cnd_f (bfalse c161) (cnd_t c173 (cnd_f (bfalse c175) (cnd_t c183 (cnd_t c185 (cnd_t c187 (And.intro c189 (And.intro c191 (cnd_t c193 (cnd_t c195 (cnd_f (bfalse c197) ⟨rfl, rfl⟩))))))))))))))))
                          · cases h196
                            exact (cnd_f (bfalse c1) (cnd_t c7 (cnd_f (bfalse c9) (cnd_f (bfalse c15) (cnd_t c159 (cnd_f (bfalse c161) (cnd_t c173 (cnd_f (bfalse c175) (cnd_t c183 (cnd_t c185 (cnd_t c187 (And.intro c189 (And.intro c191 (cnd_t c193 (cnd_f (bfalse c195) ⟨rfl, rfl⟩)))))))))))))))
                        · rcases ite_some h194 with ⟨c201, h202⟩ | ⟨c201, h202⟩
                          · rcases ite_some h202 with ⟨c203, h204⟩ | ⟨c203, h204⟩
                            · obtain ⟨c205, h206⟩ := ob_some h204
                              cases h206
                              exact (cnd_f (bfalse c1) (cnd_t c7 (cnd_f (bfalse c9) (cnd_f (bfalse c15) (cnd_t c159 (cnd_f (bfalse c161) (cnd_t c173 (cnd_f (bfalse c175) (cnd_t c183 (cnd_t c185 (cnd_t c187 (And.intro c189 (And.intro c191 (cnd_f (bfalse c193) (cnd_t c201 (cnd_t c203 (And.intro c205 ⟨rfl, rfl⟩)))))))))))))))))
                            · cases h204
                              exact (cnd_f (bfalse c1) (cnd_t c7 (cnd_f (bfalse c9) (cnd_f (bfalse c15) (cnd_t c159 (cnd_f (bfalse c161) (cnd_t c173 (cnd_f (bfalse c175) (cnd_t c183 (cnd_t c185 (cnd_t c187 (And.intro c189 (And.intro c191 (cnd_f (bfalse c193) (cnd_t c201 (cnd_f (bfalse c203) ⟨rfl, rfl⟩))))))))))))))))
                          · cases h202
                            exact (cnd_f (bfalse c1) (cnd_t c7 (cnd_f (bfalse c9) (cnd_f (bfalse c15) (cnd_t c159 (cnd_f (bfalse c161) (cnd_t c173 (cnd_f (bfalse c175) (cnd_t c183 (cnd_t c185 (cnd_t c187 (And.intro c189 (And.intro c191 (cnd_f (bfalse c193) (cnd_f (bfalse c201) ⟨rfl, rfl⟩)))))))))))))))
                      · cases h188
                        exact (cnd_f (bfalse c1) (cnd_t c7 (cnd_f (bfalse c9) (cnd_f (bfalse c15) (cnd_t c159 (cnd_f (bfalse c161) (cnd_t c173 (cnd_f (bfalse c175) (cnd_t c183 (cnd_t c185 (cnd_f (bfalse c187) ⟨rfl, rfl⟩)))))))))))
                    · cases h186
                      exact (cnd_f (bfalse c1) (cnd_t c7 (cnd_f (bfalse c9) (cnd_f (bfalse c15) (cnd_t c159 (cnd_f (bfalse c161) (cnd_t c173 (cnd_f (bfalse c175) (cnd_t c183 (cnd_f (bfalse c185) ⟨rfl, rfl⟩))))))))))
                  · cases h184
                    exact (cnd_f (bfalse c1) (cnd_t c7 (cnd_f (bfalse c9) (cnd_f (bfalse c15) (cnd_t c159 (cnd_f (bfalse c161) (cnd_t c173 (cnd_f (bfalse c175) (cnd_f (bfalse c183) ⟨rfl, rfl⟩)))))))))
              · rcases ite_some h174 with ⟨c207, h208⟩ | ⟨c207, h208⟩
                · rcases ite_some h208 with ⟨c209, h210⟩ | ⟨c209, h210⟩
                  · rcases ite_some h210 with ⟨c211, h212⟩ | ⟨c211, h212⟩
                    · obtain ⟨c213, h214⟩ := ob_some h212
                      obtain ⟨c215, h216⟩ := ob_some h214
                      rcases ite_some h216 with ⟨c217, h218⟩ | ⟨c217, h218⟩
                      · rcases ite_some h218 with ⟨c219, h220⟩ | ⟨c219, h220⟩
                        · rcases ite_some h220 with ⟨c221, h222⟩ | ⟨c221, h222⟩
                          · obtain ⟨c223, h224⟩ := ob_some h222
                            cases h224
                            exact (cnd_f (bfalse c1) (cnd_t c7 (cnd_f (bfalse c9) (cnd_f (bfalse c15) (cnd_t c159 (cnd_f (bfalse c161) (cnd_f (bfalse c173) (cnd_t c207 (cnd_t c209 (cnd_t c211 (And.intro c213 (And.intro c215 (cnd_t c217 (cnd_t c219 (cnd_t c221 (And.intro c223 ⟨rfl, rfl⟩))))))))))))))))
                          · cases h222
                            exact (cnd_f (bfalse c1) (cnd_t c7 (cnd_f (bfalse c9) (cnd_f (bfalse c15) (cnd_t c159 (cnd_f (bfalse c161) (cnd_f (bfalse c173) (cnd_t c207 (cnd_t c209 (cnd_t c211 (And.intro c213 (And.intro c215 (cnd_t c217 (cnd_t c219 (cnd_f (bfalse c221) ⟨rfl, rfl⟩)))))))))))))))
                        · cases h220
                          exact (cnd_f (bfalse c1) (cnd_t c7 (cnd_f (bfalse c9) (cnd_f (bfalse c15) (cnd_t c159 (cnd_f (bfalse c161) (cnd_f (bfalse c173) (cnd_t c207 (cnd_t c209 (cnd_t c211 (And.intro c213 (And.intro c215 (cnd_t c217 (cnd_f (bfalse c219) ⟨rfl, rfl⟩))))))))))))))
                      · rcases ite_some h218 with ⟨c225, h226⟩ | ⟨c225, h226⟩
                        · rcases ite_some h226 with ⟨c227, h228⟩ | ⟨c227, h228⟩
                          · obtain ⟨c229, h230⟩ := ob_some h228
                            cases h230
                            exact (cnd_f (bfalse c1) (cnd_t c7 (cnd_f (bfalse c9) (cnd_f (bfalse c15) (cnd_t c159 (cnd_f (bfalse c161) (cnd_f (bfalse c173) (cnd_t c207 (cnd_t c209 (cnd_t c211 (And.intro c213 (And.intro c215 (cnd_f (bfalse c217) (cnd_t c225 (cnd_t c227 (And.intro c229 ⟨rfl, rfl⟩))))))))))))))))
                          · cases h228
                            exact (cnd_f (bfalse c1) (cnd_t c7 (cnd_f (bfalse c9) (cnd_f (bfalse c15) (cnd_t c159 (cnd_f (bfalse c161) (cnd_f (bfalse c173) (cnd_t c207 (cnd_t c209 (cnd_t c211 (And.intro c213 (And.intro c215 (cnd_f (bfalse c217) (cnd_t c225 (cnd_f (bfalse c227) ⟨rfl, rfl⟩)))))))))))))))
                        · cases h226
                          exact (cnd_f (bfalse c1) (cnd_t c7 (cnd_f (bfalse c9) (cnd_f (bfalse c15) (cnd_t c159 (cnd_f (bfalse c161) (cnd_f (bfalse c173) (cnd_t c207 (cnd_t c209 (cnd_t c211 (And.intro c213 (And.intro c215 (cnd_f (bfalse c217) (cnd_f (bfalse c225) ⟨rfl, rfl⟩))))))))))))))
                    · cases h212
                      exact (cnd_f (bfalse c1) (cnd_t c7 (cnd_f (bfalse c9) (cnd_f (bfalse c15) (cnd_t c159 (cnd_f (bfalse c161) (cnd_f (bfalse c173) (cnd_t c207 (cnd_t c209 (cnd_f (bfalse c211) ⟨rfl, rfl⟩))))))))))
                  · cases h210
                    exact (cnd_f (bfalse c1) (cnd_t c7 (cnd_f (bfalse c9) (cnd_f (bfalse c15) (cnd_t c159 (cnd_f (bfalse c161) (cnd_f (bfalse c173) (cnd_t c207 (cnd_f (bfalse c209) ⟨rfl, rfl⟩)))))))))
                · cases h208
                  exact (cnd_f (bfalse c1) (cnd_t c7 (cnd_f (bfalse c9) (cnd_f (bfalse c15) (cnd_t c159 (cnd_f (bfalse c161) (cnd_f (bfalse c173) (cnd_f (bfalse c207) ⟨rfl, rfl⟩))))))))
          · rcases ite_some h160 with ⟨c231, h232⟩ | ⟨c231, h232⟩
            · rcases ite_some h232 with ⟨c233, h234⟩ | ⟨c233, h234⟩
              · obtain ⟨c235, h236⟩ := ob_some h234
                rcases ite_some h236 with ⟨c237, h238⟩ | ⟨c237, h238⟩
                · obtain ⟨c239, h240⟩ := ob_some h238
                  cases h240
                  exact (cnd_f (bfalse c1) (cnd_t c7 (cnd_f (bfalse c9) (cnd_f (bfalse c15) (cnd_f (bfalse c159) (cnd_t c231 (cnd_t c233 (And.intro c235 (cnd_t c237 (And.intro c239 ⟨rfl, rfl⟩))))))))))
                · cases h238
                  exact (cnd_f (bfalse c1) (cnd_t c7 (cnd_f (bfalse c9) (cnd_f (bfalse c15) (cnd_f (bfalse c159) (cnd_t c231 (cnd_t c233 (And.intro c235 (cnd_f (bfalse c237) ⟨rfl, rfl⟩)))))))))
              · rcases ite_some h234 with ⟨c241, h242⟩ | ⟨c241, h242⟩
                · rcases ite_some h242 with ⟨c243, h244⟩ | ⟨c243, h244⟩
                  · rcases ite_some h244 with ⟨c245, h246⟩ | ⟨c245, h246⟩
                    · obtain ⟨c247, h248⟩ := ob_some h246
                      obtain ⟨c249, h250⟩ := ob_some h248
                      rcases ite_some h250 with ⟨c251, h252⟩ | ⟨c251, h252⟩
                      · rcases ite_some h252 with ⟨c253, h254⟩ | ⟨c253, h254⟩
                        · rcases ite_some h254 with ⟨c255, h256⟩ | ⟨c255, h256⟩
                          · obtain ⟨c257, h258⟩ := ob_some h256
                            cases h258
                            exact (cnd_f (bfalse c1) (cnd_t c7 (cnd_f (bfalse c9) (cnd_f (bfalse c15) (cnd_f (bfalse c159) (cnd_t c231 (cnd_f (bfalse c233) (cnd_t c241 (cnd_t c243 (cnd_t c245 (And.intro c247 (And.intro c249 (cnd_t c251 (cnd_t c253 (cnd_t c255 (And.intro c257 ⟨rfl, rfl⟩))))))))))))))))
                          · cases h256
                            exact (cnd_f (bfalse c1) (cnd_t c7 (cnd_f (bfalse c9) (cnd_f (bfalse c15) (cnd_f (bfalse c159) (cnd_t c231 (cnd_f (bfalse c233) (cnd_t c241 (cnd_t c243 (cnd_t c245 (And.intro c247 (And.intro c249 (cnd_t c251 (cnd_t c253 (cnd_f (bfalse c255) ⟨rfl, rfl⟩)))))))))))))))
                        · cases h254
                          exact (cnd_f (bfalse c1) (cnd_t c7 (cnd_f (bfalse c9) (cnd_f (bfalse c15) (cnd_f (bfalse c159) (cnd_t c231 (cnd_f (bfalse c233) (cnd_t c241 (cnd_t c243 (cnd_t c245 (And.intro c247 (And.intro c249 (cnd_t c251 (cnd_f (bfalse c253) ⟨rfl, rfl⟩))))))))))))))
                      · rcases ite_some h252 with ⟨c259, h260⟩ | ⟨c259, h260⟩
                        · rcases ite_some h260 with ⟨c261, h262⟩ | ⟨c261, h262⟩
                          · obtain ⟨c263, h264⟩ := ob_some h262
                            cases h264
                            exact (cnd_f (bfalse c1) (cnd_t c7 (cnd_f (bfalse c9) (cnd_f (bfalse c15) (cnd_f (bfalse c159) (cnd_t c231 (cnd_f (bfalse c233) (cnd_t c241 (cnd_t c243 (cnd_t c245 (And.intro c247 (And.intro c249 (cnd_f (bfalse c251) (cnd_t c259 (cnd_t c261 (And.intro c263 ⟨rfl, rfl⟩))))))))))))))))
                          · cases h262
                            exact (cnd_f (bfalse c1) (cnd_t c7 (cnd_f (bfalse c9) (cnd_f (bfalse c15) (cnd_f (bfalse c159) (cnd_t c231 (cnd_f (bfalse c233) (cnd_t c241 (cnd_t c243 (cnd_t c245 (And.intro c247 (And.intro c249 (cnd_f (bfalse c251) (cnd_t c259 (cnd_f (bfalse c261) ⟨rfl, rfl⟩)))))))))))))))
                        · cases h260
                          exact (cnd_f (bfalse c1) (cnd_t c7 (cnd_f (bfalse c9) (cnd_f (bfalse c15) (cnd_f (bfalse c159) (cnd_t c231 (cnd_f (bfalse c233) (cnd_t c241 (cnd_t c243 (cnd_t c245 (And.intro c247 (And.intro c249 (cnd_f (bfalse c251) (cnd_f (bfalse c259) ⟨rfl, rfl⟩))))))))))))))
                    · cases h246
                      exact (cnd_f (bfalse c1) (cnd_t c7 (cnd_f (bfalse c9) (cnd_f (bfalse c15) (cnd_f (bfalse c159) (cnd_t c231 (cnd_f (bfalse c233) (cnd_t c241 (cnd_t c243 (cnd_f (bfalse c245) ⟨rfl, rfl⟩))))))))))
                  · cases h244
                    exact (cnd_f (bfalse c1) (cnd_t c7 (cnd_f (bfalse c9) (cnd_f (bfalse c15) (cnd_f (bfalse c159) (cnd_t c231 (cnd_f (bfalse c233) (cnd_t c241 (cnd_f (bfalse c243) ⟨rfl, rfl⟩)))))))))
                · cases h242
                  exact (cnd_f (bfalse c1) (cnd_t c7 (cnd_f (bfalse c9) (cnd_f (bfalse c15) (cnd_f (bfalse c159) (cnd_t c231 (cnd_f (bfalse c233) (cnd_f (bfalse c241) ⟨rfl, rfl⟩))))))))
            · rcases ite_some h232 with ⟨c265, h266⟩ | ⟨c265, h266⟩
              · rcases ite_some h266 with ⟨c267, h268⟩ | ⟨c267, h268⟩
                · rcases ite_some h268 with ⟨c269, h270⟩ | ⟨c269, h270⟩
                  · obtain ⟨c271, h272⟩ := ob_some h270
                    obtain ⟨c273, h274⟩ := ob_some h272
                    rcases ite_some h274 with ⟨c275, h276⟩ | ⟨c275, h276⟩
                    · rcases ite_some h276 with ⟨c277, h278⟩ | ⟨c277, h278⟩
                      · rcases ite_some h278 with ⟨c279, h280⟩ | ⟨c279, h280⟩
                        · obtain ⟨c281, h282⟩ := ob_some h280
                          cases h282
                          exact (cnd_f (bfalse c1) (cnd_t c7 (cnd_f (bfalse c9) (cnd_f (bfalse c15) (cnd_f (bfalse c159) (cnd_f (bfalse c231) (cnd_t c265 (cnd_t c267 (cnd_t c269 (And.intro c271 (And.intro c273 (cnd_t c275 (cnd_t c277 (cnd_t c279 (And.intro c281 ⟨rfl, rfl⟩)))))))))))))))
                        · cases h280
                          exact (cnd_f (bfalse c1) (cnd_t c7 (cnd_f (bfalse c9) (cnd_f (bfalse c15) (cnd_f (bfalse c159) (cnd_f (bfalse c231) (cnd_t c265 (cnd_t c267 (cnd_t c269 (And.intro c271 (And.intro c273 (cnd_t c275 (cnd_t c277 (cnd_f (bfalse c279) ⟨rfl, rfl⟩))))))))))))))
                      · cases h278
                        exact (cnd_f (bfalse c1) (cnd_t c7 (cnd_f (bfalse c9) (cnd_f (bfalse c15) (cnd_f (bfalse c159) (cnd_f (bfalse c231) (cnd_t c265 (cnd_t c267 (cnd_t c269 (And.intro c271 (And.intro c273 (cnd_t c275 (cnd_f (bfalse c277) ⟨rfl, rfl⟩)))))))))))))
                    · rcases ite_some h276 with ⟨c283, h284⟩ | ⟨c283, h284⟩
                      · rcases ite_some h284 with ⟨c285, h286⟩ | ⟨c285, h286⟩
                        · obtain ⟨c287, h288⟩ := ob_some h286
                          cases h288
                          exact (cnd_f (bfalse c1) (cnd_t c7 (cnd_f (bfalse c9) (cnd_f (bfalse c15) (cnd_f (bfalse c159) (cnd_f (bfalse c231) (cnd_t c265 (cnd_t c267 (cnd_t c269 (And.intro c271 (And.intro c273 (cnd_f (bfalse c275) (cnd_t c283 (cnd_t c285 (And.intro c287 ⟨rfl, rfl⟩)))))))))))))))
                        · cases h286
                          exact (cnd_f (bfalse c1) (cnd_t c7 (cnd_f (bfalse c9) (cnd_f (bfalse c15) (cnd_f (bfalse c159) (cnd_f (bfalse c231) (cnd_t c265 (cnd_t c267 (cnd_t c269 (And.intro c271 (And.intro c273 (cnd_f (bfalse c275) (cnd_t c283 (cnd_f (bfalse c285) ⟨rfl, rfl⟩))))))))))))))
                      · cases h284
                        exact (cnd_f (bfalse c1) (cnd_t c7 (cnd_f (bfalse c9) (cnd_f (bfalse c15) (cnd_f (bfalse c159) (cnd_f (bfalse c231) (cnd_t c265 (cnd_t c267 (cnd_t c269 (And.intro c271 (And.intro c273 (cnd_f (bfalse c275) (cnd_f (bfalse c283) ⟨rfl, rfl⟩)))))))))))))
                  · cases h270
                    exact (cnd_f (bfalse c1) (cnd_t c7 (cnd_f (bfalse c9) (cnd_f (bfalse c15) (cnd_f (bfalse c159) (cnd_f (bfalse c231) (cnd_t c265 (cnd_t c267 (cnd_f (bfalse c269) ⟨rfl, rfl⟩)))))))))
                · cases h268
                  exact (cnd_f (bfalse c1) (cnd_t c7 (cnd_f (bfalse c9) (cnd_f (bfalse c15) (cnd_f (bfalse c159) (cnd_f (bfalse c231) (cnd_t c265 (cnd_f (bfalse c267) ⟨rfl, rfl⟩))))))))
              · cases h266
                exact (cnd_f (bfalse c1) (cnd_t c7 (cnd_f (bfalse c9) (cnd_f (bfalse c15) (cnd_f (bfalse c159) (cnd_f (bfalse c231) (cnd_f (bfalse c265) ⟨rfl, rfl⟩)))))))
    · rcases ite_some h8 with ⟨c289, h290⟩ | ⟨c289, h290⟩
      · rcases ite_some h290 with ⟨c291, h292⟩ | ⟨c291, h292⟩
        · obtain ⟨c293, h294⟩ := ob_some h292
          obtain ⟨c295, h296⟩ := ob_some h294
          obtain ⟨c297, h298⟩ := ob_some h296
          obtain ⟨c299, h300⟩ := ob_some h298
          obtain ⟨c301, h302⟩ := ob_some h300
          cases h302
          exact (cnd_f (bfalse c1) (cnd_f (bfalse c7) (cnd_t c289 (cnd_t c291 (And.intro c293 (And.intro c295 (And.intro c297 (And.intro c299 (And.intro c301 ⟨rfl, rfl⟩)))))))))
        · rcases ite_some h292 with ⟨c303, h304⟩ | ⟨c303, h304⟩
          · rcases ite_some h304 with ⟨c305, h306⟩ | ⟨c305, h306⟩
            · obtain ⟨c307, h308⟩ := ob_some h306
              obtain ⟨c309, h310⟩ := ob_some h308
              obtain ⟨c311, h312⟩ := ob_some h310
              obtain ⟨c313, h314⟩ := ob_some h312
              obtain ⟨c315, h316⟩ := ob_some h314
              cases h316
              exact (cnd_f (bfalse c1) (cnd_f (bfalse c7) (cnd_t c289 (cnd_f (bfalse c291) (cnd_t c303 (cnd_t c305 (And.intro c307 (And.intro c309 (And.intro c311 (And.intro c313 (And.intro c315 ⟨rfl, rfl⟩)))))))))))
            · rcases ite_some h306 with ⟨c317, h318⟩ | ⟨c317, h318⟩
              · rcases ite_some h318 with ⟨c319, h320⟩ | ⟨c319, h320⟩
                · obtain ⟨c321, h322⟩ := ob_some h320
                  rcases ite_some h322 with ⟨c323, h324⟩ | ⟨c323, h324⟩
                  · obtain ⟨c325, h326⟩ := ob_some h324
                    cases h326
                    exact (cnd_f (bfalse c1) (cnd_f (bfalse c7) (cnd_t c289 (cnd_f (bfalse c291) (cnd_t c303 (cnd_f (bfalse c305) (cnd_t c317 (cnd_t c319 (And.intro c321 (cnd_t c323 (And.intro c325 ⟨rfl, rfl⟩)))))))))))
                  · cases h324
                    exact (cnd_f (bfalse c1) (cnd_f (bfalse c7) (cnd_t c289 (cnd_f (bfalse c291) (cnd_t c303 (cnd_f (bfalse c305) (cnd_t c317 (cnd_t c319 (And.intro c321 (cnd_f (bfalse c323) ⟨rfl, rfl⟩))))))))))
                · rcases ite_some h320 with ⟨c327, h328⟩ | ⟨c327, h328⟩
                  · rcases ite_some h328 with ⟨c329, h330⟩ | ⟨c329, h330⟩
                    · rcases ite_some h330 with ⟨c331, h332⟩ | ⟨c331, h332⟩
                      · obtain ⟨c333, h334⟩ := ob_some h332
                        obtain ⟨c335, h336⟩ := ob_some h334
                        rcases ite_some h336 with ⟨c337, h338⟩ | ⟨c337, h338⟩
                        · rcases ite_some h338 with ⟨c339, h340⟩ | ⟨c339, h340⟩
                          · rcases ite_some h340 with ⟨c341, h342⟩ | ⟨c341, h342⟩
                            · obtain ⟨c343, h344⟩ := ob_some h342
                              cases h344
                              exact (cnd_f (bfalse c1) (cnd_f (bfalse c7) (cnd_t c289 (cnd_f (bfalse c291) (cnd_t c303 (cnd_f (bfalse c305) (cnd_t c317 (cnd_f (bfalse c319) (cnd_t c327 (cnd_t c329 (cnd_t c331 (And.intro c333 (And.intro c335 (cnd_t c337 (cnd_t c339 (cnd_t c341 (And.intro c343 ⟨rfl, rfl⟩)))))))))))))))))
                            · cases h342
                              exact (cnd_f (bfalse c1) (cnd_f (bfalse c7) (cnd_t c289 (cnd_f (bfalse c291) (cnd_t c303 (cnd_f (bfalse c305) (cnd_t c317 (cnd_f (bfalse c319) (cnd_t c327 (cnd_t c329 (cnd_t c331 (And.intro c333 (And.intro c335 (cnd_t c337 (cnd_t c339 (cnd_f (bfalse c341) ⟨rfl, rfl⟩))))))))))))))))
                          · cases h340
                            exact (cnd_f (bfalse c1) (cnd_f (bfalse c7) (cnd_t c289 (cnd_f (bfalse c291) (cnd_t c303 (cnd_f (bfalse c305) (cnd_t c317 (cnd_f (bfalse c319) (cnd_t c327 (cnd_t c329 (cnd_t c331 (And.intro c333 (And.intro c335 (cnd_t c337 (cnd_f (bfalse c339) ⟨rfl, rfl⟩)))))))))))))))
                        · rcases ite_some h338 with ⟨c345, h346⟩ | ⟨c345, h346⟩
                          · rcases ite_some h346 with ⟨c347, h348⟩ | ⟨c347, h348⟩
                            · obtain ⟨c349, h350⟩ := ob_some h348
                              cases h350
                              exact (cnd_f (bfalse c1) (cnd_f (bfalse c7) (cnd_t c289 (cnd_f (bfalse c291) (cnd_t c303 (cnd_f (bfalse c305) (cnd_t c317 (cnd_f (bfalse c319) (cnd_t c327 (cnd_t c329 (cnd_t c331 (And.intro c333 (And.intro c335 (cnd_f (bfalse c337) (cnd_t c345 (cnd_t c347 (And.intro c349 ⟨rfl, rfl⟩)))))))))))))))))
                            · cases h348
                              exact (cnd_f (bfalse c1) (cnd_f (bfalse c7) (cnd_t c289 (cnd_f (bfalse c291) (cnd_t c303 (cnd_f (bfalse c305) (cnd_t c317 (cnd_f (bfalse c319) (cnd_t c327 (cnd_t c329 (cnd_t c331 (And.intro c333 (And.intro c335 (cnd_f (bfalse c337) (cnd_t c345 (cnd_f (bfalse c347) ⟨rfl, rfl⟩))))))))))))))))
                          · cases h346
                            exact (cnd_f (bfalse c1) (cnd_f (bfalse c7) (cnd_t c289 (cnd_f (bfalse c291) (cnd_t c303 (cnd_f (bfalse c305) (cnd_t c317 (cnd_f (bfalse c319) (cnd_t c327 (cnd_t c329 (cnd_t c331 (And.intro c333 (And.intro c335 (cnd_f (bfalse c337) (cnd_f (bfalse c345) ⟨rfl, rfl⟩)))))))))))))))
                      · cases h332
                        exact (cnd_f (bfalse c1) (cnd_f (bfalse c7) (cnd_t c289 (cnd_f (bfalse c291) (cnd_t c303 (cnd_f (bfalse c305) (cnd_t c317 (cnd_f (bfalse c319) (cnd_t c327 (cnd_t c329 (cnd_f (bfalse c331) ⟨rfl, rfl⟩)))))))))))
                    · cases h330
                      exact (cnd_f (bfalse c1) (cnd_f (bfalse c7) (cnd_t c289 (cnd_f (bfalse c291) (cnd_t c303 (cnd_f (bfalse c305) (cnd_t c317 (cnd_f (bfalse c319) (cnd_t c327 (cnd_f (bfalse c329) ⟨rfl, rfl⟩))))))))))
                  · cases h328
                    exact (cnd_f (bfalse c1) (cnd_f (bfalse c7) (cnd_t c289 (cnd_f (bfalse c291) (cnd_t c303 (cnd_f (bfalse c305) (cnd_t c317 (cnd_f (bfalse c319) (cnd_f (bfalse c327) ⟨rfl, rfl⟩)))))))))
              · rcases ite_some h318 with ⟨c351, h352⟩ | ⟨c351, h352⟩
                · rcases ite_some h352 with ⟨c353, h354⟩ | ⟨c353, h354⟩
                  · rcases ite_some h354 with ⟨c355, h356⟩ | ⟨c355, h356⟩
                    · obtain ⟨c357, h358⟩ := ob_some h356
                      obtain ⟨c359, h360⟩ := ob_some h358
                      rcases ite_some h360 with ⟨c361, h362⟩ | ⟨c361, h362⟩
                      · rcases ite_some h362 with ⟨c363, h364⟩ | ⟨c363, h364⟩
                        · rcases ite_some h364 with ⟨c365, h366⟩ | ⟨c365, h366⟩
                          · obtain ⟨c367, h368⟩ := ob_some h366
                            cases h368
                            exact (cnd_f (bfalse c1) (cnd_f (bfalse c7) (cnd_t c289 (cnd_f (bfalse c291) (cnd_t c303 (cnd_f (bfalse c305) (cnd_f (bfalse c317) (cnd_t c351 (cnd_t c353 (cnd_t c355 (And.intro c357 (And.intro c359 (cnd_t c361 (cnd_t c363 (cnd_t c365 (And.intro c367 ⟨rfl, rfl⟩))))))))))))))))
                          · cases h366
                            exact (cnd_f (bfalse c1) (cnd_f (bfalse c7) (cnd_t c289 (cnd_f (bfalse c291) (cnd_t c303 (cnd_f (bfalse c305) (cnd_f (bfalse c317) (cnd_t c351 (cnd_t c353 (cnd_t c355 (And.intro c357 (And.intro c359 (cnd_t c361 (cnd_t c363 (cnd_f (bfalse c365) ⟨rfl, rfl⟩)))))))))))))))
                        · cases h364
                          exact (cnd_f (bfalse c1) (cnd_f (bfalse c7) (cnd_t c289 (cnd_f (bfalse c291) (cnd_t c303 (cnd_f (bfalse c305) (cnd_f (bfalse c317) (cnd_t c351 (cnd_t c353 (cnd_t c355 (And.intro c357 (And.intro c359 (cnd_t c361 (cnd_f (bfalse c363) ⟨rfl, rfl⟩))))))))))))))
                      · rcases ite_some h362 with ⟨c369, h370⟩ | ⟨c369, h370⟩
                        · rcases ite_some h370 with ⟨c371, h372⟩ | ⟨c371, h372⟩
                          · obtain ⟨c373, h374⟩ := ob_some h372
                            cases h374
                            exact (cnd_f (bfalse c1) (cnd_f (bfalse c7) (cnd_t c289 (cnd_f (bfalse c291) (cnd_t c303 (cnd_f (bfalse c305) (cnd_f (bfalse c317) (cnd_t c351 (cnd_t c353 (cnd_t c355 (And.intro c357 (And.intro c359 (cnd_f (bfalse c361) (cnd_t c369 (cnd_t c371 (And.intro c373 ⟨rfl, rfl⟩))))))))))))))))
                          · cases h372
                            exact (cnd_f (bfalse c1) (cnd_f (bfalse c7) (cnd_t c289 (cnd_f (bfalse c291) (cnd_t c303 (cnd_f (bfalse c305) (cnd_f (bfalse c317) (cnd_t c351 (cnd_t c353 (cnd_t c355 (And.intro c357 (And.intro c359 (cnd_f (bfalse c361) (cnd_t c369 (cnd_f (bfalse c371) ⟨rfl, rfl⟩)))))))))))))))
                        · cases h370
                          exact (cnd_f (bfalse c1) (cnd_f (bfalse c7) (cnd_t c289 (cnd_f (bfalse c291) (cnd_t c303 (cnd_f (bfalse c305) (cnd_f (bfalse c317) (cnd_t c351 (cnd_t c353 (cnd_t c355 (And.intro c357 (And.intro c359 (cnd_f (bfalse c361) (cnd_f (bfalse c369) ⟨rfl, rfl⟩))))))))))))))
                    · cases h356
                      exact (cnd_f (bfalse c1) (cnd_f (bfalse c7) (cnd_t c289 (cnd_f (bfalse c291) (cnd_t c303 (cnd_f (bfalse c305) (cnd_f (bfalse c317) (cnd_t c351 (cnd_t c353 (cnd_f (bfalse c355) ⟨rfl, rfl⟩))))))))))
                  · cases h354
                    exact (cnd_f (bfalse c1) (cnd_f (bfalse c7) (cnd_t c289 (cnd_f (bfalse c291) (cnd_t c303 (cnd_f (bfalse c305) (cnd_f (bfalse c317) (cnd_t c351 (cnd_f (bfalse c353) ⟨rfl, rfl⟩)))))))))
                · cases h352
                  exact (cnd_f (bfalse c1) (cnd_f (bfalse c7) (cnd_t c289 (cnd_f (bfalse c291) (cnd_t c303 (cnd_f (bfalse c305) (cnd_f (bfalse c317) (cnd_f (bfalse c351) ⟨rfl, rfl⟩))))))))
          · rcases ite_some h304 with ⟨c375, h376⟩ | ⟨c375, h376⟩
            · rcases ite_some h376 with ⟨c377, h378⟩ | ⟨c377, h378⟩
              · obtain ⟨c379, h380⟩ := ob_some h378
                rcases ite_some h380 with ⟨c381, h382⟩ | ⟨c381, h382⟩
                · obtain ⟨c383, h384⟩ := ob_some h382
                  cases h384
                  exact (cnd_f (bfalse c1) (cnd_f (bfalse c7) (cnd_t c289 (cnd_f (bfalse c291) (cnd_f (bfalse c303) (cnd_t c375 (cnd_t c377 (And.intro c379 (cnd_t c381 (And.intro c383 ⟨rfl, rfl⟩))))))))))
                · cases h382
                  exact (cnd_f (bfalse c1) (cnd_f (bfalse c7) (cnd_t c289 (cnd_f (bfalse c291) (cnd_f (bfalse c303) (cnd_t c375 (cnd_t c377 (And.intro c379 (cnd_f (bfalse c381) ⟨rfl, rfl⟩)))))))))
              · rcases ite_some h378 with ⟨c385, h386⟩ | ⟨c385, h386⟩
                · rcases ite_some h386 with ⟨c387, h388⟩ | ⟨c387, h388⟩
                  · rcases ite_some h388 with ⟨c389, h390⟩ | ⟨c389, h390⟩
                    · obtain ⟨c391, h392⟩ := ob_some h390
                      obtain ⟨c393, h394⟩ := ob_some h392
                      rcases ite_some h394 with ⟨c395, h396⟩ | ⟨c395, h396⟩
                      · rcases ite_some h396 with ⟨c397, h398⟩ | ⟨c397, h398⟩
                        · rcases ite_some h398 with ⟨c399, h400⟩ | ⟨c399, h400⟩
                          · obtain ⟨c401, h402⟩ := ob_some h400
                            cases h402
                            exact (cnd_f (bfalse c1) (cnd_f (bfalse c7) (cnd_t c289 (cnd_f (bfalse c291) (cnd_f (bfalse c303) (cnd_t c375 (cnd_f (bfalse c377) (cnd_t c385 (cnd_t c387 (cnd_t c389 (And.intro c391 (And.intro c393 (cnd_t c395 (cnd_t c397 (cnd_t c399 (And.intro c401 ⟨rfl, rfl⟩))))))))))))))))
                          · cases h400
                            exact (cnd_f (bfalse c1) (cnd_f (bfalse c7) (cnd_t c289 (cnd_f (bfalse c291) (cnd_f (bfalse c303) (cnd_t c375 (cnd_f (bfalse c377) (cnd_t c385 (cnd_t c387 (cnd_t c389 (And.intro c391 (And.intro c393 (cnd_t c395 (cnd_t c397 (cnd_f (bfalse c399) ⟨rfl, rfl⟩)))))))))))))))
                        · cases h398
                          exact (cnd_f (bfalse c1) (cnd_f (bfalse c7) (cnd_t c289 (cnd_f (bfalse c291) (cnd_f (bfalse c303) (cnd_t c375 (cnd_f (bfalse c377) (cnd_t c385 (cnd_t c387 (cnd_t c389 (And.intro c391 (And.intro c393 (cnd_t c395 (cnd_f (bfalse c397) ⟨rfl, rfl⟩))))))))))))))
                      · rcases ite_some h396 with ⟨c403, h404⟩ | ⟨c403, h404⟩
                        · rcases ite_some h404 with ⟨c405, h406⟩ | ⟨c405, h406⟩
                          · obtain ⟨c407, h408⟩ := ob_some h406
                            cases h408
                            exact (cnd_f (bfalse c1) (cnd_f (bfalse c7) (cnd_t c289 (cnd_f (bfalse c291) (cnd_f (bfalse c303) (cnd_t c375 (cnd_f (bfalse c377) (cnd_t c385 (cnd_t c387 (cnd_t c389 (And.intro c391 (And.intro c393 (cnd_f (bfalse c395) (cnd_t c403 (cnd_t c405 (And.intro c407 ⟨rfl, rfl⟩))))))))))))))))
                          · cases h406
                            exact (cnd_f (bfalse c1) (cnd_f (bfalse c7) (cnd_t c289 (cnd_f (bfalse c291) (cnd_f (bfalse c303) (cnd_t c375 (cnd_f (bfalse c377) (cnd_t c385 (cnd_t c387 (cnd_t c389 (And.intro c391 (And.intro c393 (cnd_f (bfalse c395) (cnd_t c403 (cnd_f (bfalse c405) ⟨rfl, rfl⟩)))))))))))))))
                        · cases h404
                          exact (cnd_f (bfalse c1) (cnd_f (bfalse c7) (cnd_t c289 (cnd_f (bfalse c291) (cnd_f (bfalse c303) (cnd_t c375 (cnd_f (bfalse c377) (cnd_t c385 (cnd_t c387 (cnd_t c389 (And.intro c391 (And.intro c393 (cnd_f (bfalse c395) (cnd_f (bfalse c403) ⟨rfl, rfl⟩))))))))))))))
                    · cases h390
                      exact (cnd_f (bfalse c1) (cnd_f (bfalse c7) (cnd_t c289 (cnd_f (bfalse c291) (cnd_f (bfalse c303) (cnd_t c375 (cnd_f (bfalse c377) (cnd_t c385 (cnd_t c387 (cnd_f (bfalse c389) ⟨rfl, rfl⟩))))))))))
                  · cases h388
                    exact (cnd_f (bfalse c1) (cnd_f (bfalse c7) (cnd_t c289 (cnd_f (bfalse c291) (cnd_f (bfalse c303) (cnd_t c375 (cnd_f (bfalse c377) (cnd_t c385 (cnd_f (bfalse c387) ⟨rfl, rfl⟩)))))))))
                · cases h386
                  exact (cnd_f (bfalse c1) (cnd_f (bfalse c7) (cnd_t c289 (cnd_f (bfalse c291) (cnd_f (bfalse c303) (cnd_t c375 (cnd_f (bfalse c377) (cnd_f (bfalse c385) ⟨rfl, rfl⟩))))))))
            · rcases ite_some h376 with ⟨c409, h410⟩ | ⟨c409, h410⟩
              · rcases ite_some h410 with ⟨c411, h412⟩ | ⟨c411, h412⟩
                · rcases ite_some h412 with ⟨c413, h414⟩ | ⟨c413, h414⟩
                  · obtain ⟨c415, h416⟩ := ob_some h414
                    obtain ⟨c417, h418⟩ := ob_some h416
                    rcases ite_some h418 with ⟨c419, h420⟩ | ⟨c419, h420⟩
                    · rcases ite_some h420 with ⟨c421, h422⟩ | ⟨c421, h422⟩
                      · rcases ite_some h422 with ⟨c423, h424⟩ | ⟨c423, h424⟩
                        · obtain ⟨c425, h426⟩ := ob_some h424
                          cases h426
                          exact (cnd_f (bfalse c1) (cnd_f (bfalse c7) (cnd_t c289 (cnd_f (bfalse c291) (cnd_f (bfalse c303) (cnd_f (bfalse c375) (cnd_t c409 (cnd_t c411 (cnd_t c413 (And.intro c415 (And.intro c417 (cnd_t c419 (cnd_t c421 (cnd_t c423 (And.intro c425 ⟨rfl, rfl⟩)))))))))))))))
                        · cases h424
                          exact (cnd_f (bfalse c1) (cnd_f (bfalse c7) (cnd_t c289 (cnd_f (bfalse c291) (cnd_f (bfalse c303) (cnd_f (bfalse c375) (cnd_t c409 (cnd_t c411 (cnd_t c413 (And.intro c415 (And.intro c417 (cnd_t c419 (cnd_t c421 (cnd_f (bfalse c423) ⟨rfl, rfl⟩))))))))))))))
                      · cases h422
                        exact (cnd_f (bfalse c1) (cnd_f (bfalse c7) (cnd_t c289 (cnd_f (bfalse c291) (cnd_f (bfalse c303) (cnd_f (bfalse c375) (cnd_t c409 (cnd_t c411 (cnd_t c413 (And.intro c415 (And.intro c417 (cnd_t c419 (cnd_f (bfalse c421) ⟨rfl, rfl⟩)))))))))))))
                    · rcases ite_some h420 with ⟨c427, h428⟩ | ⟨c427, h428⟩
                      · rcases ite_some h428 with ⟨c429, h430⟩ | ⟨c429, h430⟩
                        · obtain ⟨c431, h432⟩ := ob_some h430
                          cases h432
                          exact (cnd_f (bfalse c1) (cnd_f (bfalse c7) (cnd_t c289 (cnd_f (bfalse c291) (cnd_f (bfalse c303) (cnd_f (bfalse c375) (cnd_t c409 (cnd_t c411 (cnd_t c413 (And.intro c415 (And.intro c417 (cnd_f (bfalse c419) (cnd_t c427 (cnd_t c429 (And.intro c431 ⟨rfl, rfl⟩)))))))))))))))
                        · cases h430
                          exact (cnd_f (bfalse c1) (cnd_f (bfalse c7) (cnd_t c289 (cnd_f (bfalse c291) (cnd_f (bfalse c303) (cnd_f (bfalse c375) (cnd_t c409 (cnd_t c411 (cnd_t c413 (And.intro c415 (And.intro c417 (cnd_f (bfalse c419) (cnd_t c427 (cnd_f (bfalse c429) ⟨rfl, rfl⟩))))))))))))))
                      · cases h428
                        exact (cnd_f (bfalse c1) (cnd_f (bfalse c7) (cnd_t c289 (cnd_f (bfalse c291) (cnd_f (bfalse c303) (cnd_f (bfalse c375) (cnd_t c409 (cnd_t c411 (cnd_t c413 (And.intro c415 (And.intro c417 (cnd_f (bfalse c419) (cnd_f (bfalse c427) ⟨rfl, rfl⟩)))))))))))))
                  · cases h414
                    exact (cnd_f (bfalse c1) (cnd_f (bfalse c7) (cnd_t c289 (cnd_f (bfalse c291) (cnd_f (bfalse c303) (cnd_f (bfalse c375) (cnd_t c409 (cnd_t c411 (cnd_f (bfalse c413) ⟨rfl, rfl⟩)))))))))
                · cases h412
                  exact (cnd_f (bfalse c1) (cnd_f (bfalse c7) (cnd_t c289 (cnd_f (bfalse c291) (cnd_f (bfalse c303) (cnd_f (bfalse c375) (cnd_t c409 (cnd_f (bfalse c411) ⟨rfl, rfl⟩))))))))
              · cases h410
                exact (cnd_f (bfalse c1) (cnd_f (bfalse c7) (cnd_t c289 (cnd_f (bfalse c291) (cnd_f (bfalse c303) (cnd_f (bfalse c375) (cnd_f (bfalse c409) ⟨rfl, rfl⟩)))))))
      · rcases ite_some h290 with ⟨c433, h434⟩ | ⟨c433, h434⟩
        · rcases ite_some h434 with ⟨c435, h436⟩ | ⟨c435, h436⟩
          · obtain ⟨c437, h438⟩ := ob_some h436
            obtain ⟨c439, h440⟩ := ob_some h438
            obtain ⟨c441, h442⟩ := ob_some h440
            obtain ⟨c443, h444⟩ := ob_some h442
            obtain ⟨c445, h446⟩ := ob_some h444
            cases h446
            exact (cnd_f (bfalse c1) (cnd_f (bfalse c7) (cnd_f (bfalse c289) (cnd_t c433 (cnd_t c435 (And.intro c437 (And.intro c439 (And.intro c441 (And.intro c443 (And.intro c445 ⟨rfl, rfl⟩))))))))))
          · rcases ite_some h436 with ⟨c447, h448⟩ | ⟨c447, h448⟩
            · rcases ite_some h448 with ⟨c449, h450⟩ | ⟨c449, h450⟩
              · obtain ⟨c451, h452⟩ := ob_some h450
                rcases ite_some h452 with ⟨c453, h454⟩ | ⟨c453, h454⟩
                · obtain ⟨c455, h456⟩ := ob_some h454
                  cases h456
                  exact (cnd_f (bfalse c1) (cnd_f (bfalse c7) (cnd_f (bfalse c289) (cnd_t c433 (cnd_f (bfalse c435) (cnd_t c447 (cnd_t c449 (And.intro c451 (cnd_t c453 (And.intro c455 ⟨rfl, rfl⟩))))))))))
                · cases h454
                  exact (cnd_f (bfalse c1) (cnd_f (bfalse c7) (cnd_f (bfalse c289) (cnd_t c433 (cnd_f (bfalse c435) (cnd_t c447 (cnd_t c449 (And.intro c451 (cnd_f (bfalse c453) ⟨rfl, rfl⟩)))))))))
              · rcases ite_some h450 with ⟨c457, h458⟩ | ⟨c457, h458⟩
                · rcases ite_some h458 with ⟨c459, h460⟩ | ⟨c459, h460⟩
                  · rcases ite_some h460 with ⟨c461, h462⟩ | ⟨c461, h462⟩
                    · obtain ⟨c463, h464⟩ := ob_some h462
                      obtain ⟨c465, h466⟩ := ob_some h464
                      rcases ite_some h466 with ⟨c467, h468⟩ | ⟨c467, h468⟩
                      · rcases ite_some h468 with ⟨c469, h470⟩ | ⟨c469, h470⟩
                        · rcases ite_some h470 with ⟨c471, h472⟩ | ⟨c471, h472⟩
                          · obtain ⟨c473, h474⟩ := ob_some h472
                            cases h474
                            exact (cnd_f (bfalse c1) (cnd_f (bfalse c7) (cnd_f (bfalse c289) (cnd_t c433 (cnd_f (bfalse c435) (cnd_t c447 (cnd_f (bfalse c449) (cnd_t c457 (cnd_t c459 (cnd_t c461 (And.intro c463 (And.intro c465 (cnd_t c467 (cnd_t c469 (cnd_t c471 (And.intro c473 ⟨rfl, rfl⟩))))))))))))))))
                          · cases h472
                            exact (cnd_f (bfalse c1) (cnd_f (bfalse c7) (cnd_f (bfalse c289) (cnd_t c433 (cnd_f (bfalse c435) (cnd_t c447 (cnd_f (bfalse c449) (cnd_t c457 (cnd_t c459 (cnd_t c461 (And.intro c463 (And.intro c465 (cnd_t c467 (cnd_t c469 (cnd_f (bfalse c471) ⟨rfl, rfl⟩)))))))))))))))
                        · cases h470
                          exact (cnd_f (bfalse c1) (cnd_f (bfalse c7) (cnd_f (bfalse c289) (cnd_t c433 (cnd_f (bfalse c435) (cnd_t c447 (cnd_f (bfalse c449) (cnd_t c457 (cnd_t c459 (cnd_t c461 (And.intro c463 (And.intro c465 (cnd_t c467 (cnd_f (bfalse c469) ⟨rfl, rfl⟩))))))))))))))
                      · rcases ite_some h468 with ⟨c475, h476⟩ | ⟨c475, h476⟩
                        · rcases ite_some h476 with ⟨c477, h478⟩ | ⟨c477, h478⟩
                          · obtain ⟨c479, h480⟩ := ob_some h478
                            cases h480
                            exact (cnd_f (bfalse c1) (cnd_f (bfalse c7) (cnd_f (bfalse c289) (cnd_t c433 (cnd_f (bfalse c435) (cnd_t c447 (cnd_f (bfalse c449) (cnd_t c457 (cnd_t c459 (cnd_t c461 (And.intro c463 (And.intro c465 (cnd_f (bfalse c467) (cnd_t c475 (cnd_t c477 (And.intro c479 ⟨rfl, rfl⟩))))))))))))))))
                          · cases h478
                            exact (cnd_f (bfalse c1) (cnd_f (bfalse c7) (cnd_f (bfalse c289) (cnd_t c433 (cnd_f (bfalse c435) (cnd_t c447 (cnd_f (bfalse c449) (cnd_t c457 (cnd_t c459 (cnd_t c461 (And.intro c463 (And.intro c465 (cnd_f (bfalse c467) (cnd_t c475 (cnd_f (bfalse c477) ⟨rfl, rfl⟩)))))))))))))))
                        · cases h476
                          exact (cnd_f (bfalse c1) (cnd_f (bfalse c7) (cnd_f (bfalse c289) (cnd_t c433 (cnd_f (bfalse c435) (cnd_t c447 (cnd_f (bfalse c449) (cnd_t c457 (cnd_t c459 (cnd_t c461 (And.intro c463 (And.intro c465 (cnd_f (bfalse c467) (cnd_f (bfalse c475) ⟨rfl, rfl⟩))))))))))))))
                    · cases h462
                      exact (cnd_f (bfalse c1) (cnd_f (bfalse c7) (cnd_f (bfalse c289) (cnd_t c433 (cnd_f (bfalse c435) (cnd_t c447 (cnd_f (bfalse c449) (cnd_t c457 (cnd_t c459 (cnd_f (bfalse c461) ⟨rfl, rfl⟩))))))))))
                  · cases h460
                    exact (cnd_f (bfalse c1) (cnd_f (bfalse c7) (cnd_f (bfalse c289) (cnd_t c433 (cnd_f (bfalse c435) (cnd_t c447 (cnd_f (bfalse c449) (cnd_t c457 (cnd_f (bfalse c459) ⟨rfl, rfl⟩)))))))))
                · cases h458
                  exact (cnd_f (bfalse c1) (cnd_f (bfalse c7) (cnd_f (bfalse c289) (cnd_t c433 (cnd_f (bfalse c435) (cnd_t c447 (cnd_f (bfalse c449) (cnd_f (bfalse c457) ⟨rfl, rfl⟩))))))))
            · rcases ite_some h448 with ⟨c481, h482⟩ | ⟨c481, h482⟩
              · rcases ite_some h482 with ⟨c483, h484⟩ | ⟨c483, h484⟩
                · rcases ite_some h484 with ⟨c485, h486⟩ | ⟨c485, h486⟩
                  · obtain ⟨c487, h488⟩ := ob_some h486
                    obtain ⟨c489, h490⟩ := ob_some h488
                    rcases ite_some h490 with ⟨c491, h492⟩ | ⟨c491, h492⟩
                    · rcases ite_some h492 with ⟨c493, h494⟩ | ⟨c493, h494⟩
                      · rcases ite_some h494 with ⟨c495, h496⟩ | ⟨c495, h496⟩
                        · obtain ⟨c497, h498⟩ := ob_some h496
                          cases h498
                          exact (cnd_f (bfalse c1) (cnd_f (bfalse c7) (cnd_f (bfalse c289) (cnd_t c433 (cnd_f (bfalse c435) (cnd_f (bfalse c447) (cnd_t c481 (cnd_t c483 (cnd_t c485 (And.intro c487 (And.intro c489 (cnd_t c491 (cnd_t c493 (cnd_t c495 (And.intro c497 ⟨rfl, rfl⟩)))))))))))))))
                        · cases h496
                          exact (cnd_f (bfalse c1) (cnd_f (bfalse c7) (cnd_f (bfalse c289) (cnd_t c433 (cnd_f (bfalse c435) (cnd_f (bfalse c447) (cnd_t c481 (cnd_t c483 (cnd_t c485 (And.intro c487 (And.intro c489 (cnd_t c491 (cnd_t c493 (cnd_f (bfalse c495) ⟨rfl, rfl⟩))))))))))))))
                      · cases h494
                        exact (cnd_f (bfalse c1) (cnd_f (bfalse c7) (cnd_f (bfalse c289) (cnd_t c433 (cnd_f (bfalse c435) (cnd_f (bfalse c447) (cnd_t c481 (cnd_t c483 (cnd_t c485 (And.intro c487 (And.intro c489 (cnd_t c491 (cnd_f (bfalse c493) ⟨rfl, rfl⟩)))))))))))))
                    · rcases ite_some h492 with ⟨c499, h500⟩ | ⟨c499, h500⟩
                      · rcases ite_some h500 with ⟨c501, h502⟩ | ⟨c501, h502⟩
                        · obtain ⟨c503, h504⟩ := ob_some h502
                          cases h504
                          exact (cnd_f (bfalse c1) (cnd_f (bfalse c7) (cnd_f (bfalse c289) (cnd_t c433 (cnd_f (bfalse c435) (cnd_f (bfalse c447) (cnd_t c481 (cnd_t c483 (cnd_t c485 (And.intro c487 (And.intro c489 (cnd_f (bfalse c491) (cnd_t c499 (cnd_t c501 (And.intro c503 ⟨rfl, rfl⟩)))))))))))))))
                        · cases h502
                          exact (cnd_f (bfalse c1) (cnd_f (bfalse c7) (cnd_f (bfalse c289) (cnd_t c433 (cnd_f (bfalse c435) (cnd_f (bfalse c447) (cnd_t c481 (cnd_t c483 (cnd_t c485 (And.intro c487 (And.intro c489 (cnd_f (bfalse c491) (cnd_t c499 (cnd_f (bfalse c501) ⟨rfl, rfl⟩))))))))))))))
                      · cases h500
                        exact (cnd_f (bfalse c1) (cnd_f (bfalse c7) (cnd_f (bfalse c289) (cnd_t c433 (cnd_f (bfalse c435) (cnd_f (bfalse c447) (cnd_t c481 (cnd_t c483 (cnd_t c485 (And.intro c487 (And.intro c489 (cnd_f (bfalse c491) (cnd_f (bfalse c499) ⟨rfl, rfl⟩)))))))))))))
                  · cases h486
                    exact (cnd_f (bfalse c1) (cnd_f (bfalse c7) (cnd_f (bfalse c289) (cnd_t c433 (cnd_f (bfalse c435) (cnd_f (bfalse c447) (cnd_t c481 (cnd_t c483 (cnd_f (bfalse c485) ⟨rfl, rfl⟩)))))))))
                · cases h484
                  exact (cnd_f (bfalse c1) (cnd_f (bfalse c7) (cnd_f (bfalse c289) (cnd_t c433 (cnd_f (bfalse c435) (cnd_f (bfalse c447) (cnd_t c481 (cnd_f (bfalse c483) ⟨rfl, rfl⟩))))))))
              · cases h482
                exact (cnd_f (bfalse c1) (cnd_f (bfalse c7) (cnd_f (bfalse c289) (cnd_t c433 (cnd_f (bfalse c435) (cnd_f (bfalse c447) (cnd_f (bfalse c481) ⟨rfl, rfl⟩)))))))
        · rcases ite_some h434 with ⟨c505, h506⟩ | ⟨c505, h506⟩
          · rcases ite_some h506 with ⟨c507, h508⟩ | ⟨c507, h508⟩
            · obtain ⟨c509, h510⟩ := ob_some h508
              rcases ite_some h510 with ⟨c511, h512⟩ | ⟨c511, h512⟩
              · obtain ⟨c513, h514⟩ := ob_some h512
                cases h514
                exact (cnd_f (bfalse c1) (cnd_f (bfalse c7) (cnd_f (bfalse c289) (cnd_f (bfalse c433) (cnd_t c505 (cnd_t c507 (And.intro c509 (cnd_t c511 (And.intro c513 ⟨rfl, rfl⟩)))))))))
              · cases h512
                exact (cnd_f (bfalse c1) (cnd_f (bfalse c7) (cnd_f (bfalse c289) (cnd_f (bfalse c433) (cnd_t c505 (cnd_t c507 (And.intro c509 (cnd_f (bfalse c511) ⟨rfl, rfl⟩))))))))
            · rcases ite_some h508 with ⟨c515, h516⟩ | ⟨c515, h516⟩
              · rcases ite_some h516 with ⟨c517, h518⟩ | ⟨c517, h518⟩
                · rcases ite_some h518 with ⟨c519, h520⟩ | ⟨c519, h520⟩
                  · obtain ⟨c521, h522⟩ := ob_some h520
                    obtain ⟨c523, h524⟩ := ob_some h522
                    rcases ite_some h524 with ⟨c525, h526⟩ | ⟨c525, h526⟩
                    · rcases ite_some h526 with ⟨c527, h528⟩ | ⟨c527, h528⟩
                      · rcases ite_some h528 with ⟨c529, h530⟩ | ⟨c529, h530⟩
                        · obtain ⟨c531, h532⟩ := ob_some h530
                          cases h532
                          exact (cnd_f (bfalse c1) (cnd_f (bfalse c7) (cnd_f (bfalse c289) (cnd_f (bfalse c433) (cnd_t c505 (cnd_f (bfalse c507) (cnd_t c515 (cnd_t c517 (cnd_t c519 (And.intro c521 (And.intro c523 (cnd_t c525 (cnd_t c527 (cnd_t c529 (And.intro c531 ⟨rfl, rfl⟩)))))))))))))))
                        · cases h530
                          exact (cnd_f (bfalse c1) (cnd_f (bfalse c7) (cnd_f (bfalse c289) (cnd_f (bfalse c433) (cnd_t c505 (cnd_f (bfalse c507) (cnd_t c515 (cnd_t c517 (cnd_t c519 (And.intro c521 (And.intro c523 (cnd_t c525 (cnd_t c527 (cnd_f (bfalse c529) ⟨rfl, rfl⟩))))))))))))))
                      · cases h528
                        exact (cnd_f (bfalse c1) (cnd_f (bfalse c7) (cnd_f (bfalse c289) (cnd_f (bfalse c433) (cnd_t c505 (cnd_f (bfalse c507) (cnd_t c515 (cnd_t c517 (cnd_t c519 (And.intro c521 (And.intro c523 (cnd_t c525 (cnd_f (bfalse c527) ⟨rfl, rfl⟩)))))))))))))
                    · rcases ite_some h526 with ⟨c533, h534⟩ | ⟨c533, h534⟩
                      · rcases ite_some h534 with ⟨c535, h536⟩ | ⟨c535, h536⟩
                        · obtain ⟨c537, h538⟩ := ob_some h536
                          cases h538
                          exact (cnd_f (bfalse c1) (cnd_f (bfalse c7) (cnd_f (bfalse c289) (cnd_f (bfalse c433) (cnd_t c505 (cnd_f (bfalse c507) (cnd_t c515 (cnd_t c517 (cnd_t c519 (And.intro c521 (And.intro c523 (cnd_f (bfalse c525) (cnd_t c533 (cnd_t c535 (And.intro c537 ⟨rfl, rfl⟩)))))))))))))))
                        · cases h536
                          exact (cnd_f (bfalse c1) (cnd_f (bfalse c7) (cnd_f (bfalse c289) (cnd_f (bfalse c433) (cnd_t c505 (cnd_f (bfalse c507) (cnd_t c515 (cnd_t c517 (cnd_t c519 (And.intro c521 (And.intro c523 (cnd_f (bfalse c525) (cnd_t c533 (cnd_f (bfalse c535) ⟨rfl, rfl⟩))))))))))))))
                      · cases h534
                        exact (cnd_f (bfalse c1) (cnd_f (bfalse c7) (cnd_f (bfalse c289) (cnd_f (bfalse c433) (cnd_t c505 (cnd_f (bfalse c507) (cnd_t c515 (cnd_t c517 (cnd_t c519 (And.intro c521 (And.intro c523 (cnd_f (bfalse c525) (cnd_f (bfalse c533) ⟨rfl, rfl⟩)))))))))))))
                  · cases h520
                    exact (cnd_f (bfalse c1) (cnd_f (bfalse c7) (cnd_f (bfalse c289) (cnd_f (bfalse c433) (cnd_t c505 (cnd_f (bfalse c507) (cnd_t c515 (cnd_t c517 (cnd_f (bfalse c519) ⟨rfl, rfl⟩)))))))))
                · cases h518
                  exact (cnd_f (bfalse c1) (cnd_f (bfalse c7) (cnd_f (bfalse c289) (cnd_f (bfalse c433) (cnd_t c505 (cnd_f (bfalse c507) (cnd_t c515 (cnd_f (bfalse c517) ⟨rfl, rfl⟩))))))))
              · cases h516
                exact (cnd_f (bfalse c1) (cnd_f (bfalse c7) (cnd_f (bfalse c289) (cnd_f (bfalse c433) (cnd_t c505 (cnd_f (bfalse c507) (cnd_f (bfalse c515) ⟨rfl, rfl⟩)))))))
          · rcases ite_some h506 with ⟨c539, h540⟩ | ⟨c539, h540⟩
            · rcases ite_some h540 with ⟨c541, h542⟩ | ⟨c541, h542⟩
              · rcases ite_some h542 with ⟨c543, h544⟩ | ⟨c543, h544⟩
                · obtain ⟨c545, h546⟩ := ob_some h544
                  obtain ⟨c547, h548⟩ := ob_some h546
                  rcases ite_some h548 with ⟨c549, h550⟩ | ⟨c549, h550⟩
                  · rcases ite_some h550 with ⟨c551, h552⟩ | ⟨c551, h552⟩
                    · rcases ite_some h552 with ⟨c553, h554⟩ | ⟨c553, h554⟩
                      · obtain ⟨c555, h556⟩ := ob_some h554
                        cases h556
                        exact (cnd_f (bfalse c1) (cnd_f (bfalse c7) (cnd_f (bfalse c289) (cnd_f (bfalse c433) (cnd_f (bfalse c505) (cnd_t c539 (cnd_t c541 (cnd_t c543 (And.intro c545 (And.intro c547 (cnd_t c549 (cnd_t c551 (cnd_t c553 (And.intro c555 ⟨rfl, rfl⟩))))))))))))))
                      · cases h554
                        exact (cnd_f (bfalse c1) (cnd_f (bfalse c7) (cnd_f (bfalse c289) (cnd_f (bfalse c433) (cnd_f (bfalse c505) (cnd_t c539 (cnd_t c541 (cnd_t c543 (And.intro c545 (And.intro c547 (cnd_t c549 (cnd_t c551 (cnd_f (bfalse c553) ⟨rfl, rfl⟩)))))))))))))
                    · cases h552
                      exact (cnd_f (bfalse c1) (cnd_f (bfalse c7) (cnd_f (bfalse c289) (cnd_f (bfalse c433) (cnd_f (bfalse c505) (cnd_t c539 (cnd_t c541 (cnd_t c543 (And.intro c545 (And.intro c547 (cnd_t c549 (cnd_f (bfalse c551) ⟨rfl, rfl⟩))))))))))))
                  · rcases ite_some h550 with ⟨c557, h558⟩ | ⟨c557, h558⟩
                    · rcases ite_some h558 with ⟨c559, h560⟩ | ⟨c559, h560⟩
                      · obtain ⟨c561, h562⟩ := ob_some h560
                        cases h562
                        exact (cnd_f (bfalse c1) (cnd_f (bfalse c7) (cnd_f (bfalse c289) (cnd_f (bfalse c433) (cnd_f (bfalse c505) (cnd_t c539 (cnd_t c541 (cnd_t c543 (And.intro c545 (And.intro c547 (cnd_f (bfalse c549) (cnd_t c557 (cnd_t c559 (And.intro c561 ⟨rfl, rfl⟩))))))))))))))
                      · cases h560
                        exact (cnd_f (bfalse c1) (cnd_f (bfalse c7) (cnd_f (bfalse c289) (cnd_f (bfalse c433) (cnd_f (bfalse c505) (cnd_t c539 (cnd_t c541 (cnd_t c543 (And.intro c545 (And.intro c547 (cnd_f (bfalse c549) (cnd_t c557 (cnd_f (bfalse c559) ⟨rfl, rfl⟩)))))))))))))
                    · cases h558
                      exact (cnd_f (bfalse c1) (cnd_f (bfalse c7) (cnd_f (bfalse c289) (cnd_f (bfalse c433) (cnd_f (bfalse c505) (cnd_t c539 (cnd_t c541 (cnd_t c543 (And.intro c545 (And.intro c547 (cnd_f (bfalse c549) (cnd_f (bfalse c557) ⟨rfl, rfl⟩))))))))))))
                · cases h544
                  exact (cnd_f (bfalse c1) (cnd_f (bfalse c7) (cnd_f (bfalse c289) (cnd_f (bfalse c433) (cnd_f (bfalse c505) (cnd_t c539 (cnd_t c541 (cnd_f (bfalse c543) ⟨rfl, rfl⟩))))))))
              · cases h542
                exact (cnd_f (bfalse c1) (cnd_f (bfalse c7) (cnd_f (bfalse c289) (cnd_f (bfalse c433) (cnd_f (bfalse c505) (cnd_t c539 (cnd_f (bfalse c541) ⟨rfl, rfl⟩)))))))
            · cases h540
              exact (cnd_f (bfalse c1) (cnd_f (bfalse c7) (cnd_f (bfalse c289) (cnd_f (bfalse c433) (cnd_f (bfalse c505) (cnd_f (bfalse c539) ⟨rfl, rfl⟩))))))

theorem guess_Part_c1_eq (t : Term) (l : List ColStat) : guess_Part_c1 t l = guess_find (t.kids.getD 0 zeroTerm) l := by unfold guess_Part_c1; rw [Term.eta]
theorem guess_Part_c2_eq (t : Term) (l : List ColStat) : guess_Part_c2 t l = guess_find (t.kids.getD 1 zeroTerm) l := by unfold guess_Part_c2; rw [Term.eta]
theorem find_pre (t : Term) (l : List ColStat) : ((0 ≤ (guess_find t l).1.all ∧ (guess_find t l).1.all ≤ 1000000000000) ∧ (0 ≤ (guess_find t l).1.nulls ∧ (guess_find t l).1.nulls ≤ 1000000000000) ∧ 0 ≤ (guess_find t l).1.others) := by
  unfold guess_find; split
  · rename_i c _; exact ⟨allI_range c, szI_range _, (othersI_range c).1⟩
  · exact ⟨⟨by decide, by decide⟩, ⟨by decide, by decide⟩, by decide⟩
theorem guess_Part_spec (m : Nat) (t : Term) (l : List ColStat) (_h1 : WS .term t) (_h2 : WL .colStat l) (h3 : t.ht < m + 1) : guess_Part_fn m t l = some (guess_Part t l) := by
  have k0 : t.kids.length = 1 ∨ t.kids.length = 2 → (t.kids.getD 0 zeroTerm).ht < m := fun hl => by have := kid0_ht hl; omega
  have k1 : t.kids.length = 2 → (t.kids.getD 1 zeroTerm).ht < m := fun hl => by have := kid1_ht hl; omega
  have r0 := guess_Part_range (t.kids.getD 0 zeroTerm) l
  have r1 := guess_Part_range (t.kids.getD 1 zeroTerm) l
  have hm := mul_million r0 r1
  have p0 : guess_Part_1 0 t l = guess_Part (t.kids.getD 0 zeroTerm) l := rfl
  have p1 : guess_Part_1 1 t l = guess_Part (t.kids.getD 1 zeroTerm) l := rfl
  have l1 : ((t.kids.length : Int) == 1) = decide (t.kids.length = 1) := by rw [Bool.eq_iff_iff, beq_iff_eq, decide_eq_true_eq]; omega
  have l2 : ((t.kids.length : Int) == 2) = decide (t.kids.length = 2) := by rw [Bool.eq_iff_iff, beq_iff_eq, decide_eq_true_eq]; omega
  have f0 := find_pre (t.kids.getD 0 zeroTerm) l
  have f1 := find_pre (t.kids.getD 1 zeroTerm) l
  have b00 : (0 : Int) ≤ 0 := by decide
  have b01 : (0 : Int) ≤ 1 := by decide
  -- the comparison, wherever it stands
  have cmp : (11 ≤ t.op ∧ t.op ≤ 16) → ∀ (X : Option Int), t.kids.length = 2 → X = (if (0 : Int) ≤ (0 : Int) ∧ (0 : Int) < (t.kids.length : Int) then
      if (0 : Int) ≤ (1 : Int) ∧ (1 : Int) < (t.kids.length : Int) then
       if (Term.op (t.kids.getD 0 zeroTerm) == (1 : Int)) = true then
        if ((guess_Part_c2 t l).snd) = true then
         if (Term.op (t.kids.getD 0 zeroTerm) == (1 : Int)) = true then
          if ((0 : Int) ≤ (guess_Part_c2 t l).fst.all ∧ (guess_Part_c2 t l).fst.all ≤ (1000000000000 : Int)) ∧ ((0 : Int) ≤ (guess_Part_c2 t l).fst.nulls ∧ (guess_Part_c2 t l).fst.nulls ≤ (1000000000000 : Int)) ∧ (0 : Int) ≤ (guess_Part_c2 t l).fst.others then
           some (guess_Part_c4 t l)
          else none
         else some ((333333 : Int))
        else some ((333333 : Int))
       else
        if ((guess_Part_c1 t l).snd) = true then
         if (Term.op (t.kids.getD 1 zeroTerm) == (1 : Int)) = true then
          if ((0 : Int) ≤ (guess_Part_c1 t l).fst.all ∧ (guess_Part_c1 t l).fst.all ≤ (1000000000000 : Int)) ∧ ((0 : Int) ≤ (guess_Part_c1 t l).fst.nulls ∧ (guess_Part_c1 t l).fst.nulls ≤ (1000000000000 : Int)) ∧ (0 : Int) ≤ (guess_Part_c1 t l).fst.others then
           some (guess_Part_c5 t l)
          else none
         else some ((333333 : Int))
        else some ((333333 : Int))
      else none
     else none) → X = some (match colOf (sides t).1 l with | some c => (if (sides t).2.1.op = 1 then againstI (sides t).2.2 (knownC c) (sides t).2.1.v else 333333) | none => 333333) := by
    intro hop X hl hX
    rw [hX, if_pos ⟨b00, by omega⟩, if_pos ⟨b01, by omega⟩]
    unfold guess_Part_c4 guess_Part_c5
    rw [guess_Part_c1_eq, guess_Part_c2_eq]
    unfold sides
    by_cases hc : (t.kids.getD 0 zeroTerm).op = 1
    · rw [if_pos (by simpa using hc), if_pos hc]
      simp only [hc, f1, and_self, if_true, beq_self_eq_true]
      unfold guess_find
      cases colOf (t.kids.getD 1 zeroTerm) l <;> simp
    · rw [if_neg (by simpa using hc), if_neg hc]
      simp only [f0, and_self, if_true]
      unfold guess_find
      cases colOf (t.kids.getD 0 zeroTerm) l with
      | none => simp
      | some c => simp only [if_true, beq_iff_eq]; split <;> rfl
  rw [guess_Part_unfold]
  unfold guess_Part_fn
  by_cases h1 : t.op = 1
  · simp only [h1, beq_self_eq_true, if_true]
    by_cases a : t.v.kind = 1 <;> by_cases b : t.v.n = 0 <;> simp [a, b]
  by_cases h4 : t.op = 4
  · by_cases hl : t.kids.length = 1
    · have w1 : IntKind.i64.wrap (1000000 - guess_Part (t.kids.getD 0 zeroTerm) l) = 1000000 - guess_Part (t.kids.getD 0 zeroTerm) l := wrap_id (by omega)
      simp [-List.getD_eq_getElem?_getD, h4, p0, l1, hl, k0 (.inl hl), w1]
    · simp [h4, l1, hl]
  by_cases h17 : t.op = 17
  · by_cases hl : t.kids.length = 2
    · have w1 : IntKind.i64.wrap (guess_Part (t.kids.getD 0 zeroTerm) l * guess_Part (t.kids.getD 1 zeroTerm) l) = guess_Part (t.kids.getD 0 zeroTerm) l * guess_Part (t.kids.getD 1 zeroTerm) l := wrap_id (by omega)
      have w2 : (guess_Part (t.kids.getD 0 zeroTerm) l * guess_Part (t.kids.getD 1 zeroTerm) l).tdiv 1000000 = guess_Part (t.kids.getD 0 zeroTerm) l * guess_Part (t.kids.getD 1 zeroTerm) l / 1000000 := Int.tdiv_eq_ediv_of_nonneg hm.1.1
      have w3 : IntKind.i64.wrap (guess_Part (t.kids.getD 0 zeroTerm) l * guess_Part (t.kids.getD 1 zeroTerm) l / 1000000) = guess_Part (t.kids.getD 0 zeroTerm) l * guess_Part (t.kids.getD 1 zeroTerm) l / 1000000 := wrap_id (by omega)
      simp [-List.getD_eq_getElem?_getD, h17, p0, p1, l2, hl, k0 (.inr hl), k1 hl, w1, w2, w3]
    · simp [h17, l2, hl]
  by_cases h18 : t.op = 18
  · by_cases hl : t.kids.length = 2
    · have w1 : IntKind.i64.wrap (guess_Part (t.kids.getD 0 zeroTerm) l * guess_Part (t.kids.getD 1 zeroTerm) l) = guess_Part (t.kids.getD 0 zeroTerm) l * guess_Part (t.kids.getD 1 zeroTerm) l := wrap_id (by omega)
      have w2 : (guess_Part (t.kids.getD 0 zeroTerm) l * guess_Part (t.kids.getD 1 zeroTerm) l).tdiv 1000000 = guess_Part (t.kids.getD 0 zeroTerm) l * guess_Part (t.kids.getD 1 zeroTerm) l / 1000000 := Int.tdiv_eq_ediv_of_nonneg hm.1.1
      have w3 : IntKind.i64.wrap (guess_Part (t.kids.getD 0 zeroTerm) l * guess_Part (t.kids.getD 1 zeroTerm) l / 1000000) = guess_Part (t.kids.getD 0 zeroTerm) l * guess_Part (t.kids.getD 1 zeroTerm) l / 1000000 := wrap_id (by omega)
      have w4 : IntKind.i64.wrap (guess_Part (t.kids.getD 0 zeroTerm) l + guess_Part (t.kids.getD 1 zeroTerm) l) = guess_Part (t.kids.getD 0 zeroTerm) l + guess_Part (t.kids.getD 1 zeroTerm) l := wrap_id (by omega)
      have w5 : IntKind.i64.wrap (guess_Part (t.kids.getD 0 zeroTerm) l + guess_Part (t.kids.getD 1 zeroTerm) l - guess_Part (t.kids.getD 0 zeroTerm) l * guess_Part (t.kids.getD 1 zeroTerm) l / 1000000) = guess_Part (t.kids.getD 0 zeroTerm) l + guess_Part (t.kids.getD 1 zeroTerm) l - guess_Part (t.kids.getD 0 zeroTerm) l * guess_Part (t.kids.getD 1 zeroTerm) l / 1000000 := wrap_id (by omega)
      simp [-List.getD_eq_getElem?_getD, h18, p0, p1, l2, hl, k0 (.inr hl), k1 hl, w1, w2, w3, w4, w5]
    · simp [h18, l2, hl]
  by_cases h19 : t.op = 19
  · by_cases hl : t.kids.length = 1
    · have e3 : guess_Part_c3 t l = shareA (guess_find (t.kids.getD 0 zeroTerm) l).1.all (guess_find (t.kids.getD 0 zeroTerm) l).1.nulls := by unfold guess_Part_c3; rw [guess_Part_c1_eq]; rfl
      simp [-List.getD_eq_getElem?_getD, h19, l1, hl, guess_Part_c1_eq, e3, f0]
      unfold guess_find
      cases colOf (t.kids.getD 0 zeroTerm) l <;> simp [-List.getD_eq_getElem?_getD, knownC]
    · simp [h19, l1, hl]
  by_cases hop : 11 ≤ t.op ∧ t.op ≤ 16
  · have g1 : (t.op == 1) = false := by simpa using h1
    have g4 : (t.op == 4) = false := by simpa using h4
    have g17 : (t.op == 17) = false := by simpa using h17
    have g18 : (t.op == 18) = false := by simpa using h18
    have g19 : (t.op == 19) = false := by simpa using h19
    simp only [g1, g4, g17, g18, g19, h1, h4, h17, h18, h19, Bool.false_eq_true, if_false, false_and, hop.1, hop.2, ge_iff_le, decide_true, if_true, true_and, and_self, l2]
    by_cases hl : t.kids.length = 2
    · rw [if_pos (by simpa using hl), if_pos hl]
      exact cmp hop _ hl rfl
    · rw [if_neg (by simpa using hl), if_neg hl]
  · have g1 : (t.op == 1) = false := by simpa using h1
    have g4 : (t.op == 4) = false := by simpa using h4
    have g17 : (t.op == 17) = false := by simpa using h17
    have g18 : (t.op == 18) = false := by simpa using h18
    have g19 : (t.op == 19) = false := by simpa using h19
    simp only [g1, g4, g17, g18, g19, h1, h4, h17, h18, h19, Bool.false_eq_true, if_false, false_and, hop, decide_eq_true_eq]
    split
    · rw [if_neg (by omega)]
    · rfl

theorem okm_guess_Part (m : Nat) (h_guess_Part : FnOK 10 (Fm_guess_Part m)) : FnOK 10 (Fm_guess_Part (m + 1)) := by
  intro args ob rs os h hob
  unfold Fm_guess_Part at h
  split at h
  · simp only [Option.bind_eq_some_iff, Option.some.injEq, Prod.mk.injEq] at h
    obtain ⟨t, e0, l, e1, rfl, rfl, rfl⟩ := h
    obtain rfl := dS_eq e0
    obtain rfl := dL_eq e1
    exact ⟨fn_contract (M := (M_guess_Part m)) rfl (tbl_ok (l1 := [(22, F_guess_find), (23, F_column_share), (24, F_guess_turned), (25, F_guess_against)]) (l2 := []) (l3 := [(21, L_guess_Part_1 m)]) (l4 := []) ⟨ok_guess_find, ok_column_share, ok_guess_turned, ok_guess_against, trivial⟩ trivial ⟨(okL_guess_Part_1 m h_guess_Part), trivial⟩ trivial) Try.func10 (by kernel_rfl) N_guess_Part 0 [.d] (fun hwf => guess_Part_run (guess_Part_spec m t l (wfArg hwf (a := .d (.agg (enc Ty.term t))) (List.mem_of_getElem? (i := 0) rfl)) (wfArg hwf (a := .d (.v (.dat (U := Un) Ty.colStat l))) (List.mem_of_getElem? (i := 1) rfl)) (hob _ (List.mem_of_getElem? (i := 0) rfl)))), hasBody_of Try.func10 (by kernel_rfl) (by kernel_rfl)⟩
  · simp at h


theorem okAll_gPart : ∀ m, FnOK 10 (Fm_guess_Part m)
  | 0 => by
    skip
    intro args ob rs os h hob
    unfold Fm_guess_Part at h
    split at h
    · simp only [Option.bind_eq_some_iff, Option.some.injEq, Prod.mk.injEq] at h
      obtain ⟨_, _, _, _, rfl, _, _⟩ := h
      exact absurd (hob _ (List.mem_of_getElem? (i := 0) rfl)) (Nat.not_lt_zero _)
    · simp at h
  | m + 1 => by
    have ih := okAll_gPart m
    exact okm_guess_Part m ih

def F_guess_Part : FnC Un := fun args => match args with
  | [x0, x1] => (dS .term x0).bind fun t => (dL .colStat x1).bind fun l => some ([], A_guess_Part (guess_Part t l), O_guess_Part (guess_Part t l))
  | _ => none

theorem ok_guess_Part : FnOK 10 F_guess_Part := by
  intro args ob rs os h hob
  unfold F_guess_Part at h
  split at h
  · simp only [Option.bind_eq_some_iff, Option.some.injEq, Prod.mk.injEq] at h
    obtain ⟨t, e0, l, e1, rfl, rfl, rfl⟩ := h
    refine ((okAll_gPart (t.ht + 1))) _ ((t.ht < t.ht + 1) :: []) _ _ (?_ : Fm_guess_Part (t.ht + 1) _ = some _) ?_
    · unfold Fm_guess_Part
      simp only [e0, e1, Option.bind_some]
    · intro p hp
      rcases List.mem_cons.1 hp with rfl | hp
      · exact Nat.lt_succ_self _
      · exact hob p hp
  · simp at h

end
end Go.Proofs.Ytjndihloefdplaa.B
