/- Functions: agg2. (Printed by wip/tools/mkfn.py out of wip/src/agg2.src.) -/
import Derived.Test.YtpaelnkffpmfaaaBAwf
import Derived.Test.YtpaelnkffpmfaaaSspec
import Derived.Test.YtpaelnkffpmfaaaSnum
import Derived.Test.YtpaelnkffpmfaaaSvalue
import Derived.Test.YtpaelnkffpmfaaaSvcmp
import Derived.Test.YtpaelnkffpmfaaaSaggspec
import Derived.Test.YtpaelnkffpmfaaaSagg1
import Derived.Test.YtpaelnkffpmfaaaLclone
import Derived.Test.YtpaelnkffpmfaaaLinsert
namespace Go.Proofs.Ytpaelnkffpmfaaa.B
open Go Go.RowKit
set_option maxRecDepth 100000
noncomputable section
attribute [local irreducible] awp ctxK itersK iterK retQ retGQ awf ctxF loopF

/-! ### slices.BinarySearchFunc[[]api.Value,api.Value,api.Value] -/
def M_bsearch_val : Mc Un := mach (tbl []) (tbl []) (tbl []) (tbl []) (tbl [])
def A_bsearch_val (r : Int × Bool) : List (A Un) := [.c (.s (.int .i64 r.1)), .c (.s (.bool r.2))]
def O_bsearch_val (_r : Int × Bool) : List (Ob Un) := []
def R_bsearch_val (r : Int × Bool) : RF Un := (A_bsearch_val r, O_bsearch_val r)
def N_bsearch_val : Nat → NS := fun l => (look l [(3, { ts := bl 49 1813, bs := bl 49 16, nm := [] })]).getD ⟨[], [], [], [], []⟩
def bsearch_val_s3 (x : List Val) (t : Val) (p : Val → Val → Int) (v0 : Int) (v1 : Int) : S Un := (st 49 49 196 0 [(0, al .val x), (2, AV.one (A.c (C.fv (fv_S_val_S_val_to_i_i64 p)))), (4, ax 4), (8, ai (↑x.length : Int)), (9, ai v0), (10, ai v1)] [(4, bg .val t)] [])
def bsearch_val_B3 : Code := sub (bodyOf Try.f29) [1, 1, 1, 0, 2, 2]
def bsearch_val_L3 : S Un → Option (EX Un) := loopF (N_bsearch_val 3) (fun s Q => awf M_bsearch_val N_bsearch_val bsearch_val_B3 s Q)
def bsearch_val_C3 : Exit → S Un → Option (RF Un) := ctxF M_bsearch_val N_bsearch_val (bodyOf Try.f29) [1, 1, 1, 0, 2] (retF M_bsearch_val Try.f29.results.toList [.d, .d])
def bsearch_val_fn (x : List Val) (t : Val) (p : Val → Val → Int) : Option (RF Un) := awf M_bsearch_val N_bsearch_val (bodyOf Try.f29) (entry Try.f29.ntmps 0 [.d (.v (.dat (U := Un) Ty.val x)), .d (.agg (enc Ty.val t)), .fn (fv_S_val_S_val_to_i_i64 p)]) (retF M_bsearch_val Try.f29.results.toList [.d, .d])
theorem bsearch_val_in (x : List Val) (t : Val) (p : Val → Val → Int) : bsearch_val_fn x t p =
 (bsearch_val_L3 (bsearch_val_s3 x t p (0 : Int) (↑x.length : Int))).bind (thenX bsearch_val_C3) := by kernel_rfl
theorem bsearch_val_l3 (x : List Val) (t : Val) (p : Val → Val → Int) (v0 : Int) (v1 : Int) : bsearch_val_L3 (bsearch_val_s3 x t p v0 v1) =
 cndO (decide (v0 < v1))
  (obO (¬(1 : Int) < (0 : Int))
   (obO (0 ≤ IntKind.i64.wrap ((IntKind.u64.wrap (IntKind.i64.wrap (v0 + v1))).fdiv ((2 : Int) ^ min 1 IntKind.u64.bits)) ∧ IntKind.i64.wrap ((IntKind.u64.wrap (IntKind.i64.wrap (v0 + v1))).fdiv ((2 : Int) ^ min 1 IntKind.u64.bits)) < (↑x.length : Int))
    (cndO (decide (p (x.getD (IntKind.i64.wrap ((IntKind.u64.wrap (IntKind.i64.wrap (v0 + v1))).fdiv ((2 : Int) ^ min 1 IntKind.u64.bits))).toNat zeroVal) t < 0))
     (bsearch_val_L3 (bsearch_val_s3 x t p (IntKind.i64.wrap (IntKind.i64.wrap ((IntKind.u64.wrap (IntKind.i64.wrap (v0 + v1))).fdiv ((2 : Int) ^ min 1 IntKind.u64.bits)) + 1)) v1))
     (bsearch_val_L3 (bsearch_val_s3 x t p v0 (IntKind.i64.wrap ((IntKind.u64.wrap (IntKind.i64.wrap (v0 + v1))).fdiv ((2 : Int) ^ min 1 IntKind.u64.bits))))))))
  (some (.exit 0, (bsearch_val_s3 x t p v0 v1))) := (loopF_eq (N_bsearch_val 3) bsearch_val_B3 _).trans (by kernel_rfl)
theorem bsearch_val_a3_x0 (x : List Val) (t : Val) (p : Val → Val → Int) (v0 : Int) (v1 : Int) : bsearch_val_C3 (.exit 0) (bsearch_val_s3 x t p v0 v1) =
 cndO (decide (v0 < (↑x.length : Int)))
  (obO (0 ≤ v0 ∧ v0 < (↑x.length : Int))
   (some (R_bsearch_val (v0, p (x.getD v0.toNat zeroVal) t == 0))))
  (some (R_bsearch_val (v0, false))) := by kernel_rfl

/-- As many elements stand ahead of t. -/
def posP (p : Val → Val → Int) (x : List Val) (t : Val) : Nat := (x.takeWhile fun y => decide (p y t < 0)).length
/-- Behind these none does. -/
def PartP (p : Val → Val → Int) (x : List Val) (t : Val) : Prop := x.length ≤ 1000000000 ∧ ∀ i, posP p x t ≤ i → i < x.length → ¬ p (x.getD i zeroVal) t < 0
def bsearch_val (x : List Val) (t : Val) (p : Val → Val → Int) : Int × Bool := (posP p x t, decide (posP p x t < x.length) && p (x.getD (posP p x t) zeroVal) t == 0)
theorem takeWhile_get {p : Val → Bool} : ∀ (l : List Val) (i : Nat), i < (l.takeWhile p).length → p (l.getD i zeroVal) = true
  | [], i, h => by simp at h
  | y :: l, i, h => by
    rw [List.takeWhile_cons] at h
    split at h
    · rename_i hy
      cases i with
      | zero => simpa using hy
      | succ i => simp only [List.length_cons] at h; simpa using takeWhile_get l i (by omega)
    · simp at h
theorem posP_le (p : Val → Val → Int) (x : List Val) (t : Val) : posP p x t ≤ x.length := (List.takeWhile_sublist _).length_le
theorem half_eq {a b : Int} (ha : 0 ≤ a) (hb : 0 ≤ b) (h : a + b ≤ 4000000000) : IntKind.i64.wrap ((IntKind.u64.wrap (IntKind.i64.wrap (a + b))).fdiv ((2 : Int) ^ min 1 IntKind.u64.bits)) = (a + b) / 2 := by
  have e1 : IntKind.i64.wrap (a + b) = a + b := wrap_id (by omega)
  have e2 : IntKind.u64.wrap (a + b) = a + b := by
    have hb : IntKind.u64.bits = 64 := rfl
    have hs : IntKind.u64.signed = false := rfl
    unfold IntKind.wrap
    simp only [hb, hs, Bool.false_and, Bool.false_eq_true, if_false]
    omega
  have e3 : ((2 : Int) ^ min 1 IntKind.u64.bits) = 2 := by decide
  rw [e1, e2, e3, Int.fdiv_eq_ediv_of_nonneg _ (by decide)]
  exact wrap_id (by omega)
theorem bsearch_loop (x : List Val) (t : Val) (p : Val → Val → Int) (h : PartP p x t) : ∀ (k a b : Nat), b - a = k → a ≤ posP p x t → posP p x t ≤ b → b ≤ x.length →
    bsearch_val_L3 (bsearch_val_s3 x t p a b) = some (.exit 0, bsearch_val_s3 x t p (posP p x t : Nat) (posP p x t : Nat)) := by
  intro k
  induction k using Nat.strongRecOn with
  | _ k ih =>
    intro a b hk h1 h2 h3
    have hl := h.1
    rw [bsearch_val_l3]
    simp only [cndO_eq, obO_eq, half_eq (a := (a : Int)) (b := (b : Int)) (by omega) (by omega) (by omega)]
    by_cases hab : (a : Int) < b
    · obtain ⟨c, hc⟩ : ∃ c : Nat, ((a : Int) + b) / 2 = c := ⟨(a + b) / 2, by omega⟩
      have hc2 : c = (a + b) / 2 := by omega
      rw [hc]
      have hcl : (c : Int) < x.length := by omega
      rw [if_pos (by simpa using hab), if_pos (by decide), if_pos ⟨by omega, hcl⟩, Int.toNat_natCast]
      by_cases hp : p (x.getD c zeroVal) t < 0
      · have : c < posP p x t := by
          rcases Nat.lt_or_ge c (posP p x t) with g | g
          · exact g
          · exact (h.2 c g (by omega) hp).elim
        rw [if_pos (by simpa using hp), wrap_id (by omega)]
        exact ih (b - (c + 1)) (by omega) (c + 1) b rfl (by omega) h2 h3
      · have : posP p x t ≤ c := by
          rcases Nat.lt_or_ge c (posP p x t) with g | g
          · have := takeWhile_get (p := fun y => decide (p y t < 0)) x c g
            simp only [decide_eq_true_eq] at this
            exact (hp this).elim
          · exact g
        rw [if_neg (by simpa using hp)]
        exact ih (c - a) (by omega) a c rfl h1 this (by omega)
    · rw [if_neg (by simpa using hab)]
      have e1 : a = posP p x t := by omega
      have e2 : b = posP p x t := by omega
      rw [e1, e2]
theorem bsearch_val_spec (x : List Val) (t : Val) (p : Val → Val → Int) (_hx : WL .val x) (_ht : WS .val t) (h : PartP p x t) : bsearch_val_fn x t p = some (R_bsearch_val (bsearch_val x t p)) := by
  rw [bsearch_val_in]
  have hl := bsearch_loop x t p h x.length 0 x.length rfl (Nat.zero_le _) (posP_le p x t) (Nat.le_refl _)
  erw [hl]
  simp only [Option.bind_some, thenX, bsearch_val_a3_x0, cndO_eq, obO_eq, Int.toNat_natCast]
  unfold bsearch_val
  by_cases hp : posP p x t < x.length
  · have : (posP p x t : Int) < x.length := by omega
    simp [this, hp]
  · have : ¬ (posP p x t : Int) < x.length := by omega
    simp [this, hp]

def F_bsearch_val : FnC Un := fun args => match args with
  | [x0, x1, x2] => (dL .val x0).bind fun x => (dS .val x1).bind fun t => (dF x2).bind fun p => some ([p = (fv_S_val_S_val_to_i_i64 (pf_S_val_S_val_to_i_i64 p)), PartP (pf_S_val_S_val_to_i_i64 p) x t], A_bsearch_val (bsearch_val x t (pf_S_val_S_val_to_i_i64 p)), O_bsearch_val (bsearch_val x t (pf_S_val_S_val_to_i_i64 p)))
  | _ => none

theorem ok_bsearch_val : FnOK 29 F_bsearch_val := by
  intro args ob rs os h hob
  unfold F_bsearch_val at h
  split at h
  · simp only [Option.bind_eq_some_iff, Option.some.injEq, Prod.mk.injEq] at h
    obtain ⟨x, e0, t, e1, p, e2, rfl, rfl, rfl⟩ := h
    obtain rfl := dL_eq e0
    obtain rfl := dS_eq e1
    obtain rfl := dF_eq e2
    have hfv0 := hob _ (List.mem_of_getElem? (i := 0) rfl)
    generalize pf_S_val_S_val_to_i_i64 p = pp0 at *
    subst hfv0
    exact ⟨fn_contractF (M := M_bsearch_val) rfl (tbl_ok (l1 := []) (l2 := []) (l3 := []) (l4 := []) (l5 := []) trivial trivial trivial trivial trivial) Try.func29 (by kernel_rfl) N_bsearch_val 0 [.d, .d] (fun hwf => (bsearch_val_spec x t pp0 (wfArg hwf (a := .d (.v (.dat (U := Un) Ty.val x))) (List.mem_of_getElem? (i := 0) rfl)) (wfArg hwf (a := .d (.agg (enc Ty.val t))) (List.mem_of_getElem? (i := 1) rfl)) (hob _ (List.mem_of_getElem? (i := 1) rfl)))), hasBody_of Try.func29 (by kernel_rfl) (by kernel_rfl)⟩
  · simp at h


/-! ### agg.Step -/
def M_agg_Step : Mc Un := mach (tbl [(28, F_agg_counts), (21, F_agg_taken), (29, F_bsearch_val), (31, F_clone_val)]) (tbl [(14, V_value_Order)]) (tbl []) (tbl [(30, G_insert_val)]) (tbl [])
def A_agg_Step (r : Acc) : List (A Un) := [.agg (encC Ty.acc r)]
def O_agg_Step (_r : Acc) : List (Ob Un) := []
def R_agg_Step (r : Acc) : RF Un := (A_agg_Step r, O_agg_Step r)
def N_agg_Step : Nat → NS := fun l => (look l []).getD ⟨[], [], [], [], []⟩
def agg_Step_fn (x : Acc) (v : Val) : Option (RF Un) := awf M_agg_Step N_agg_Step (bodyOf Try.f16) (entry Try.f16.ntmps 0 [.d (.agg (enc Ty.acc x)), .d (.agg (enc Ty.val v))]) (retF M_agg_Step Try.f16.results.toList [.d])
theorem agg_Step_in (x : Acc) (v : Val) : agg_Step_fn x v =
 cndO (!agg_counts x v)
  (some (R_agg_Step (x)))
  (cndO (!x.distinct)
   (obO (accOK x ∧ (x.name = nmSum → (-1000000000000000 : Int) ≤ v.n ∧ v.n ≤ 1000000000000000))
    (some (R_agg_Step (agg_taken x v))))
   (obO (V_value_Order = fv_S_val_S_val_to_i_i64 (pf_S_val_S_val_to_i_i64 V_value_Order))
    (obO (PartP (pf_S_val_S_val_to_i_i64 V_value_Order) x.l v)
     (cndO (!(bsearch_val x.l v (pf_S_val_S_val_to_i_i64 V_value_Order)).snd)
      (obO (x.l.length ≤ (1000000000 : Nat))
       (obO (((0 : Int) ≤ (bsearch_val x.l v (pf_S_val_S_val_to_i_i64 V_value_Order)).fst ∧ (bsearch_val x.l v (pf_S_val_S_val_to_i_i64 V_value_Order)).fst ≤ (↑x.l.length : Int)) ∧ x.l.length ≤ (1000000 : Nat) ∧ [v].length = (1 : Nat))
        (some (R_agg_Step ({ name := x.name, distinct := x.distinct, n := x.n, hi := x.hi, lo := x.lo, v := x.v, l := List.take (bsearch_val x.l v (pf_S_val_S_val_to_i_i64 V_value_Order)).fst.toNat x.l ++ [v] ++ List.drop (bsearch_val x.l v (pf_S_val_S_val_to_i_i64 V_value_Order)).fst.toNat x.l })))))
      (some (R_agg_Step (x))))))) := by kernel_rfl

/-- Within bounds. -/
def accV (k : Nat) (x : Acc) : Prop := ((0 ≤ x.n ∧ x.n ≤ k) ∧ (-(k : Int) ≤ x.hi ∧ x.hi ≤ k) ∧ -bigM < x.lo ∧ x.lo < bigM) ∧ x.l.length ≤ k ∧ (x.l.Pairwise fun a b => ordV a b < 0) ∧ (x.name = nmSum → ∀ v ∈ x.l, -bigM ≤ v.n ∧ v.n ≤ bigM)
theorem accV.mono {k k' : Nat} {x : Acc} (h : accV k x) (hk : k ≤ k') : accV k' x := ⟨⟨⟨h.1.1.1, by have := h.1.1.2; omega⟩, ⟨by have := h.1.2.1.1; omega, by have := h.1.2.1.2; omega⟩, h.1.2.2⟩, by have := h.2.1; omega, h.2.2⟩
theorem accV.ok {k : Nat} {x : Acc} (h : accV k x) (hk : k ≤ 1000000) : accOK x := by
  obtain ⟨⟨h1, h2, h3⟩, _⟩ := h
  unfold bigM at h3
  unfold accOK; omega
theorem accV.start (a : Agg) : accV 0 (startA a) := by
  unfold startA
  split
  · split <;> exact ⟨⟨by simp, by simp, by show -bigM < (0 : Int) ∧ (0 : Int) < bigM; decide⟩, by simp, by simp, by simp⟩
  · split <;> exact ⟨⟨by simp, by simp, by show -bigM < (0 : Int) ∧ (0 : Int) < bigM; decide⟩, by simp, by simp, by simp⟩
theorem accV.taken {k : Nat} {x : Acc} (h : accV k x) {v : Val} (hv : x.name = nmSum → -bigM ≤ v.n ∧ v.n ≤ bigM) : accV (k + 1) (takenA x v) := by
  obtain ⟨t1, t2, t3⟩ := taken_keeps x v
  obtain ⟨⟨h1, h2, h3⟩, h4, h5, h6⟩ := h
  refine ⟨?_, by rw [t1]; omega, by rw [t1]; exact h5, by rw [t1, t3]; exact h6⟩
  unfold takenA
  by_cases hs : x.name = nmSum
  · have hv' := hv hs
    have a1 := tdiv_one (n := x.lo + v.n) (by omega) (by omega)
    have a2 := tmod_big (x.lo + v.n)
    rw [if_pos hs]
    exact ⟨by constructor <;> simp only <;> omega, ⟨by simp only; omega, by simp only; omega⟩, a2⟩
  · rw [if_neg hs]
    have key : (0 ≤ x.n + 1 ∧ x.n + 1 ≤ ((k + 1 : Nat) : Int)) ∧ (-((k + 1 : Nat) : Int) ≤ x.hi ∧ x.hi ≤ ((k + 1 : Nat) : Int)) ∧ -bigM < x.lo ∧ x.lo < bigM := ⟨by omega, by omega, h3⟩
    split
    · split <;> exact key
    · split
      · split <;> exact key
      · exact key
theorem accV.step {k : Nat} {x : Acc} (h : accV k x) (v : Val) : accV (k + 1) (stepA x v) := by
  unfold stepA
  split
  · rename_i hc
    split
    · obtain ⟨⟨h1, h2, h3⟩, h4, h5, h6⟩ := h
      refine ⟨⟨by constructor <;> simp only <;> omega, by constructor <;> simp only <;> omega, h3⟩, ?_, insV_sorted h5 v, fun hs u hu => ?_⟩
      · have := insV_length x.l v; simp only; omega
      · rcases (insV_mem x.l v u).1 hu with g | g
        · exact h6 hs u g
        · rw [g]; exact counts_sum hc hs
    · exact h.taken (fun hs => counts_sum hc hs)
  · exact h.mono (by omega)
theorem accV.steps {k : Nat} : ∀ (l : List Val) {x : Acc}, accV k x → accV (k + l.length) (l.foldl stepA x)
  | [], _, h => h
  | v :: l, _, h => by
    have := accV.steps l (h.step v)
    rw [List.length_cons, show k + (l.length + 1) = k + 1 + l.length by omega]; exact this
def stepOK (x : Acc) : Prop := accV 500000 x
def agg_Step (x : Acc) (v : Val) : Acc := stepA x v
@[simp] theorem agg_Step_eq (x : Acc) (v : Val) : agg_Step x v = stepA x v := by unfold agg_Step; rfl
theorem posV_posP (l : List Val) (v : Val) : posP ordV l v = posV l v := rfl
theorem part_ord {l : List Val} (h : l.Pairwise fun a b => ordV a b < 0) (hl : l.length ≤ 1000000000) (v : Val) : PartP ordV l v := by
  refine ⟨hl, fun i hi hil => ?_⟩
  rw [posV_posP] at hi
  refine posV_above h (v := v) _ ?_
  rw [List.mem_iff_getElem?]
  refine ⟨i - posV l v, ?_⟩
  rw [List.getElem?_drop, show posV l v + (i - posV l v) = i by omega, List.getD_eq_getElem?_getD, List.getElem?_eq_getElem hil]; rfl
theorem ins_found {l : List Val} (h : l.Pairwise fun a b => ordV a b < 0) (v : Val) : (decide (posV l v < l.length) && ordV (l.getD (posV l v) zeroVal) v == 0) = true ↔ v ∈ l := by
  rw [Bool.and_eq_true, decide_eq_true_eq, beq_iff_eq]
  constructor
  · rintro ⟨h1, h2⟩
    have := ordV_zero.1 h2
    rw [← this, List.getD_eq_getElem?_getD, List.getElem?_eq_getElem h1]
    exact List.getElem_mem h1
  · intro hm
    have hd : v ∈ l.drop (posV l v) := by
      have := hm
      rw [← List.take_append_drop (posV l v) l, List.mem_append] at this
      rcases this with g | g
      · have := posV_below (l := l) (v := v) v g; rw [ordV_self] at this; omega
      · exact g
    have hlt : posV l v < l.length := by
      rcases Nat.lt_or_ge (posV l v) l.length with g | g
      · exact g
      · rw [List.drop_of_length_le g] at hd; simp at hd
    refine ⟨hlt, ?_⟩
    have hg : l.getD (posV l v) zeroVal = l[posV l v]'hlt := by rw [List.getD_eq_getElem?_getD, List.getElem?_eq_getElem hlt]; rfl
    have hdl : l.drop (posV l v) = l[posV l v]'hlt :: l.drop (posV l v + 1) := List.drop_eq_getElem_cons hlt
    have hnot : ¬ ordV (l.getD (posV l v) zeroVal) v < 0 := posV_above h (v := v) _ (by rw [hdl, hg]; exact List.mem_cons_self)
    rw [hdl] at hd
    rcases List.mem_cons.1 hd with g | g
    · rw [hg, ← g]; exact ordV_self v
    · have hp : (l.drop (posV l v)).Pairwise fun a b => ordV a b < 0 := h.drop
      rw [hdl] at hp
      have := (List.pairwise_cons.1 hp).1 v g
      rw [hg] at hnot; exact (hnot this).elim
theorem agg_Step_spec (x : Acc) (v : Val) (_hx : WS .acc x) (_hv : WS .val v) (h : stepOK x) : agg_Step_fn x v = some (R_agg_Step (agg_Step x v)) := by
  unfold stepOK at h
  have hok := h.ok (by omega)
  obtain ⟨_, h4, h5, h6⟩ := h
  rw [agg_Step_in, V_value_Order_eq, pfv_S_val_S_val_to_i_i64]
  unfold agg_Step stepA
  simp only [cndO_eq, agg_counts_eq, agg_taken_eq]
  by_cases hc : countsA x.name v = true
  · rw [if_neg (by simp [hc]), if_pos hc]
    by_cases hd : x.distinct = true
    · rw [if_neg (by simp [hd]), if_pos hd, obO_pos trivial, obO_pos (part_ord h5 (by omega) v)]
      unfold bsearch_val insV
      rw [posV_posP]
      have hf := ins_found h5 v
      by_cases hm : v ∈ x.l
      · rw [if_neg (by rw [hf.2 hm]; simp), if_pos hm]
      · have hf' : (decide (posV x.l v < x.l.length) && ordV (x.l.getD (posV x.l v) zeroVal) v == 0) = false := by
          cases hh : (decide (posV x.l v < x.l.length) && ordV (x.l.getD (posV x.l v) zeroVal) v == 0) with
          | false => rfl
          | true => exact (hm (hf.1 hh)).elim
        have hle := posV_le x.l v
        rw [if_pos (by rw [hf']; rfl), if_neg hm, obO_pos (by omega), obO_pos ⟨⟨by simp only; omega, by simp only; omega⟩, by omega, rfl⟩]
        simp only [Int.toNat_natCast, List.append_assoc, List.singleton_append]
    · rw [if_pos (by simp [hd]), if_neg hd, obO_pos ⟨hok, fun hs => counts_sum hc hs⟩]
  · rw [if_pos (by simp [hc]), if_neg hc]

def F_agg_Step : FnC Un := fun args => match args with
  | [x0, x1] => (dS .acc x0).bind fun x => (dS .val x1).bind fun v => some ([stepOK x], A_agg_Step (agg_Step x v), O_agg_Step (agg_Step x v))
  | _ => none

theorem ok_agg_Step : FnOK 16 F_agg_Step := by
  intro args ob rs os h hob
  unfold F_agg_Step at h
  split at h
  · simp only [Option.bind_eq_some_iff, Option.some.injEq, Prod.mk.injEq] at h
    obtain ⟨x, e0, v, e1, rfl, rfl, rfl⟩ := h
    obtain rfl := dS_eq e0
    obtain rfl := dS_eq e1
    exact ⟨fn_contractF (M := M_agg_Step) rfl (tbl_ok (l1 := [(28, F_agg_counts), (21, F_agg_taken), (29, F_bsearch_val), (31, F_clone_val)]) (l2 := [(14, V_value_Order)]) (l3 := []) (l4 := [(30, G_insert_val)]) (l5 := []) ⟨ok_agg_counts, ok_agg_taken, ok_bsearch_val, ok_clone_val, trivial⟩ ⟨okV_value_Order, trivial⟩ trivial ⟨okG_insert_val, trivial⟩ trivial) Try.func16 (by kernel_rfl) N_agg_Step 0 [.d] (fun hwf => (agg_Step_spec x v (wfArg hwf (a := .d (.agg (enc Ty.acc x))) (List.mem_of_getElem? (i := 0) rfl)) (wfArg hwf (a := .d (.agg (enc Ty.val v))) (List.mem_of_getElem? (i := 1) rfl)) (hob _ (List.mem_of_getElem? (i := 0) rfl)))), hasBody_of Try.func16 (by kernel_rfl) (by kernel_rfl)⟩
  · simp at h


/-! ### agg.Merge -/
def M_agg_Merge : Mc Un := mach (tbl [(16, F_agg_Step), (14, F_value_Order), (24, F_agg_carried)]) (tbl []) (tbl []) (tbl []) (tbl [])
def A_agg_Merge (r : Acc) : List (A Un) := [.agg (encC Ty.acc r)]
def O_agg_Merge (_r : Acc) : List (Ob Un) := []
def R_agg_Merge (r : Acc) : RF Un := (A_agg_Merge r, O_agg_Merge r)
def N_agg_Merge : Nat → NS := fun l => (look l [(2, { ts := bl 78 1820, bs := bl 78 28, nm := [], gb := [2] })]).getD ⟨[], [], [], [], []⟩
def agg_Merge_c1 (y : Acc) (b2 : Acc) := agg_carried (IntKind.i64.wrap (b2.hi + y.hi)) (IntKind.i64.wrap (b2.lo + y.lo))
def agg_Merge_s2 (y : Acc) (b2 : Acc) (v0 : Int) : S Un := (st 78 78 312 0 [(2, ax 2), (3, ax 3), (4, ax 4), (8, al .val y.l), (9, ai (↑y.l.length : Int)), (10, ai v0)] [(2, bg .acc b2), (3, bg .acc y), (4, some (false, [C.s (Value.string (ByteArray.mk #[])), C.s (Value.bool false), C.s (Value.int IntKind.i64 (0 : Int)), C.s (Value.int IntKind.i64 (0 : Int)), C.s (Value.int IntKind.i64 (0 : Int)), C.s (Value.int IntKind.i64 (0 : Int)), C.s (Value.int IntKind.i64 (0 : Int)), C.s (Value.string (ByteArray.mk #[])), C.sl Ty.val [] true]))] [])
def agg_Merge_B2 : Code := sub (bodyOf Try.f12) [1, 0, 1, 2, 2]
def agg_Merge_L2 : S Un → Option (EX Un) := loopF (N_agg_Merge 2) (fun s Q => awf M_agg_Merge N_agg_Merge agg_Merge_B2 s Q)
def agg_Merge_C2 : Exit → S Un → Option (RF Un) := ctxF M_agg_Merge N_agg_Merge (bodyOf Try.f12) [1, 0, 1, 2] (retF M_agg_Merge Try.f12.results.toList [.d])
def agg_Merge_fn (x : Acc) (y : Acc) : Option (RF Un) := awf M_agg_Merge N_agg_Merge (bodyOf Try.f12) (entry Try.f12.ntmps 0 [.d (.agg (enc Ty.acc x)), .d (.agg (enc Ty.acc y))]) (retF M_agg_Merge Try.f12.results.toList [.d])
theorem agg_Merge_in (x : Acc) (y : Acc) : agg_Merge_fn x y =
 (agg_Merge_L2 (agg_Merge_s2 y x (0 : Int))).bind (thenX agg_Merge_C2) := by kernel_rfl
theorem agg_Merge_l2 (y : Acc) (b2 : Acc) (v0 : Int) : agg_Merge_L2 (agg_Merge_s2 y b2 v0) =
 cndO (decide (v0 < (↑y.l.length : Int)))
  (obO (0 ≤ v0 ∧ v0 < (↑y.l.length : Int))
   (obO (stepOK b2)
    (agg_Merge_L2 (agg_Merge_s2 y (agg_Step b2 (y.l.getD v0.toNat zeroVal)) (IntKind.i64.wrap (v0 + 1))))))
  (some (.exit 0, (agg_Merge_s2 y b2 v0))) := (loopF_eq (N_agg_Merge 2) agg_Merge_B2 _).trans (by kernel_rfl)
def agg_Merge_t1 (y : Acc) (b2 : Acc) : Option (RF Un) :=
 obO (((-1000000000 : Int) ≤ IntKind.i64.wrap (b2.hi + y.hi) ∧ IntKind.i64.wrap (b2.hi + y.hi) ≤ 1000000000) ∧ (-2000000000000000 : Int) ≤ IntKind.i64.wrap (b2.lo + y.lo) ∧ IntKind.i64.wrap (b2.lo + y.lo) ≤ 2000000000000000)
  (some (R_agg_Merge ({ name := b2.name, distinct := b2.distinct, n := IntKind.i64.wrap (b2.n + y.n), hi := (agg_Merge_c1 y b2).fst, lo := (agg_Merge_c1 y b2).snd, v := y.v, l := b2.l })))
def agg_Merge_t2 (y : Acc) (b2 : Acc) : Option (RF Un) :=
 obO (((-1000000000 : Int) ≤ IntKind.i64.wrap (b2.hi + y.hi) ∧ IntKind.i64.wrap (b2.hi + y.hi) ≤ 1000000000) ∧ (-2000000000000000 : Int) ≤ IntKind.i64.wrap (b2.lo + y.lo) ∧ IntKind.i64.wrap (b2.lo + y.lo) ≤ 2000000000000000)
  (some (R_agg_Merge ({ name := b2.name, distinct := b2.distinct, n := IntKind.i64.wrap (b2.n + y.n), hi := (agg_Merge_c1 y b2).fst, lo := (agg_Merge_c1 y b2).snd, v := b2.v, l := b2.l })))
def agg_Merge_t3 (y : Acc) (b2 : Acc) : Option (RF Un) :=
 cndO (b2.name.toList == (ByteArray.mk #[109, 97, 120]).toList)
  (cndO (decide (value_Order y.v b2.v > 0))
   (agg_Merge_t1 y b2)
   (agg_Merge_t2 y b2))
  (agg_Merge_t2 y b2)
theorem agg_Merge_a2_x0 (y : Acc) (b2 : Acc) (v0 : Int) : agg_Merge_C2 (.exit 0) (agg_Merge_s2 y b2 v0) =
 cndO (b2.n == 0)
  (agg_Merge_t1 y b2)
  (cndO (decide (y.n > 0))
   (cndO (b2.name.toList == (ByteArray.mk #[109, 105, 110]).toList)
    (cndO (decide (value_Order y.v b2.v < 0))
     (agg_Merge_t1 y b2)
     (agg_Merge_t3 y b2))
    (agg_Merge_t3 y b2))
   (agg_Merge_t2 y b2)) := by kernel_rfl

def mergeOK (x y : Acc) : Prop := accV 200000 x ∧ accV 200000 y
def agg_Merge (x y : Acc) : Acc := mergeA x y
@[simp] theorem agg_Merge_eq (x y : Acc) : agg_Merge x y = mergeA x y := by unfold agg_Merge; rfl
theorem agg_Merge_loop (x y : Acc) (h : accV 200000 x) (hyl : y.l.length ≤ 200000) : agg_Merge_L2 (agg_Merge_s2 y x (0 : Int)) = some (.exit 0, agg_Merge_s2 y (y.l.foldl stepA x) (y.l.length : Int)) ∧ accV (200000 + y.l.length) (y.l.foldl stepA x) :=
  loop_fold (e := .exit 0) (L := agg_Merge_L2) (st := fun a i => agg_Merge_s2 y a i) (l := y.l) (d := zeroVal) (g := stepA) (fun i a => accV (200000 + i) a) (by omega)
    (fun a i v hi hv hI => ⟨hI.step v, by
      rw [agg_Merge_l2]
      simp only [cndO_eq, hi, decide_true, if_true, and_true, Int.toNat_natCast, hv, agg_Step_eq]
      rw [obO_pos (by omega), obO_pos (show stepOK a from hI.mono (by omega))]⟩)
    (fun a _ => by rw [agg_Merge_l2]; simp [cndO_eq]) x h
open Classical in
def endM (z y : Acc) : Acc := ⟨z.name, z.distinct, z.n + y.n, z.hi + y.hi + (z.lo + y.lo).tdiv bigM, (z.lo + y.lo).tmod bigM,
    if z.n = 0 ∨ y.n > 0 ∧ (z.name = nmMin ∧ ordV y.v z.v < 0 ∨ z.name = nmMax ∧ ordV y.v z.v > 0) then y.v else z.v, z.l⟩
theorem agg_Merge_end (y z : Acc) (i : Int) (hz : (0 ≤ z.n ∧ z.n ≤ 400000) ∧ (-400000 ≤ z.hi ∧ z.hi ≤ 400000) ∧ -1000000000000000 < z.lo ∧ z.lo < 1000000000000000) (hy : (0 ≤ y.n ∧ y.n ≤ 400000) ∧ (-400000 ≤ y.hi ∧ y.hi ≤ 400000) ∧ -1000000000000000 < y.lo ∧ y.lo < 1000000000000000) :
    agg_Merge_C2 (.exit 0) (agg_Merge_s2 y z i) = some (R_agg_Merge (endM z y)) := by
  obtain ⟨h1, h2, h3⟩ := hz
  obtain ⟨k1, k2, k3⟩ := hy
  have w1 : IntKind.i64.wrap (z.n + y.n) = z.n + y.n := wrap_id (by omega)
  have w2 : IntKind.i64.wrap (z.hi + y.hi) = z.hi + y.hi := wrap_id (by omega)
  have w3 : IntKind.i64.wrap (z.lo + y.lo) = z.lo + y.lo := wrap_id (by omega)
  have o1 : ((-1000000000 : Int) ≤ z.hi + y.hi ∧ z.hi + y.hi ≤ 1000000000) ∧ (-2000000000000000 : Int) ≤ z.lo + y.lo ∧ z.lo + y.lo ≤ 2000000000000000 := by omega
  unfold endM
  simp only [agg_Merge_a2_x0, agg_Merge_t1, agg_Merge_t2, agg_Merge_t3, agg_Merge_c1, w1, w2, w3, obO_pos o1, cndO_eq, nm_min, nm_max, name_beq, value_Order_eq, agg_carried, decide_eq_true_eq]
  have hmm : ¬ nmMin = nmMax := nm_ne.2.2.2.2.2.2.2.1
  by_cases e1 : z.n = 0
  · rw [if_pos (by simp [e1]), if_pos (.inl e1)]
  · rw [if_neg (by simp [e1])]
    by_cases e2 : y.n > 0
    · rw [if_pos e2]
      by_cases e3 : z.name = nmMin
      · rw [if_pos e3]
        by_cases e4 : ordV y.v z.v < 0
        · rw [if_pos e4, if_pos (.inr ⟨e2, .inl ⟨e3, e4⟩⟩)]
        · rw [if_neg e4, if_neg (by rw [e3]; exact hmm), if_neg (by rintro (h | ⟨_, ⟨_, h⟩ | ⟨h, _⟩⟩); exact e1 h; exact e4 h; exact hmm (e3.symm.trans h))]
      · rw [if_neg e3]
        by_cases e4 : z.name = nmMax
        · rw [if_pos e4]
          by_cases e5 : ordV y.v z.v > 0
          · rw [if_pos e5, if_pos (.inr ⟨e2, .inr ⟨e4, e5⟩⟩)]
          · rw [if_neg e5, if_neg (by rintro (h | ⟨_, ⟨h, _⟩ | ⟨_, h⟩⟩); exact e1 h; exact e3 h; exact e5 h)]
        · rw [if_neg e4, if_neg (by rintro (h | ⟨_, ⟨h, _⟩ | ⟨h, _⟩⟩); exact e1 h; exact e3 h; exact e4 h)]
    · rw [if_neg e2, if_neg (by rintro (h | ⟨h, _⟩); exact e1 h; exact e2 h)]
theorem agg_Merge_spec (x y : Acc) (_hx : WS .acc x) (hy : WS .acc y) (h : mergeOK x y) : agg_Merge_fn x y = some (R_agg_Merge (agg_Merge x y)) := by
  obtain ⟨hx, hyv⟩ := h
  obtain ⟨hl, hI⟩ := agg_Merge_loop x y hx hyv.2.1
  rw [agg_Merge_in, loop_end hl]
  obtain ⟨⟨h1, h2, h3⟩, _⟩ := hI
  have hyl := hyv.2.1
  obtain ⟨⟨k1, k2, k3⟩, _⟩ := hyv
  have hb : bigM = 1000000000000000 := rfl
  rw [hb] at h3 k3
  rw [agg_Merge_end y _ _ ⟨by omega, by omega, h3⟩ ⟨by omega, by omega, k3⟩]
  have e : agg_Merge x y = endM (y.l.foldl stepA x) y := by unfold agg_Merge mergeA endM; rfl
  rw [e]

def F_agg_Merge : FnC Un := fun args => match args with
  | [x0, x1] => (dS .acc x0).bind fun x => (dS .acc x1).bind fun y => some ([mergeOK x y], A_agg_Merge (agg_Merge x y), O_agg_Merge (agg_Merge x y))
  | _ => none

theorem ok_agg_Merge : FnOK 12 F_agg_Merge := by
  intro args ob rs os h hob
  unfold F_agg_Merge at h
  split at h
  · simp only [Option.bind_eq_some_iff, Option.some.injEq, Prod.mk.injEq] at h
    obtain ⟨x, e0, y, e1, rfl, rfl, rfl⟩ := h
    obtain rfl := dS_eq e0
    obtain rfl := dS_eq e1
    exact ⟨fn_contractF (M := M_agg_Merge) rfl (tbl_ok (l1 := [(16, F_agg_Step), (14, F_value_Order), (24, F_agg_carried)]) (l2 := []) (l3 := []) (l4 := []) (l5 := []) ⟨ok_agg_Step, ok_value_Order, ok_agg_carried, trivial⟩ trivial trivial trivial trivial) Try.func12 (by kernel_rfl) N_agg_Merge 0 [.d] (fun hwf => (agg_Merge_spec x y (wfArg hwf (a := .d (.agg (enc Ty.acc x))) (List.mem_of_getElem? (i := 0) rfl)) (wfArg hwf (a := .d (.agg (enc Ty.acc y))) (List.mem_of_getElem? (i := 1) rfl)) (hob _ (List.mem_of_getElem? (i := 0) rfl)))), hasBody_of Try.func12 (by kernel_rfl) (by kernel_rfl)⟩
  · simp at h


/-! ### agg.Value -/
def M_agg_Value : Mc Un := mach (tbl [(21, F_agg_taken), (22, F_value_Num), (23, F_agg_total)]) (tbl []) (tbl []) (tbl []) (tbl [])
def A_agg_Value (r : Val) : List (A Un) := [.agg (encC Ty.val r)]
def O_agg_Value (_r : Val) : List (Ob Un) := []
def R_agg_Value (r : Val) : RF Un := (A_agg_Value r, O_agg_Value r)
def N_agg_Value : Nat → NS := fun l => (look l [(2, { ts := bl 34 454, bs := bl 34 6, nm := [], gb := [1] })]).getD ⟨[], [], [], [], []⟩
def agg_Value_s2 (x : Acc) (b1 : Acc) (v0 : Int) : S Un := (st 34 34 136 0 [(1, ax 1), (2, ax 2), (6, al .val x.l), (7, ai (↑x.l.length : Int)), (8, ai v0)] [(1, bg .acc b1), (2, bg .val zeroVal)] [])
def agg_Value_B2 : Code := sub (bodyOf Try.f10) [1, 0, 1, 2, 2]
def agg_Value_L2 : S Un → Option (EX Un) := loopF (N_agg_Value 2) (fun s Q => awf M_agg_Value N_agg_Value agg_Value_B2 s Q)
def agg_Value_C2 : Exit → S Un → Option (RF Un) := ctxF M_agg_Value N_agg_Value (bodyOf Try.f10) [1, 0, 1, 2] (retF M_agg_Value Try.f10.results.toList [.d])
def agg_Value_fn (x : Acc) : Option (RF Un) := awf M_agg_Value N_agg_Value (bodyOf Try.f10) (entry Try.f10.ntmps 0 [.d (.agg (enc Ty.acc x))]) (retF M_agg_Value Try.f10.results.toList [.d])
theorem agg_Value_in (x : Acc) : agg_Value_fn x =
 (agg_Value_L2 (agg_Value_s2 x x (0 : Int))).bind (thenX agg_Value_C2) := by kernel_rfl
theorem agg_Value_l2 (x : Acc) (b1 : Acc) (v0 : Int) : agg_Value_L2 (agg_Value_s2 x b1 v0) =
 cndO (decide (v0 < (↑x.l.length : Int)))
  (obO (0 ≤ v0 ∧ v0 < (↑x.l.length : Int))
   (obO (accOK b1 ∧ (b1.name = nmSum → (-1000000000000000 : Int) ≤ (x.l.getD v0.toNat zeroVal).n ∧ (x.l.getD v0.toNat zeroVal).n ≤ 1000000000000000))
    (agg_Value_L2 (agg_Value_s2 x (agg_taken b1 (x.l.getD v0.toNat zeroVal)) (IntKind.i64.wrap (v0 + 1))))))
  (some (.exit 0, (agg_Value_s2 x b1 v0))) := (loopF_eq (N_agg_Value 2) agg_Value_B2 _).trans (by kernel_rfl)
def agg_Value_t1 (b1 : Acc) : Option (RF Un) :=
 cndO (b1.name.toList == (ByteArray.mk #[115, 117, 109]).toList)
  (obO (accOK b1)
   (some (R_agg_Value (agg_total b1))))
  (cndO (b1.name.toList == (ByteArray.mk #[109, 105, 110]).toList)
   (cndO (b1.name.toList == (ByteArray.mk #[109, 105, 110]).toList)
    (some (R_agg_Value (b1.v)))
    (some (R_agg_Value (zeroVal))))
   (cndO (b1.name.toList == (ByteArray.mk #[109, 97, 120]).toList)
    (some (R_agg_Value (b1.v)))
    (some (R_agg_Value (zeroVal)))))
theorem agg_Value_a2_x0 (x : Acc) (b1 : Acc) (v0 : Int) : agg_Value_C2 (.exit 0) (agg_Value_s2 x b1 v0) =
 cndO (b1.name.toList == (ByteArray.mk #[99, 111, 117, 110, 116]).toList)
  (cndO (b1.name.toList == (ByteArray.mk #[99, 111, 117, 110, 116]).toList)
   (some (R_agg_Value (value_Num b1.n)))
   (agg_Value_t1 b1))
  (cndO (b1.name.toList == (ByteArray.mk #[114, 111, 119, 115]).toList)
   (some (R_agg_Value (value_Num b1.n)))
   (agg_Value_t1 b1)) := by kernel_rfl

def agg_Value (x : Acc) : Val := valueA x
@[simp] theorem agg_Value_eq (x : Acc) : agg_Value x = valueA x := by unfold agg_Value; rfl
theorem agg_Value_spec (x : Acc) (_hx : WS .acc x) (h : stepOK x) : agg_Value_fn x = some (R_agg_Value (agg_Value x)) := by
  have hxl := h.2.1
  have hxb := h.2.2.2
  obtain ⟨hl, hI⟩ := loop_fold (e := .exit 0) (L := agg_Value_L2) (st := fun a i => agg_Value_s2 x a i) (l := x.l) (d := zeroVal) (g := takenA) (fun i a => accV (500000 + i) a ∧ a.name = x.name) (by omega)
    (fun a i v hi hv hI => ⟨⟨hI.1.taken (fun hs => hxb (hI.2.symm.trans hs) v (by
        have : i < x.l.length := by omega
        rw [← hv, List.getD_eq_getElem?_getD, List.getElem?_eq_getElem this]; exact List.getElem_mem this)), (taken_keeps a v).2.2.trans hI.2⟩, by
      rw [agg_Value_l2]
      simp only [cndO_eq, hi, decide_true, if_true, and_true, Int.toNat_natCast, hv, agg_taken_eq]
      rw [obO_pos (by omega), obO_pos ⟨hI.1.ok (by omega), fun hs => hxb (hI.2.symm.trans hs) v (by
        have : i < x.l.length := by omega
        rw [← hv, List.getD_eq_getElem?_getD, List.getElem?_eq_getElem this]; exact List.getElem_mem this)⟩]⟩)
    (fun a _ => by rw [agg_Value_l2]; simp [cndO_eq]) x ⟨h, rfl⟩
  rw [agg_Value_in, loop_end hl]
  have hok := hI.1.ok (by omega)
  unfold agg_Value valueA endA
  generalize List.foldl takenA x x.l = z at *
  simp only [agg_Value_a2_x0, agg_Value_t1, cndO_eq, nm_count, nm_sum, nm_min, nm_max, nm_rows, name_beq, value_Num_spec, obO_pos hok, agg_total, decide_eq_true_eq]
  by_cases e1 : z.name = nmCount
  · rw [if_pos e1, if_pos e1, if_pos (.inl e1)]
  · rw [if_neg e1]
    by_cases e2 : z.name = nmRows
    · rw [if_pos e2, if_pos (.inr e2)]
    · rw [if_neg e2, if_neg (show ¬ (z.name = nmCount ∨ z.name = nmRows) from by rintro (h | h); exact e1 h; exact e2 h)]
      by_cases e3 : z.name = nmSum
      · rw [if_pos e3, if_pos e3]
      · rw [if_neg e3, if_neg e3]
        by_cases e4 : z.name = nmMin
        · rw [if_pos e4, if_pos e4, if_pos (.inl e4)]
        · rw [if_neg e4]
          by_cases e5 : z.name = nmMax
          · rw [if_pos e5, if_pos (.inr e5)]
          · rw [if_neg e5, if_neg (by rintro (h | h); exact e4 h; exact e5 h)]

def F_agg_Value : FnC Un := fun args => match args with
  | [x0] => (dS .acc x0).bind fun x => some ([stepOK x], A_agg_Value (agg_Value x), O_agg_Value (agg_Value x))
  | _ => none

theorem ok_agg_Value : FnOK 10 F_agg_Value := by
  intro args ob rs os h hob
  unfold F_agg_Value at h
  split at h
  · simp only [Option.bind_eq_some_iff, Option.some.injEq, Prod.mk.injEq] at h
    obtain ⟨x, e0, rfl, rfl, rfl⟩ := h
    obtain rfl := dS_eq e0
    exact ⟨fn_contractF (M := M_agg_Value) rfl (tbl_ok (l1 := [(21, F_agg_taken), (22, F_value_Num), (23, F_agg_total)]) (l2 := []) (l3 := []) (l4 := []) (l5 := []) ⟨ok_agg_taken, ok_value_Num, ok_agg_total, trivial⟩ trivial trivial trivial trivial) Try.func10 (by kernel_rfl) N_agg_Value 0 [.d] (fun hwf => (agg_Value_spec x (wfArg hwf (a := .d (.agg (enc Ty.acc x))) (List.mem_of_getElem? (i := 0) rfl)) (hob _ (List.mem_of_getElem? (i := 0) rfl)))), hasBody_of Try.func10 (by kernel_rfl) (by kernel_rfl)⟩
  · simp at h


/-! ### agg.Run -/
def M_agg_Run : Mc Un := mach (tbl [(15, F_agg_Start), (16, F_agg_Step), (10, F_agg_Value)]) (tbl []) (tbl []) (tbl []) (tbl [])
def A_agg_Run (r : Val) : List (A Un) := [.agg (encC Ty.val r)]
def O_agg_Run (_r : Val) : List (Ob Un) := []
def R_agg_Run (r : Val) : RF Un := (A_agg_Run r, O_agg_Run r)
def N_agg_Run : Nat → NS := fun l => (look l [(3, { ts := bl 22 7216, bs := bl 22 48, nm := [], gb := [5] })]).getD ⟨[], [], [], [], []⟩
def agg_Run_s3 (l : List Val) (b5 : Acc) (v0 : Int) : S Un := (st 22 22 88 0 [(4, ax 4), (5, ax 5), (10, al .val l), (11, ai (↑l.length : Int)), (12, ai v0)] [(4, bg .val zeroVal), (5, bg .acc b5)] [])
def agg_Run_B3 : Code := sub (bodyOf Try.f9) [1, 1, 0, 1, 2, 2]
def agg_Run_L3 : S Un → Option (EX Un) := loopF (N_agg_Run 3) (fun s Q => awf M_agg_Run N_agg_Run agg_Run_B3 s Q)
def agg_Run_C3 : Exit → S Un → Option (RF Un) := ctxF M_agg_Run N_agg_Run (bodyOf Try.f9) [1, 1, 0, 1, 2] (retF M_agg_Run Try.f9.results.toList [.d])
def agg_Run_fn (a : Agg) (l : List Val) : Option (RF Un) := awf M_agg_Run N_agg_Run (bodyOf Try.f9) (entry Try.f9.ntmps 0 [.d (.agg (enc Ty.agg a)), .d (.v (.dat (U := Un) Ty.val l))]) (retF M_agg_Run Try.f9.results.toList [.d])
theorem agg_Run_in (a : Agg) (l : List Val) : agg_Run_fn a l =
 (agg_Run_L3 (agg_Run_s3 l (agg_Start (Agg.ids a)) (0 : Int))).bind (thenX agg_Run_C3) := by kernel_rfl
theorem agg_Run_l3 (l : List Val) (b5 : Acc) (v0 : Int) : agg_Run_L3 (agg_Run_s3 l b5 v0) =
 cndO (decide (v0 < (↑l.length : Int)))
  (obO (0 ≤ v0 ∧ v0 < (↑l.length : Int))
   (obO (stepOK b5)
    (agg_Run_L3 (agg_Run_s3 l (agg_Step b5 (l.getD v0.toNat zeroVal)) (IntKind.i64.wrap (v0 + 1))))))
  (some (.exit 0, (agg_Run_s3 l b5 v0))) := (loopF_eq (N_agg_Run 3) agg_Run_B3 _).trans (by kernel_rfl)
theorem agg_Run_a3_x0 (l : List Val) (b5 : Acc) (v0 : Int) : agg_Run_C3 (.exit 0) (agg_Run_s3 l b5 v0) =
 obO (stepOK b5)
  (some (R_agg_Run (agg_Value b5))) := by kernel_rfl

def agg_Run (a : Agg) (l : List Val) : Val := runA a l
@[simp] theorem agg_Run_eq (a : Agg) (l : List Val) : agg_Run a l = runA a l := by unfold agg_Run; rfl
theorem agg_Run_spec (a : Agg) (l : List Val) (_ha : WS .agg a) (_hl : WL .val l) (h : l.length ≤ 400000) : agg_Run_fn a l = some (R_agg_Run (agg_Run a l)) := by
  obtain ⟨hl, hI⟩ := loop_fold (e := .exit 0) (L := agg_Run_L3) (st := fun b i => agg_Run_s3 l b i) (l := l) (d := zeroVal) (g := stepA) (fun i b => accV i b) (by omega)
    (fun b i v hi hv hI => ⟨hI.step v, by
      rw [agg_Run_l3]
      simp only [cndO_eq, hi, decide_true, if_true, and_true, Int.toNat_natCast, hv, agg_Step_eq]
      rw [obO_pos (by omega), obO_pos (show stepOK b from hI.mono (by omega))]⟩)
    (fun b _ => by rw [agg_Run_l3]; simp [cndO_eq]) (startA a) (accV.start a)
  rw [agg_Run_in, Agg.ids_eq, agg_Start_spec, loop_end hl]
  unfold agg_Run runA
  simp only [agg_Run_a3_x0, agg_Value_eq]
  rw [obO_pos (show stepOK _ from hI.mono (by omega))]

def F_agg_Run : FnC Un := fun args => match args with
  | [x0, x1] => (dS .agg x0).bind fun a => (dL .val x1).bind fun l => some ([l.length ≤ 400000], A_agg_Run (agg_Run a l), O_agg_Run (agg_Run a l))
  | _ => none

theorem ok_agg_Run : FnOK 9 F_agg_Run := by
  intro args ob rs os h hob
  unfold F_agg_Run at h
  split at h
  · simp only [Option.bind_eq_some_iff, Option.some.injEq, Prod.mk.injEq] at h
    obtain ⟨a, e0, l, e1, rfl, rfl, rfl⟩ := h
    obtain rfl := dS_eq e0
    obtain rfl := dL_eq e1
    exact ⟨fn_contractF (M := M_agg_Run) rfl (tbl_ok (l1 := [(15, F_agg_Start), (16, F_agg_Step), (10, F_agg_Value)]) (l2 := []) (l3 := []) (l4 := []) (l5 := []) ⟨ok_agg_Start, ok_agg_Step, ok_agg_Value, trivial⟩ trivial trivial trivial trivial) Try.func9 (by kernel_rfl) N_agg_Run 0 [.d] (fun hwf => (agg_Run_spec a l (wfArg hwf (a := .d (.agg (enc Ty.agg a))) (List.mem_of_getElem? (i := 0) rfl)) (wfArg hwf (a := .d (.v (.dat (U := Un) Ty.val l))) (List.mem_of_getElem? (i := 1) rfl)) (hob _ (List.mem_of_getElem? (i := 0) rfl)))), hasBody_of Try.func9 (by kernel_rfl) (by kernel_rfl)⟩
  · simp at h


end
end Go.Proofs.Ytpaelnkffpmfaaa.B
