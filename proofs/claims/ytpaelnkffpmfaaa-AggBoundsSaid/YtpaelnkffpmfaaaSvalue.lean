/- Functions: value. (Printed by wip/tools/mkfn.py out of wip/src/value.src.) -/
import Derived.Test.YtpaelnkffpmfaaaBLib
import Derived.Test.YtpaelnkffpmfaaaSspec
import Derived.Test.YtpaelnkffpmfaaaSnum
import Derived.Test.YtpaelnkffpmfaaaSlstr
namespace Go.Proofs.Ytpaelnkffpmfaaa.B
open Go Go.RowKit
set_option maxRecDepth 100000
noncomputable section
attribute [local irreducible] awp ctxK itersK iterK retQ retGQ

theorem odd_idx {p : Nat → Bool} (hp : ∀ c, p c = (decide (c < 32) || decide (126 < c))) (s : ByteArray) : ∀ (f pos : Nat), s.size ≤ pos + f → (idxFrom p true s f pos < 0 ↔ ∀ b ∈ s.toList.drop pos, 32 ≤ b.toNat ∧ b.toNat ≤ 126)
  | 0, pos, h => by
    have : s.toList.drop pos = [] := List.drop_of_length_le (by rw [toList_size]; omega)
    simp [idxFrom, this]
  | f + 1, pos, h => by
    by_cases hps : pos < s.size
    · have hl : pos < s.toList.length := by rw [toList_size]; exact hps
      have hd : s.toList.drop pos = s.toList.getD pos 0 :: s.toList.drop (pos + 1) := by
        rw [List.drop_eq_getElem_cons hl, List.getD_eq_getElem?_getD, List.getElem?_eq_getElem hl]; rfl
      simp only [idxFrom, hps, if_true]
      rw [hd, List.forall_mem_cons]
      have hdec := decode_get s pos hps
      generalize s.toList.getD pos 0 = b at hdec ⊢
      rcases hdec with ⟨h1, h2⟩ | ⟨h1, h2⟩
      · rw [h1, h2, ← odd_idx hp s f (pos + 1) (by omega), hp]
        by_cases hb : 32 ≤ b.toNat ∧ b.toNat ≤ 126
        · have e : (decide (b.toNat < 32) || decide (126 < b.toNat)) = false := by simp; omega
          rw [e]; simp [hb]
        · have e : (decide (b.toNat < 32) || decide (126 < b.toNat)) = true := by simp; omega
          rw [e]; simp only [if_true]; constructor
          · intro hh; omega
          · intro hh; exact absurd hh.1 hb
      · have e : p (Utf8.decode s pos).1 = true := by rw [hp]; simp; omega
        rw [e]; simp only [if_true]; constructor
        · intro hh; omega
        · intro hh; omega
    · have : s.toList.drop pos = [] := List.drop_of_length_le (by rw [toList_size]; omega)
      rw [idxFrom_end _ _ _ _ _ hps]; simp [this]


/-! ### value.odd -/
def M_value_odd : Mc Un := mach (tbl []) (tbl []) (tbl []) (tbl []) (tbl [])
def N_value_odd : Nat → NS := fun l => (look l []).getD ⟨[], [], [], [], []⟩
def A_value_odd (r : Bool) : List (A Un) := [.c (.s (.bool r))]
def O_value_odd (_r : Bool) : List (Ob Un) := []
theorem value_odd_in (c : Int) (K : List (A Un) → List (Ob Un) → Prop) :
    awp M_value_odd N_value_odd (bodyOf Try.f47) (entry Try.f47.ntmps 0 [.d (.v (.s (.int .i32 c)))]) (retQ M_value_odd Try.f47.results.toList [.d] K) =
(cnd (decide (c < (32 : Int)))
 (K (A_value_odd (true)) (O_value_odd (true)))
 (K (A_value_odd (decide (c > (126 : Int)))) (O_value_odd (decide (c > (126 : Int)))))) := by kernel_rfl
def value_odd_fn (c : Int) : Option (Bool) :=
  if (decide (c < (32 : Int))) = true then
   some (true)
  else
   some (decide (c > (126 : Int)))
theorem value_odd_run {c : Int} {r : Bool} (h : value_odd_fn c = some r) : Runs (awp M_value_odd N_value_odd (bodyOf Try.f47) (entry Try.f47.ntmps 0 [.d (.v (.s (.int .i32 c)))]) (retQ M_value_odd Try.f47.results.toList [.d] fun rs os => rs = A_value_odd r ∧ os = O_value_odd r)) := by
  constructor
  rw [value_odd_in c (fun rs os => rs = A_value_odd r ∧ os = O_value_odd r)]
  unfold value_odd_fn at h
  rcases ite_some h with ⟨c1, h2⟩ | ⟨c1, h2⟩
  · cases h2
    exact (cnd_t c1 ⟨rfl, rfl⟩)
  · cases h2
    exact (cnd_f (bfalse c1) ⟨rfl, rfl⟩)
def value_odd (c : Int) : Bool :=
  if (decide (c < (32 : Int))) = true then
   (true)
  else
   (decide (c > (126 : Int)))
theorem value_odd_eq (c : Int) : value_odd_fn c = some (value_odd c) := by unfold value_odd_fn value_odd; repeat (first | rfl | split)

def F_value_odd : FnC Un := fun args => match args with
  | [x0] => (dI .i32 x0).bind fun c => some ([], A_value_odd (value_odd c), O_value_odd (value_odd c))
  | _ => none

theorem ok_value_odd : FnOK 47 F_value_odd := by
  intro args ob rs os h hob
  unfold F_value_odd at h
  split at h
  · simp only [Option.bind_eq_some_iff, Option.some.injEq, Prod.mk.injEq] at h
    obtain ⟨c, e0, rfl, rfl, rfl⟩ := h
    obtain rfl := dI_eq e0
    exact ⟨fn_contract (M := M_value_odd) rfl (tbl_ok (l1 := []) (l2 := []) (l3 := []) (l4 := []) (l5 := []) trivial trivial trivial trivial trivial) Try.func47 (by kernel_rfl) N_value_odd 0 [.d] (fun hwf => value_odd_run (value_odd_eq c)), hasBody_of Try.func47 (by kernel_rfl) (by kernel_rfl)⟩
  · simp at h

def V_value_odd : FV Un := fun args => match args with
  | [x0] => (dI .i32 (.d x0)).bind fun c => some ([], [.v (cb (value_odd c))])
  | _ => none

theorem okV_value_odd : FvOK 47 V_value_odd := by
  refine ⟨hasBody_of Try.func47 (by kernel_rfl) (by kernel_rfl), fun args ob rs h hob => ?_⟩
  unfold V_value_odd at h
  split at h
  · simp only [Option.bind_eq_some_iff, Option.some.injEq, Prod.mk.injEq] at h
    obtain ⟨c, e0, rfl, rfl⟩ := h
    simp only [List.map_cons, List.map_nil]
    rw [dI_eq e0]
    refine Contract.data (ok_value_odd _ ([]) _ _ (?_ : F_value_odd _ = some _) (by simp)).1
    unfold F_value_odd
    simp only [dI_mk]
    rfl
  · simp at h


/-! ### value.Right -/
def M_value_Right : Mc Un := mach (tbl [(46, F_strings_IndexFunc), (38, F_num_In)]) (tbl [(47, V_value_odd)]) (tbl []) (tbl []) (tbl [])
def N_value_Right : Nat → NS := fun l => (look l []).getD ⟨[], [], [], [], []⟩
def A_value_Right (r : Bool) : List (A Un) := [.c (.s (.bool r))]
def O_value_Right (_r : Bool) : List (Ob Un) := []
theorem value_Right_in (v : Val) (K : List (A Un) → List (Ob Un) → Prop) :
    awp M_value_Right N_value_Right (bodyOf Try.f41) (entry Try.f41.ntmps 0 [.d (.agg (enc Ty.val v))]) (retQ M_value_Right Try.f41.results.toList [.d] K) =
(cnd (v.kind == (3 : Int))
 (cnd (v.n == (0 : Int))
  (cnd (decide ((↑v.s.size : Int) ≤ (100 : Int)))
   ((runesOK V_value_odd = true) ∧
   (K (A_value_Right (decide (strings_IndexFunc v.s V_value_odd < (0 : Int)))) (O_value_Right (decide (strings_IndexFunc v.s V_value_odd < (0 : Int))))))
   (K (A_value_Right (false)) (O_value_Right (false))))
  (K (A_value_Right (false)) (O_value_Right (false))))
 (cnd (!v.s.toList == (ByteArray.mk #[]).toList)
  (K (A_value_Right (false)) (O_value_Right (false)))
  (cnd (v.kind == (0 : Int))
   (K (A_value_Right (v.n == (0 : Int))) (O_value_Right (v.n == (0 : Int))))
   (cnd (v.kind == (1 : Int))
    (K (A_value_Right (IntKind.i64.wrap (↑(BitVec.ofInt IntKind.i64.bits v.n &&& ~~~BitVec.ofInt IntKind.i64.bits (1 : Int)).toNat : Int) == (0 : Int))) (O_value_Right (IntKind.i64.wrap (↑(BitVec.ofInt IntKind.i64.bits v.n &&& ~~~BitVec.ofInt IntKind.i64.bits (1 : Int)).toNat : Int) == (0 : Int))))
    (cnd (v.kind == (2 : Int))
     (K (A_value_Right (num_In v.n)) (O_value_Right (num_In v.n)))
     (K (A_value_Right (false)) (O_value_Right (false)))))))) := by kernel_rfl
def value_Right_fn (v : Val) : Option (Bool) :=
  if (v.kind == (3 : Int)) = true then
   if (v.n == (0 : Int)) = true then
    if (decide ((↑v.s.size : Int) ≤ (100 : Int))) = true then
     if runesOK V_value_odd = true then
      some (decide (strings_IndexFunc v.s V_value_odd < (0 : Int)))
     else none
    else
     some (false)
   else
    some (false)
  else
   if (!v.s.toList == (ByteArray.mk #[]).toList) = true then
    some (false)
   else
    if (v.kind == (0 : Int)) = true then
     some (v.n == (0 : Int))
    else
     if (v.kind == (1 : Int)) = true then
      some (IntKind.i64.wrap (↑(BitVec.ofInt IntKind.i64.bits v.n &&& ~~~BitVec.ofInt IntKind.i64.bits (1 : Int)).toNat : Int) == (0 : Int))
     else
      if (v.kind == (2 : Int)) = true then
       some (num_In v.n)
      else
       some (false)
theorem value_Right_run {v : Val} {r : Bool} (h : value_Right_fn v = some r) : Runs (awp M_value_Right N_value_Right (bodyOf Try.f41) (entry Try.f41.ntmps 0 [.d (.agg (enc Ty.val v))]) (retQ M_value_Right Try.f41.results.toList [.d] fun rs os => rs = A_value_Right r ∧ os = O_value_Right r)) := by
  constructor
  rw [value_Right_in v (fun rs os => rs = A_value_Right r ∧ os = O_value_Right r)]
  unfold value_Right_fn at h
  rcases ite_some h with ⟨c1, h2⟩ | ⟨c1, h2⟩
  · rcases ite_some h2 with ⟨c3, h4⟩ | ⟨c3, h4⟩
    · rcases ite_some h4 with ⟨c5, h6⟩ | ⟨c5, h6⟩
      · obtain ⟨c7, h8⟩ := ob_some h6
        cases h8
        exact (cnd_t c1 (cnd_t c3 (cnd_t c5 (And.intro c7 ⟨rfl, rfl⟩))))
      · cases h6
        exact (cnd_t c1 (cnd_t c3 (cnd_f (bfalse c5) ⟨rfl, rfl⟩)))
    · cases h4
      exact (cnd_t c1 (cnd_f (bfalse c3) ⟨rfl, rfl⟩))
  · rcases ite_some h2 with ⟨c9, h10⟩ | ⟨c9, h10⟩
    · cases h10
      exact (cnd_f (bfalse c1) (cnd_t c9 ⟨rfl, rfl⟩))
    · rcases ite_some h10 with ⟨c11, h12⟩ | ⟨c11, h12⟩
      · cases h12
        exact (cnd_f (bfalse c1) (cnd_f (bfalse c9) (cnd_t c11 ⟨rfl, rfl⟩)))
      · rcases ite_some h12 with ⟨c13, h14⟩ | ⟨c13, h14⟩
        · cases h14
          exact (cnd_f (bfalse c1) (cnd_f (bfalse c9) (cnd_f (bfalse c11) (cnd_t c13 ⟨rfl, rfl⟩))))
        · rcases ite_some h14 with ⟨c15, h16⟩ | ⟨c15, h16⟩
          · cases h16
            exact (cnd_f (bfalse c1) (cnd_f (bfalse c9) (cnd_f (bfalse c11) (cnd_f (bfalse c13) (cnd_t c15 ⟨rfl, rfl⟩)))))
          · cases h16
            exact (cnd_f (bfalse c1) (cnd_f (bfalse c9) (cnd_f (bfalse c11) (cnd_f (bfalse c13) (cnd_f (bfalse c15) ⟨rfl, rfl⟩)))))

def value_Right (v : Val) : Bool := rightV v

@[simp] theorem value_Right_eq (v : Val) : value_Right v = rightV v := by unfold value_Right; rfl
theorem V_odd_run (c : Nat) : V_value_odd [.v (.s (.int .i32 (c : Nat)))] = some ([], [.v (cb (decide (c < 32) || decide (126 < c)))]) := by
  have : value_odd (c : Nat) = (decide (c < 32) || decide (126 < c)) := by
    unfold value_odd
    split
    · rename_i h; have : c < 32 := by have := of_decide_eq_true h; omega
      simp [this]
    · rename_i h; have : ¬ c < 32 := fun hc => h (decide_eq_true (by omega))
      simp only [this, decide_false, Bool.false_or]
      congr 1; simp only [eq_iff_iff]; omega
  simp only [V_value_odd, dI_mk, Option.bind_some, this]
theorem odd_runes : runesOK V_value_odd = true := (runesOK_iff _).2 fun c _ => by
  simp only [runeP, V_odd_run]; rfl
theorem and_not_one {n : Int} (hn : WI n) : (IntKind.i64.wrap ↑(BitVec.ofInt IntKind.i64.bits n &&& ~~~BitVec.ofInt IntKind.i64.bits (1 : Int)).toNat == (0 : Int)) = decide (n = 0 ∨ n = 1) := by
  have key : IntKind.i64.wrap ↑(BitVec.ofInt IntKind.i64.bits n &&& ~~~BitVec.ofInt IntKind.i64.bits (1 : Int)).toNat = 0 ↔ n = 0 ∨ n = 1 := by
    have hb : (BitVec.ofInt 64 n &&& ~~~BitVec.ofInt 64 (1 : Int)).toNat < 2 ^ 64 := BitVec.isLt _
    have hw : IntKind.i64.wrap ↑(BitVec.ofInt 64 n &&& ~~~BitVec.ofInt 64 (1 : Int)).toNat = 0 ↔ (BitVec.ofInt 64 n &&& ~~~BitVec.ofInt 64 (1 : Int)).toNat = 0 := by
      generalize (BitVec.ofInt 64 n &&& ~~~BitVec.ofInt 64 (1 : Int)).toNat = m at hb
      have e : IntKind.i64.wrap (m : Int) = if (m : Int) % 2 ^ 64 ≥ 2 ^ 63 then (m : Int) % 2 ^ 64 - 2 ^ 64 else (m : Int) % 2 ^ 64 := by
        simp [IntKind.wrap, IntKind.signed, IntKind.bits]
      rw [e]; split <;> omega
    refine hw.trans ?_
    have hn2 : (BitVec.ofInt 64 n).toNat = (n % 2 ^ 64).toNat := by rw [BitVec.toNat_ofInt]; rfl
    constructor
    · intro h0
      have hx : ∀ i, 1 ≤ i → (BitVec.ofInt 64 n).toNat.testBit i = false := by
        intro i hi
        have h1 : (BitVec.ofInt 64 n &&& ~~~BitVec.ofInt 64 (1 : Int)).getLsbD i = false := by
          rw [BitVec.getLsbD, h0]; simp
        rw [BitVec.getLsbD_and, BitVec.getLsbD_not] at h1
        by_cases hi2 : i < 64
        · have h2 : (BitVec.ofInt 64 (1 : Int)).getLsbD i = false := by
            have : BitVec.ofInt 64 (1 : Int) = 1#64 := rfl
            rw [this, BitVec.getLsbD_one]; simp; omega
          rw [h2] at h1
          simp only [hi2, decide_true, Bool.not_false, Bool.and_true] at h1
          exact h1
        · exact Nat.testBit_lt_two_pow (Nat.lt_of_lt_of_le (BitVec.isLt _) (Nat.pow_le_pow_right (by decide) (by omega)))
      have hlt : (BitVec.ofInt 64 n).toNat < 2 ^ 1 := Nat.lt_pow_two_of_testBit _ hx
      omega
    · intro h
      rcases h with rfl | rfl <;> decide
  rw [Bool.eq_iff_iff, beq_iff_eq, decide_eq_true_eq]
  exact key
theorem value_Right_spec (v : Val) (hv : WS .val v) : value_Right_fn v = some (value_Right v) := by
  have hr : runeP V_value_odd = fun c => decide (c < 32) || decide (126 < c) := by
    funext c; unfold runeP; rw [V_odd_run]; rfl
  have hI : (strings_IndexFunc v.s V_value_odd < 0) ↔ ∀ b ∈ v.s.toList, 32 ≤ b.toNat ∧ b.toNat ≤ 126 := by
    unfold strings_IndexFunc idxF
    rw [odd_idx (by rw [hr]; intro c; rfl) v.s v.s.size 0 (by omega)]
    simp
  have hN := hv.val_n
  unfold value_Right_fn value_Right rightV
  simp only [beq_iff_eq, odd_runes, if_true, empty_eq, num_In_spec, decide_eq_true_eq, and_not_one hN]
  by_cases h3 : v.kind = 3
  · by_cases h0 : v.n = 0
    · by_cases hs : v.s.size ≤ 100
      · have hs' : (v.s.size : Int) ≤ 100 := by omega
        have : (v.s.toList.all fun b => decide (32 ≤ b.toNat ∧ b.toNat ≤ 126)) = decide (strings_IndexFunc v.s V_value_odd < 0) := by
          rw [Bool.eq_iff_iff, decide_eq_true_eq, hI]; simp
        simp only [h3, h0, hs, hs', plainB, this]; simp
      · have hs' : ¬ (v.s.size : Int) ≤ 100 := by omega
        simp [h3, h0, hs, hs', plainB]
    · simp [h3, h0]
  · by_cases hs : v.s.size = 0
    · by_cases k0 : v.kind = 0
      · simp [k0, hs]; rfl
      · by_cases k1 : v.kind = 1
        · simp [k1, hs]
        · by_cases k2 : v.kind = 2
          · simp [k2, hs]
          · simp [h3, k0, k1, k2, hs]
    · simp [h3, hs]

def F_value_Right : FnC Un := fun args => match args with
  | [x0] => (dS .val x0).bind fun v => some ([], A_value_Right (value_Right v), O_value_Right (value_Right v))
  | _ => none

theorem ok_value_Right : FnOK 41 F_value_Right := by
  intro args ob rs os h hob
  unfold F_value_Right at h
  split at h
  · simp only [Option.bind_eq_some_iff, Option.some.injEq, Prod.mk.injEq] at h
    obtain ⟨v, e0, rfl, rfl, rfl⟩ := h
    obtain rfl := dS_eq e0
    exact ⟨fn_contract (M := M_value_Right) rfl (tbl_ok (l1 := [(46, F_strings_IndexFunc), (38, F_num_In)]) (l2 := [(47, V_value_odd)]) (l3 := []) (l4 := []) (l5 := []) ⟨ok_strings_IndexFunc, ok_num_In, trivial⟩ ⟨okV_value_odd, trivial⟩ trivial trivial trivial) Try.func41 (by kernel_rfl) N_value_Right 0 [.d] (fun hwf => value_Right_run (value_Right_spec v (wfArg hwf (a := .d (.agg (enc Ty.val v))) (List.mem_of_getElem? (i := 0) rfl)))), hasBody_of Try.func41 (by kernel_rfl) (by kernel_rfl)⟩
  · simp at h


end
end Go.Proofs.Ytpaelnkffpmfaaa.B
