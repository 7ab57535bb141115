/- Part 16 of the proof: Svalue Sref03 Sspec26. -/
import Derived.Test.YtjmpnpkcgkhagaaAcw15
namespace Go.Proofs.Ytjmpnpkcgkhagaa.B
open Go Go.RowKit
set_option maxRecDepth 100000
noncomputable section
attribute [local irreducible] awp ctxK itersK iterK retQ retGQ
theorem odd_idx {p : Nat → Bool} (hp : ∀ c, p c = (decide (c < 32) || decide (126 < c))) (s : ByteArray) : ∀ (f pos : Nat), s.size ≤ pos + f → (idxFrom p true s f pos < 0 ↔ ∀ b ∈ s.toList.drop pos, 32 ≤ b.toNat ∧ b.toNat ≤ 126)
  | 0, pos, h => by
    have : s.toList.drop pos = [] := List.drop_of_length_le (by rw [toList_size]; omega)
    simp [idxFrom, this]
  | f + 1, pos, h => by
    by_cases hps : pos < s.size
    · have hl : pos < s.toList.length := by rw [toList_size]; exact hps
      have hd : s.toList.drop pos = s.toList.getD pos 0 :: s.toList.drop (pos + 1) := by
        rw [List.drop_eq_getElem_cons hl, List.getD_eq_getElem?_getD, List.getElem?_eq_getElem hl]; rfl
      simp only [idxFrom, hps, if_true]
      rw [hd, List.forall_mem_cons]
      have hdec := decode_get s pos hps
      generalize s.toList.getD pos 0 = b at hdec ⊢
      rcases hdec with ⟨h1, h2⟩ | ⟨h1, h2⟩
      · rw [h1, h2, ← odd_idx hp s f (pos + 1) (by omega), hp]
        by_cases hb : 32 ≤ b.toNat ∧ b.toNat ≤ 126
        · have e : (decide (b.toNat < 32) || decide (126 < b.toNat)) = false := by simp; omega
          rw [e]; simp [hb]
        · have e : (decide (b.toNat < 32) || decide (126 < b.toNat)) = true := by simp; omega
          rw [e]; simp only [if_true]; constructor
          · intro hh; omega
          · intro hh; exact absurd hh.1 hb
      · have e : p (Utf8.decode s pos).1 = true := by rw [hp]; simp; omega
        rw [e]; simp only [if_true]; constructor
        · intro hh; omega
        · intro hh; omega
    · have : s.toList.drop pos = [] := List.drop_of_length_le (by rw [toList_size]; omega)
      rw [idxFrom_end _ _ _ _ _ hps]; simp [this]
def M_value_odd : Mc Un := mach (tbl []) (tbl []) (tbl []) (tbl []) (tbl [])
def N_value_odd : Nat → NS := fun l => (look l []).getD ⟨[], [], [], [], [], false⟩
def A_value_odd (r : Bool) : List (A Un) := [.c (.s (.bool r))]
def O_value_odd (_r : Bool) : List (Ob Un) := []
theorem value_odd_in (c : Int) (K : List (A Un) → List (Ob Un) → Prop) :
    awp M_value_odd N_value_odd (bodyOf Try.f27) (entry Try.f27.ntmps 0 [.d (.v (.s (.int .i32 c)))]) (retQ M_value_odd Try.f27.results.toList [.d] K) =
(cnd (decide (c < (32 : Int)))
 (K (A_value_odd (true)) (O_value_odd (true)))
 (K (A_value_odd (decide (c > (126 : Int)))) (O_value_odd (decide (c > (126 : Int)))))) := by kernel_rfl
def value_odd_fn (c : Int) : Option (Bool) :=
  if (decide (c < (32 : Int))) = true then
   some (true)
  else
   some (decide (c > (126 : Int)))
theorem value_odd_run {c : Int} {r : Bool} (h : value_odd_fn c = some r) : Runs (awp M_value_odd N_value_odd (bodyOf Try.f27) (entry Try.f27.ntmps 0 [.d (.v (.s (.int .i32 c)))]) (retQ M_value_odd Try.f27.results.toList [.d] fun rs os => rs = A_value_odd r ∧ os = O_value_odd r)) := by
  constructor
  rw [value_odd_in c (fun rs os => rs = A_value_odd r ∧ os = O_value_odd r)]
  unfold value_odd_fn at h
  rcases ite_some h with ⟨c1, h2⟩ | ⟨c1, h2⟩
  · cases h2
    exact (cnd_t c1 ⟨rfl, rfl⟩)
  · cases h2
    exact (cnd_f (bfalse c1) ⟨rfl, rfl⟩)
def value_odd (c : Int) : Bool :=
  if (decide (c < (32 : Int))) = true then
   (true)
  else
   (decide (c > (126 : Int)))
theorem value_odd_eq (c : Int) : value_odd_fn c = some (value_odd c) := by unfold value_odd_fn value_odd; repeat (first | rfl | split)
def F_value_odd : FnC Un := fun args => match args with
  | [x0] => (dI .i32 x0).bind fun c => some ([], A_value_odd (value_odd c), O_value_odd (value_odd c))
  | _ => none
theorem ok_value_odd : FnOK 27 F_value_odd := by
  intro args ob rs os h hob
  unfold F_value_odd at h
  split at h
  · simp only [Option.bind_eq_some_iff, Option.some.injEq, Prod.mk.injEq] at h
    obtain ⟨c, e0, rfl, rfl, rfl⟩ := h
    obtain rfl := dI_eq e0
    exact ⟨fn_contract (M := M_value_odd) rfl (tbl_ok (l1 := []) (l2 := []) (l3 := []) (l4 := []) (l5 := []) trivial trivial trivial trivial trivial) Try.func27 (by kernel_rfl) N_value_odd 0 [.d] (fun hwf => value_odd_run (value_odd_eq c)), hasBody_of Try.func27 (by kernel_rfl) (by kernel_rfl)⟩
  · simp at h
def V_value_odd : FV Un := fun args => match args with
  | [x0] => (dI .i32 (.d x0)).bind fun c => some ([], [.v (cb (value_odd c))])
  | _ => none
theorem okV_value_odd : FvOK 27 V_value_odd := by
  refine ⟨hasBody_of Try.func27 (by kernel_rfl) (by kernel_rfl), fun args ob rs h hob => ?_⟩
  unfold V_value_odd at h
  split at h
  · simp only [Option.bind_eq_some_iff, Option.some.injEq, Prod.mk.injEq] at h
    obtain ⟨c, e0, rfl, rfl⟩ := h
    simp only [List.map_cons, List.map_nil]
    rw [dI_eq e0]
    refine Contract.data (ok_value_odd _ ([]) _ _ (?_ : F_value_odd _ = some _) (by simp)).1
    unfold F_value_odd
    simp only [dI_mk]
    rfl
  · simp at h
def M_value_Right : Mc Un := mach (tbl [(26, F_strings_IndexFunc), (28, F_num_In)]) (tbl [(27, V_value_odd)]) (tbl []) (tbl []) (tbl [])
def N_value_Right : Nat → NS := fun l => (look l []).getD ⟨[], [], [], [], [], false⟩
def A_value_Right (r : Bool) : List (A Un) := [.c (.s (.bool r))]
def O_value_Right (_r : Bool) : List (Ob Un) := []
theorem value_Right_in (v : Val) (K : List (A Un) → List (Ob Un) → Prop) :
    awp M_value_Right N_value_Right (bodyOf Try.f18) (entry Try.f18.ntmps 0 [.d (.agg (enc Ty.val v))]) (retQ M_value_Right Try.f18.results.toList [.d] K) =
(cnd (v.kind == (3 : Int))
 (cnd (v.n == (0 : Int))
  (cnd (decide ((↑v.s.size : Int) ≤ (100 : Int)))
   ((runesOK V_value_odd = true) ∧
   (K (A_value_Right (decide (strings_IndexFunc v.s V_value_odd < (0 : Int)))) (O_value_Right (decide (strings_IndexFunc v.s V_value_odd < (0 : Int))))))
   (K (A_value_Right (false)) (O_value_Right (false))))
  (K (A_value_Right (false)) (O_value_Right (false))))
 (cnd (!v.s.toList == (ByteArray.mk #[]).toList)
  (K (A_value_Right (false)) (O_value_Right (false)))
  (cnd (v.kind == (0 : Int))
   (K (A_value_Right (v.n == (0 : Int))) (O_value_Right (v.n == (0 : Int))))
   (cnd (v.kind == (1 : Int))
    (K (A_value_Right (IntKind.i64.wrap (↑(BitVec.ofInt IntKind.i64.bits v.n &&& ~~~BitVec.ofInt IntKind.i64.bits (1 : Int)).toNat : Int) == (0 : Int))) (O_value_Right (IntKind.i64.wrap (↑(BitVec.ofInt IntKind.i64.bits v.n &&& ~~~BitVec.ofInt IntKind.i64.bits (1 : Int)).toNat : Int) == (0 : Int))))
    (cnd (v.kind == (2 : Int))
     (K (A_value_Right (num_In v.n)) (O_value_Right (num_In v.n)))
     (K (A_value_Right (false)) (O_value_Right (false)))))))) := by kernel_rfl
def value_Right_fn (v : Val) : Option (Bool) :=
  if (v.kind == (3 : Int)) = true then
   if (v.n == (0 : Int)) = true then
    if (decide ((↑v.s.size : Int) ≤ (100 : Int))) = true then
     if runesOK V_value_odd = true then
      some (decide (strings_IndexFunc v.s V_value_odd < (0 : Int)))
     else none
    else
     some (false)
   else
    some (false)
  else
   if (!v.s.toList == (ByteArray.mk #[]).toList) = true then
    some (false)
   else
    if (v.kind == (0 : Int)) = true then
     some (v.n == (0 : Int))
    else
     if (v.kind == (1 : Int)) = true then
      some (IntKind.i64.wrap (↑(BitVec.ofInt IntKind.i64.bits v.n &&& ~~~BitVec.ofInt IntKind.i64.bits (1 : Int)).toNat : Int) == (0 : Int))
     else
      if (v.kind == (2 : Int)) = true then
       some (num_In v.n)
      else
       some (false)
theorem value_Right_run {v : Val} {r : Bool} (h : value_Right_fn v = some r) : Runs (awp M_value_Right N_value_Right (bodyOf Try.f18) (entry Try.f18.ntmps 0 [.d (.agg (enc Ty.val v))]) (retQ M_value_Right Try.f18.results.toList [.d] fun rs os => rs = A_value_Right r ∧ os = O_value_Right r)) := by
  constructor
  rw [value_Right_in v (fun rs os => rs = A_value_Right r ∧ os = O_value_Right r)]
  unfold value_Right_fn at h
  rcases ite_some h with ⟨c1, h2⟩ | ⟨c1, h2⟩
  · rcases ite_some h2 with ⟨c3, h4⟩ | ⟨c3, h4⟩
    · rcases ite_some h4 with ⟨c5, h6⟩ | ⟨c5, h6⟩
      · obtain ⟨c7, h8⟩ := ob_some h6
        cases h8
        exact (cnd_t c1 (cnd_t c3 (cnd_t c5 (And.intro c7 ⟨rfl, rfl⟩))))
      · cases h6
        exact (cnd_t c1 (cnd_t c3 (cnd_f (bfalse c5) ⟨rfl, rfl⟩)))
    · cases h4
      exact (cnd_t c1 (cnd_f (bfalse c3) ⟨rfl, rfl⟩))
  · rcases ite_some h2 with ⟨c9, h10⟩ | ⟨c9, h10⟩
    · cases h10
      exact (cnd_f (bfalse c1) (cnd_t c9 ⟨rfl, rfl⟩))
    · rcases ite_some h10 with ⟨c11, h12⟩ | ⟨c11, h12⟩
      · cases h12
        exact (cnd_f (bfalse c1) (cnd_f (bfalse c9) (cnd_t c11 ⟨rfl, rfl⟩)))
      · rcases ite_some h12 with ⟨c13, h14⟩ | ⟨c13, h14⟩
        · cases h14
          exact (cnd_f (bfalse c1) (cnd_f (bfalse c9) (cnd_f (bfalse c11) (cnd_t c13 ⟨rfl, rfl⟩))))
        · rcases ite_some h14 with ⟨c15, h16⟩ | ⟨c15, h16⟩
          · cases h16
            exact (cnd_f (bfalse c1) (cnd_f (bfalse c9) (cnd_f (bfalse c11) (cnd_f (bfalse c13) (cnd_t c15 ⟨rfl, rfl⟩)))))
          · cases h16
            exact (cnd_f (bfalse c1) (cnd_f (bfalse c9) (cnd_f (bfalse c11) (cnd_f (bfalse c13) (cnd_f (bfalse c15) ⟨rfl, rfl⟩)))))
def value_Right (v : Val) : Bool := rightV v
@[simp] theorem value_Right_eq (v : Val) : value_Right v = rightV v := by unfold value_Right; rfl
theorem V_odd_run (c : Nat) : V_value_odd [.v (.s (.int .i32 (c : Nat)))] = some ([], [.v (cb (decide (c < 32) || decide (126 < c)))]) := by
  have : value_odd (c : Nat) = (decide (c < 32) || decide (126 < c)) := by
    unfold value_odd
    split
    · rename_i h; have : c < 32 := by have := of_decide_eq_true h; omega
      simp [this]
    · rename_i h; have : ¬ c < 32 := fun hc => h (decide_eq_true (by omega))
      simp only [this, decide_false, Bool.false_or]
      congr 1; simp only [eq_iff_iff]; omega
  simp only [V_value_odd, dI_mk, Option.bind_some, this]
theorem odd_runes : runesOK V_value_odd = true := (runesOK_iff _).2 fun c _ => by
  simp only [runeP, V_odd_run]; rfl
theorem and_not_one {n : Int} (hn : WI n) : (IntKind.i64.wrap ↑(BitVec.ofInt IntKind.i64.bits n &&& ~~~BitVec.ofInt IntKind.i64.bits (1 : Int)).toNat == (0 : Int)) = decide (n = 0 ∨ n = 1) := by
  have key : IntKind.i64.wrap ↑(BitVec.ofInt IntKind.i64.bits n &&& ~~~BitVec.ofInt IntKind.i64.bits (1 : Int)).toNat = 0 ↔ n = 0 ∨ n = 1 := by
    have hb : (BitVec.ofInt 64 n &&& ~~~BitVec.ofInt 64 (1 : Int)).toNat < 2 ^ 64 := BitVec.isLt _
    have hw : IntKind.i64.wrap ↑(BitVec.ofInt 64 n &&& ~~~BitVec.ofInt 64 (1 : Int)).toNat = 0 ↔ (BitVec.ofInt 64 n &&& ~~~BitVec.ofInt 64 (1 : Int)).toNat = 0 := by
      generalize (BitVec.ofInt 64 n &&& ~~~BitVec.ofInt 64 (1 : Int)).toNat = m at hb
      have e : IntKind.i64.wrap (m : Int) = if (m : Int) % 2 ^ 64 ≥ 2 ^ 63 then (m : Int) % 2 ^ 64 - 2 ^ 64 else (m : Int) % 2 ^ 64 := by
        simp [IntKind.wrap, IntKind.signed, IntKind.bits]
      rw [e]; split <;> omega
    refine hw.trans ?_
    have hn2 : (BitVec.ofInt 64 n).toNat = (n % 2 ^ 64).toNat := by rw [BitVec.toNat_ofInt]; rfl
    constructor
    · intro h0
      have hx : ∀ i, 1 ≤ i → (BitVec.ofInt 64 n).toNat.testBit i = false := by
        intro i hi
        have h1 : (BitVec.ofInt 64 n &&& ~~~BitVec.ofInt 64 (1 : Int)).getLsbD i = false := by
          rw [BitVec.getLsbD, h0]; simp
        rw [BitVec.getLsbD_and, BitVec.getLsbD_not] at h1
        by_cases hi2 : i < 64
        · have h2 : (BitVec.ofInt 64 (1 : Int)).getLsbD i = false := by
            have : BitVec.ofInt 64 (1 : Int) = 1#64 := rfl
            rw [this, BitVec.getLsbD_one]; simp; omega
          rw [h2] at h1
          simp only [hi2, decide_true, Bool.not_false, Bool.and_true] at h1
          exact h1
        · exact Nat.testBit_lt_two_pow (Nat.lt_of_lt_of_le (BitVec.isLt _) (Nat.pow_le_pow_right (by decide) (by omega)))
      have hlt : (BitVec.ofInt 64 n).toNat < 2 ^ 1 := Nat.lt_pow_two_of_testBit _ hx
      omega
    · intro h
      rcases h with rfl | rfl <;> decide
  rw [Bool.eq_iff_iff, beq_iff_eq, decide_eq_true_eq]
  exact key
theorem value_Right_spec (v : Val) (hv : WS .val v) : value_Right_fn v = some (value_Right v) := by
  have hr : runeP V_value_odd = fun c => decide (c < 32) || decide (126 < c) := by
    funext c; unfold runeP; rw [V_odd_run]; rfl
  have hI : (strings_IndexFunc v.s V_value_odd < 0) ↔ ∀ b ∈ v.s.toList, 32 ≤ b.toNat ∧ b.toNat ≤ 126 := by
    unfold strings_IndexFunc idxF
    rw [odd_idx (by rw [hr]; intro c; rfl) v.s v.s.size 0 (by omega)]
    simp
  have hN := hv.val_n
  unfold value_Right_fn value_Right rightV
  simp only [beq_iff_eq, odd_runes, if_true, empty_eq, num_In_spec, decide_eq_true_eq, and_not_one hN]
  by_cases h3 : v.kind = 3
  · by_cases h0 : v.n = 0
    · by_cases hs : v.s.size ≤ 100
      · have hs' : (v.s.size : Int) ≤ 100 := by omega
        have : (v.s.toList.all fun b => decide (32 ≤ b.toNat ∧ b.toNat ≤ 126)) = decide (strings_IndexFunc v.s V_value_odd < 0) := by
          rw [Bool.eq_iff_iff, decide_eq_true_eq, hI]; simp
        simp only [h3, h0, hs, hs', plainB, this]; simp
      · have hs' : ¬ (v.s.size : Int) ≤ 100 := by omega
        simp [h3, h0, hs, hs', plainB]
    · simp [h3, h0]
  · by_cases hs : v.s.size = 0
    · by_cases k0 : v.kind = 0
      · simp [k0, hs]; rfl
      · by_cases k1 : v.kind = 1
        · simp [k1, hs]
        · by_cases k2 : v.kind = 2
          · simp [k2, hs]
          · simp [h3, k0, k1, k2, hs]
    · simp [h3, hs]
def F_value_Right : FnC Un := fun args => match args with
  | [x0] => (dS .val x0).bind fun v => some ([], A_value_Right (value_Right v), O_value_Right (value_Right v))
  | _ => none
theorem ok_value_Right : FnOK 18 F_value_Right := by
  intro args ob rs os h hob
  unfold F_value_Right at h
  split at h
  · simp only [Option.bind_eq_some_iff, Option.some.injEq, Prod.mk.injEq] at h
    obtain ⟨v, e0, rfl, rfl, rfl⟩ := h
    obtain rfl := dS_eq e0
    exact ⟨fn_contract (M := M_value_Right) rfl (tbl_ok (l1 := [(26, F_strings_IndexFunc), (28, F_num_In)]) (l2 := [(27, V_value_odd)]) (l3 := []) (l4 := []) (l5 := []) ⟨ok_strings_IndexFunc, ok_num_In, trivial⟩ ⟨okV_value_odd, trivial⟩ trivial trivial trivial) Try.func18 (by kernel_rfl) N_value_Right 0 [.d] (fun hwf => value_Right_run (value_Right_spec v (wfArg hwf (a := .d (.agg (enc Ty.val v))) (List.mem_of_getElem? (i := 0) rfl)))), hasBody_of Try.func18 (by kernel_rfl) (by kernel_rfl)⟩
  · simp at h
end
end Go.Proofs.Ytjmpnpkcgkhagaa.B
namespace Go.Proofs.Ytjmpnpkcgkhagaa.B
open Go Go.RowKit
set_option maxRecDepth 100000
noncomputable section
attribute [local irreducible] awp ctxK itersK iterK retQ retGQ
def M_r03_ints : Mc Un := mach (tbl []) (tbl []) (tbl []) (tbl []) (tbl [])
def N_r03_ints : Nat → NS := fun l => (look l []).getD ⟨[], [], [], [], [], false⟩
def A_r03_ints (r : Int) : List (A Un) := [.c (.s (.int .i64 r))]
def O_r03_ints (_r : Int) : List (Ob Un) := []
theorem r03_ints_in (a : Int) (b : Int) (K : List (A Un) → List (Ob Un) → Prop) :
    awp M_r03_ints N_r03_ints (bodyOf Try.f32) (entry Try.f32.ntmps 0 [.d (.v (.s (.int .i64 a))), .d (.v (.s (.int .i64 b)))]) (retQ M_r03_ints Try.f32.results.toList [.d] K) =
(cnd (decide (a < b))
 (K (A_r03_ints ((-1 : Int))) (O_r03_ints ((-1 : Int))))
 (cnd (decide (a > b))
  (K (A_r03_ints ((1 : Int))) (O_r03_ints ((1 : Int))))
  (K (A_r03_ints ((0 : Int))) (O_r03_ints ((0 : Int)))))) := by kernel_rfl
def r03_ints_fn (a : Int) (b : Int) : Option (Int) :=
  if (decide (a < b)) = true then
   some ((-1 : Int))
  else
   if (decide (a > b)) = true then
    some ((1 : Int))
   else
    some ((0 : Int))
theorem r03_ints_run {a : Int} {b : Int} {r : Int} (h : r03_ints_fn a b = some r) : Runs (awp M_r03_ints N_r03_ints (bodyOf Try.f32) (entry Try.f32.ntmps 0 [.d (.v (.s (.int .i64 a))), .d (.v (.s (.int .i64 b)))]) (retQ M_r03_ints Try.f32.results.toList [.d] fun rs os => rs = A_r03_ints r ∧ os = O_r03_ints r)) := by
  constructor
  rw [r03_ints_in a b (fun rs os => rs = A_r03_ints r ∧ os = O_r03_ints r)]
  unfold r03_ints_fn at h
  rcases ite_some h with ⟨c1, h2⟩ | ⟨c1, h2⟩
  · cases h2
    exact (cnd_t c1 ⟨rfl, rfl⟩)
  · rcases ite_some h2 with ⟨c3, h4⟩ | ⟨c3, h4⟩
    · cases h4
      exact (cnd_f (bfalse c1) (cnd_t c3 ⟨rfl, rfl⟩))
    · cases h4
      exact (cnd_f (bfalse c1) (cnd_f (bfalse c3) ⟨rfl, rfl⟩))
def r03_ints (a : Int) (b : Int) : Int :=
  if (decide (a < b)) = true then
   ((-1 : Int))
  else
   if (decide (a > b)) = true then
    ((1 : Int))
   else
    ((0 : Int))
theorem r03_ints_eq (a : Int) (b : Int) : r03_ints_fn a b = some (r03_ints a b) := by unfold r03_ints_fn r03_ints; repeat (first | rfl | split)
def F_r03_ints : FnC Un := fun args => match args with
  | [x0, x1] => (dI .i64 x0).bind fun a => (dI .i64 x1).bind fun b => some ([], A_r03_ints (r03_ints a b), O_r03_ints (r03_ints a b))
  | _ => none
theorem ok_r03_ints : FnOK 32 F_r03_ints := by
  intro args ob rs os h hob
  unfold F_r03_ints at h
  split at h
  · simp only [Option.bind_eq_some_iff, Option.some.injEq, Prod.mk.injEq] at h
    obtain ⟨a, e0, b, e1, rfl, rfl, rfl⟩ := h
    obtain rfl := dI_eq e0
    obtain rfl := dI_eq e1
    exact ⟨fn_contract (M := M_r03_ints) rfl (tbl_ok (l1 := []) (l2 := []) (l3 := []) (l4 := []) (l5 := []) trivial trivial trivial trivial trivial) Try.func32 (by kernel_rfl) N_r03_ints 0 [.d] (fun hwf => r03_ints_run (r03_ints_eq a b)), hasBody_of Try.func32 (by kernel_rfl) (by kernel_rfl)⟩
  · simp at h
@[simp] theorem r03_ints_spec (a b : Int) : r03_ints a b = cmpI a b := by
  unfold r03_ints cmpI; simp only [decide_eq_true_eq]
def M_r03_texts : Mc Un := mach (tbl [(32, F_r03_ints)]) (tbl []) (tbl []) (tbl []) (tbl [])
def N_r03_texts : Nat → NS := fun l => (look l [(2, { ts := [true, true, false, false, true, true, false, false, false, false, false, false, false, false, false, false, false, false, false, false, false, false, false, false, false, false, false, false, false, false, false, false, false, false, false, false, false, false, false], bs := [false, false, false, false, false, false, false, false, false, false, false, false, false, false, false, false, false, false, false, false, false, false, false, false, false, false, false, false, false, false, false, false, false, false, false, false, false, false, false], nm := [], gb := [], gs := [] })]).getD ⟨[], [], [], [], [], false⟩
def A_r03_texts (r : Int) : List (A Un) := [.c (.s (.int .i64 r))]
def O_r03_texts (_r : Int) : List (Ob Un) := []
def r03_texts_s2 (a : ByteArray) (b : ByteArray) (v0 : Int) : S Un := (st 39 39 156 0 [(0, AV.one (A.c (C.s (Value.string a)))), (1, AV.one (A.c (C.s (Value.string b)))), (4, AV.one (A.c (C.s (Value.int IntKind.i64 (0 : Int))))), (5, AV.one (A.c (C.s (Value.int IntKind.i64 v0))))] [] [])
def r03_texts_e2_ret (a : ByteArray) (b : ByteArray) (v0 : Int) (v1 : Int) : S Un := (st 39 39 156 0 [(0, AV.one (A.c (C.s (Value.string a)))), (1, AV.one (A.c (C.s (Value.string b)))), (4, AV.one (A.c (C.s (Value.int IntKind.i64 v1)))), (5, AV.one (A.c (C.s (Value.int IntKind.i64 v0))))] [] [])
theorem r03_texts_in (a : ByteArray) (b : ByteArray) (K : List (A Un) → List (Ob Un) → Prop) :
    awp M_r03_texts N_r03_texts (bodyOf Try.f52) (entry Try.f52.ntmps 0 [.d (.v (cs a)), .d (.v (cs b))]) (retQ M_r03_texts Try.f52.results.toList [.d] K) =
(itersK (N_r03_texts 2) (awp M_r03_texts N_r03_texts (sub (bodyOf Try.f52) [1, 0, 1, 2, 2])) (ctxK M_r03_texts N_r03_texts (bodyOf Try.f52) [1, 0, 1, 2] (retQ M_r03_texts Try.f52.results.toList [.d] K)) (r03_texts_s2 a b (0 : Int))) := by kernel_rfl
theorem r03_texts_l2 (a : ByteArray) (b : ByteArray) (v0 : Int) (k : Nat) (Q : Exit → S Un → Prop) :
    iterK (N_r03_texts 2) (awp M_r03_texts N_r03_texts (sub (bodyOf Try.f52) [1, 0, 1, 2, 2])) Q (k + 1) (r03_texts_s2 a b v0) =
(cnd (decide (v0 < (↑a.size : Int)))
 (cnd (decide (v0 < (↑b.size : Int)))
  (((0 : Int) ≤ v0 ∧ v0 < (↑a.size : Int)) ∧
  (((0 : Int) ≤ v0 ∧ v0 < (↑b.size : Int)) ∧
  (cnd ((↑(a.toList.getD v0.toNat (0 : UInt8)).toNat : Int) != (↑(b.toList.getD v0.toNat (0 : UInt8)).toNat : Int))
   (((0 : Int) ≤ v0 ∧ v0 < (↑a.size : Int)) ∧
   (((0 : Int) ≤ v0 ∧ v0 < (↑b.size : Int)) ∧
   (Q .ret (r03_texts_e2_ret a b v0 (r03_ints (IntKind.i64.wrap (↑(a.toList.getD v0.toNat (0 : UInt8)).toNat : Int)) (IntKind.i64.wrap (↑(b.toList.getD v0.toNat (0 : UInt8)).toNat : Int)))))))
   (iterK (N_r03_texts 2) (awp M_r03_texts N_r03_texts (sub (bodyOf Try.f52) [1, 0, 1, 2, 2])) Q k (r03_texts_s2 a b (IntKind.i64.wrap (v0 + (1 : Int))))))))
  (Q (.exit 0) (r03_texts_s2 a b v0)))
 (Q (.exit 0) (r03_texts_s2 a b v0))) := by kernel_rfl
theorem r03_texts_a2_ret (a : ByteArray) (b : ByteArray) (v0 : Int) (v1 : Int) (K : List (A Un) → List (Ob Un) → Prop) :
    ctxK M_r03_texts N_r03_texts (bodyOf Try.f52) [1, 0, 1, 2] (retQ M_r03_texts Try.f52.results.toList [.d] K) .ret (r03_texts_e2_ret a b v0 v1) =
(K (A_r03_texts (v1)) (O_r03_texts (v1))) := by kernel_rfl
theorem r03_texts_a2_x0 (a : ByteArray) (b : ByteArray) (v0 : Int) (K : List (A Un) → List (Ob Un) → Prop) :
    ctxK M_r03_texts N_r03_texts (bodyOf Try.f52) [1, 0, 1, 2] (retQ M_r03_texts Try.f52.results.toList [.d] K) (.exit 0) (r03_texts_s2 a b v0) =
(K (A_r03_texts (r03_ints (↑a.size : Int) (↑b.size : Int))) (O_r03_texts (r03_ints (↑a.size : Int) (↑b.size : Int)))) := by kernel_rfl
def r03_texts_S2 (a : ByteArray) (b : ByteArray) (v : Int) : Option ((Int) ⊕ ((Int × Int) ⊕ (Int))) :=
  if (decide (v < (↑a.size : Int))) = true then
   if (decide (v < (↑b.size : Int))) = true then
    if (0 : Int) ≤ v ∧ v < (↑a.size : Int) then
     if (0 : Int) ≤ v ∧ v < (↑b.size : Int) then
      if ((↑(a.toList.getD v.toNat (0 : UInt8)).toNat : Int) != (↑(b.toList.getD v.toNat (0 : UInt8)).toNat : Int)) = true then
       if (0 : Int) ≤ v ∧ v < (↑a.size : Int) then
        if (0 : Int) ≤ v ∧ v < (↑b.size : Int) then
         some (.inr (.inl (v, (r03_ints (IntKind.i64.wrap (↑(a.toList.getD v.toNat (0 : UInt8)).toNat : Int)) (IntKind.i64.wrap (↑(b.toList.getD v.toNat (0 : UInt8)).toNat : Int))))))
        else none
       else none
      else
       some (.inl (IntKind.i64.wrap (v + (1 : Int))))
     else none
    else none
   else
    some (.inr (.inr v))
  else
   some (.inr (.inr v))
def r03_texts_L2 (a : ByteArray) (b : ByteArray) (v : Int) : Option ((Int × Int) ⊕ (Int)) := loopO (r03_texts_S2 a b) v
theorem r03_texts_L2_eq (a : ByteArray) (b : ByteArray) (v : Int) : r03_texts_L2 a b v = stepB (r03_texts_L2 a b) (r03_texts_S2 a b v) := loopO_eq _ _
def r03_texts_Q2 (a : ByteArray) (b : ByteArray) (r : (Int × Int) ⊕ (Int)) (Q : Exit → S Un → Prop) : Prop := match r with | .inl x => Q .ret (r03_texts_e2_ret a b x.1 x.2) | .inr x => Q (.exit 0) (r03_texts_s2 a b x)
theorem r03_texts_Q2_ret {a : ByteArray} {b : ByteArray} {x : Int × Int} {Q : Exit → S Un → Prop} (h : Q .ret (r03_texts_e2_ret a b x.1 x.2)) : r03_texts_Q2 a b (.inl x) Q := h
theorem r03_texts_Q2_x0 {a : ByteArray} {b : ByteArray} {x : Int} {Q : Exit → S Un → Prop} (h : Q (.exit 0) (r03_texts_s2 a b x)) : r03_texts_Q2 a b (.inr x) Q := h
theorem r03_texts_L2_run {a : ByteArray} {b : ByteArray} {v : Int} {r : (Int × Int) ⊕ (Int)} (h : r03_texts_L2 a b v = some r) (Q : Exit → S Un → Prop) (hQ : r03_texts_Q2 a b r Q) : itersK (N_r03_texts 2) (awp M_r03_texts N_r03_texts (sub (bodyOf Try.f52) [1, 0, 1, 2, 2])) Q (r03_texts_s2 a b v) := by
  refine @loop_run _ _ (r03_texts_S2 a b) (fun v => itersK (N_r03_texts 2) (awp M_r03_texts N_r03_texts (sub (bodyOf Try.f52) [1, 0, 1, 2, 2])) Q (r03_texts_s2 a b v)) (fun r => r03_texts_Q2 a b r Q) ?_ v r h hQ
  intro v o h hI
  unfold r03_texts_S2 at h
  rcases ite_some h with ⟨c1, h2⟩ | ⟨c1, h2⟩
  · rcases ite_some h2 with ⟨c3, h4⟩ | ⟨c3, h4⟩
    · obtain ⟨c5, h6⟩ := ob_some h4
      obtain ⟨c7, h8⟩ := ob_some h6
      rcases ite_some h8 with ⟨c9, h10⟩ | ⟨c9, h10⟩
      · obtain ⟨c11, h12⟩ := ob_some h10
        obtain ⟨c13, h14⟩ := ob_some h12
        cases h14
        exact itersK_mk 1 (mpr (r03_texts_l2 a b v 0 Q) (cnd_t c1 (cnd_t c3 (And.intro c5 (And.intro c7 (cnd_t c9 (And.intro c11 (And.intro c13 hI))))))))
      · cases h10
        obtain ⟨k15, hk16⟩ := itersK_get hI
        exact itersK_mk (k15 + 1) (mpr (r03_texts_l2 a b v k15 Q) (cnd_t c1 (cnd_t c3 (And.intro c5 (And.intro c7 (cnd_f (bfalse c9) hk16))))))
    · cases h4
      exact itersK_mk 1 (mpr (r03_texts_l2 a b v 0 Q) (cnd_t c1 (cnd_f (bfalse c3) hI)))
  · cases h2
    exact itersK_mk 1 (mpr (r03_texts_l2 a b v 0 Q) (cnd_f (bfalse c1) hI))
def r03_texts_fn (a : ByteArray) (b : ByteArray) : Option (Int) :=
  (r03_texts_L2 a b (0 : Int)) >>= fun o17 => match o17 with
   | .inl o18 =>
     some (o18.2)
   | .inr o19 =>
     some (r03_ints (↑a.size : Int) (↑b.size : Int))
theorem r03_texts_run {a : ByteArray} {b : ByteArray} {r : Int} (h : r03_texts_fn a b = some r) : Runs (awp M_r03_texts N_r03_texts (bodyOf Try.f52) (entry Try.f52.ntmps 0 [.d (.v (cs a)), .d (.v (cs b))]) (retQ M_r03_texts Try.f52.results.toList [.d] fun rs os => rs = A_r03_texts r ∧ os = O_r03_texts r)) := by
  constructor
  rw [r03_texts_in a b (fun rs os => rs = A_r03_texts r ∧ os = O_r03_texts r)]
  unfold r03_texts_fn at h
  obtain ⟨o20, ho21, h22⟩ := bind_some h
  rcases o20 with o23 | o24
  · cases h22
    exact (r03_texts_L2_run ho21 _ (r03_texts_Q2_ret (mpr (r03_texts_a2_ret a b o23.1 o23.2 _) ⟨rfl, rfl⟩)))
  · cases h22
    exact (r03_texts_L2_run ho21 _ (r03_texts_Q2_x0 (mpr (r03_texts_a2_x0 a b o24 _) ⟨rfl, rfl⟩)))
def r03_texts (a b : ByteArray) : Int := cmpS a b
@[simp] theorem r03_texts_eq (a b : ByteArray) : r03_texts a b = cmpS a b := by unfold r03_texts; rfl
theorem r03_texts_loop (a b : ByteArray) (ha : WStr a) (hb : WStr b) : ∀ (ra rb : List UInt8) (i : Nat), a.toList.drop i = ra → b.toList.drop i = rb → i ≤ a.size → i ≤ b.size →
    ∃ o, r03_texts_L2 a b i = some o ∧ (match o with | .inl o => o.2 | .inr _ => cmpI a.size b.size) = cmpL ra rb := by
  intro ra
  induction ra with
  | nil =>
    intro rb i h1 h2 h3 h4
    have e1 := drop_len h1; have e2 := drop_len h2
    rw [toList_size] at e1 e2
    simp only [List.length_nil] at e1
    have hn : ¬ ((i : Int) < a.size) := by omega
    refine ⟨.inr i, by rw [r03_texts_L2_eq, r03_texts_S2]; simp [hn], ?_⟩
    simp only
    cases rb with
    | nil => simp at e2; unfold cmpI cmpL; rw [if_neg (by omega), if_neg (by omega)]
    | cons y rb => simp at e2; unfold cmpI cmpL; rw [if_pos (by omega)]
  | cons x ra ih =>
    intro rb i h1 h2 h3 h4
    obtain ⟨a1, a2, a3, _⟩ := drop_cons h1
    rw [toList_size] at a1
    have hp : (i : Int) < a.size := by omega
    cases rb with
    | nil =>
      have e2 := drop_len h2
      rw [toList_size] at e2
      simp only [List.length_nil] at e2
      have hn : ¬ ((i : Int) < b.size) := by omega
      refine ⟨.inr i, by rw [r03_texts_L2_eq, r03_texts_S2]; simp [hn, hp], ?_⟩
      simp only; unfold cmpI cmpL; rw [if_neg (by omega), if_pos (by omega)]
    | cons y rb =>
      obtain ⟨b1, b2, b3, _⟩ := drop_cons h2
      rw [toList_size] at b1
      have hq : (i : Int) < b.size := by omega
      have hi : (0 : Int) ≤ i := by omega
      rw [r03_texts_L2_eq, r03_texts_S2]
      simp only [hp, hq, hi, decide_true, if_true, true_and, and_self, Int.toNat_natCast, a2, b2]
      by_cases hxy : x = y
      · subst hxy
        simp only [bne_self_eq_false, Bool.false_eq_true, if_false]
        rw [wrap_succ a1 ha]
        simpa only [cmpL, if_true, stepB_inl] using ih rb (i + 1) a3 b3 (by omega) (by omega)
      · have hne : ((x.toNat : Int) != (y.toNat : Int)) = true := by
          rw [bne_iff_ne]; intro e; exact hxy (UInt8.toNat_inj.1 (by omega))
        have hx := x.toNat_lt; have hy := y.toNat_lt
        refine ⟨_, by rw [if_pos hne, stepB_inr], ?_⟩
        simp only [cmpL, hxy, if_false, r03_ints_spec]
        rw [wrap_id (by omega), wrap_id (by omega)]
theorem r03_texts_spec (a b : ByteArray) (ha : WStr a) (hb : WStr b) : r03_texts_fn a b = some (r03_texts a b) := by
  obtain ⟨o, ho, e⟩ := r03_texts_loop a b ha hb _ _ 0 rfl rfl (by omega) (by omega)
  unfold r03_texts_fn r03_texts cmpS
  rw [show (0 : Int) = ((0 : Nat) : Int) from rfl, ho]
  simp only [List.drop_zero] at e
  rw [← e]
  cases o <;> simp
def F_r03_texts : FnC Un := fun args => match args with
  | [x0, x1] => (dStr x0).bind fun a => (dStr x1).bind fun b => some ([], A_r03_texts (r03_texts a b), O_r03_texts (r03_texts a b))
  | _ => none
theorem ok_r03_texts : FnOK 52 F_r03_texts := by
  intro args ob rs os h hob
  unfold F_r03_texts at h
  split at h
  · simp only [Option.bind_eq_some_iff, Option.some.injEq, Prod.mk.injEq] at h
    obtain ⟨a, e0, b, e1, rfl, rfl, rfl⟩ := h
    obtain rfl := dStr_eq e0
    obtain rfl := dStr_eq e1
    exact ⟨fn_contract (M := M_r03_texts) rfl (tbl_ok (l1 := [(32, F_r03_ints)]) (l2 := []) (l3 := []) (l4 := []) (l5 := []) ⟨ok_r03_ints, trivial⟩ trivial trivial trivial trivial) Try.func52 (by kernel_rfl) N_r03_texts 0 [.d] (fun hwf => r03_texts_run (r03_texts_spec a b (wfArg hwf (a := .d (.v (cs a))) (List.mem_of_getElem? (i := 0) rfl)) (wfArg hwf (a := .d (.v (cs b))) (List.mem_of_getElem? (i := 1) rfl)))), hasBody_of Try.func52 (by kernel_rfl) (by kernel_rfl)⟩
  · simp at h
def M_r03_Order : Mc Un := mach (tbl [(32, F_r03_ints), (52, F_r03_texts)]) (tbl []) (tbl []) (tbl []) (tbl [])
def N_r03_Order : Nat → NS := fun l => (look l []).getD ⟨[], [], [], [], [], false⟩
def A_r03_Order (r : Int) : List (A Un) := [.c (.s (.int .i64 r))]
def O_r03_Order (_r : Int) : List (Ob Un) := []
theorem r03_Order_in (a : Val) (b : Val) (K : List (A Un) → List (Ob Un) → Prop) :
    awp M_r03_Order N_r03_Order (bodyOf Try.f31) (entry Try.f31.ntmps 0 [.d (.agg (enc Ty.val a)), .d (.agg (enc Ty.val b))]) (retQ M_r03_Order Try.f31.results.toList [.d] K) =
(cnd (a.kind != b.kind)
 (K (A_r03_Order (r03_ints a.kind b.kind)) (O_r03_Order (r03_ints a.kind b.kind)))
 (cnd (a.n != b.n)
  (K (A_r03_Order (r03_ints a.n b.n)) (O_r03_Order (r03_ints a.n b.n)))
  (K (A_r03_Order (r03_texts a.s b.s)) (O_r03_Order (r03_texts a.s b.s))))) := by kernel_rfl
def r03_Order_fn (a : Val) (b : Val) : Option (Int) :=
  if (a.kind != b.kind) = true then
   some (r03_ints a.kind b.kind)
  else
   if (a.n != b.n) = true then
    some (r03_ints a.n b.n)
   else
    some (r03_texts a.s b.s)
theorem r03_Order_run {a : Val} {b : Val} {r : Int} (h : r03_Order_fn a b = some r) : Runs (awp M_r03_Order N_r03_Order (bodyOf Try.f31) (entry Try.f31.ntmps 0 [.d (.agg (enc Ty.val a)), .d (.agg (enc Ty.val b))]) (retQ M_r03_Order Try.f31.results.toList [.d] fun rs os => rs = A_r03_Order r ∧ os = O_r03_Order r)) := by
  constructor
  rw [r03_Order_in a b (fun rs os => rs = A_r03_Order r ∧ os = O_r03_Order r)]
  unfold r03_Order_fn at h
  rcases ite_some h with ⟨c1, h2⟩ | ⟨c1, h2⟩
  · cases h2
    exact (cnd_t c1 ⟨rfl, rfl⟩)
  · rcases ite_some h2 with ⟨c3, h4⟩ | ⟨c3, h4⟩
    · cases h4
      exact (cnd_f (bfalse c1) (cnd_t c3 ⟨rfl, rfl⟩))
    · cases h4
      exact (cnd_f (bfalse c1) (cnd_f (bfalse c3) ⟨rfl, rfl⟩))
def r03_Order (a b : Val) : Int := ordV a b
@[simp] theorem r03_Order_eq (a b : Val) : r03_Order a b = ordV a b := by unfold r03_Order; rfl
theorem r03_Order_spec (a b : Val) (_ha : WS .val a) (_hb : WS .val b) : r03_Order_fn a b = some (r03_Order a b) := by
  unfold r03_Order_fn r03_Order ordV
  simp only [bne_iff_ne, ne_eq, ite_not, r03_ints_spec, r03_texts_eq]
  split
  · split <;> rfl
  · rfl
def F_r03_Order : FnC Un := fun args => match args with
  | [x0, x1] => (dS .val x0).bind fun a => (dS .val x1).bind fun b => some ([], A_r03_Order (r03_Order a b), O_r03_Order (r03_Order a b))
  | _ => none
theorem ok_r03_Order : FnOK 31 F_r03_Order := by
  intro args ob rs os h hob
  unfold F_r03_Order at h
  split at h
  · simp only [Option.bind_eq_some_iff, Option.some.injEq, Prod.mk.injEq] at h
    obtain ⟨a, e0, b, e1, rfl, rfl, rfl⟩ := h
    obtain rfl := dS_eq e0
    obtain rfl := dS_eq e1
    exact ⟨fn_contract (M := M_r03_Order) rfl (tbl_ok (l1 := [(32, F_r03_ints), (52, F_r03_texts)]) (l2 := []) (l3 := []) (l4 := []) (l5 := []) ⟨ok_r03_ints, ok_r03_texts, trivial⟩ trivial trivial trivial trivial) Try.func31 (by kernel_rfl) N_r03_Order 0 [.d] (fun hwf => r03_Order_run (r03_Order_spec a b (wfArg hwf (a := .d (.agg (enc Ty.val a))) (List.mem_of_getElem? (i := 0) rfl)) (wfArg hwf (a := .d (.agg (enc Ty.val b))) (List.mem_of_getElem? (i := 1) rfl)))), hasBody_of Try.func31 (by kernel_rfl) (by kernel_rfl)⟩
  · simp at h
def M_r03_Orders : Mc Un := mach (tbl [(31, F_r03_Order), (32, F_r03_ints)]) (tbl []) (tbl []) (tbl []) (tbl [])
def N_r03_Orders : Nat → NS := fun l => (look l [(2, { ts := [true, true, false, false, true, true, false, false, false, false, false, false, false, false, false, false, false, false, false, false, false, false, false, false, false, false, false, false, false, false, false, false, false, false, false, false, false, false, false, false, false, false], bs := [false, false, false, false, false, false, false, false, false, false, false, false, false, false, false, false, false, false, false, false, false, false, false, false, false, false, false, false, false, false, false, false, false, false, false, false, false, false, false, false, false, false], nm := [], gb := [], gs := [] })]).getD ⟨[], [], [], [], [], false⟩
def A_r03_Orders (r : Int) : List (A Un) := [.c (.s (.int .i64 r))]
def O_r03_Orders (_r : Int) : List (Ob Un) := []
def r03_Orders_s2 (a : List Val) (b : List Val) (v0 : Int) : S Un := (st 42 42 168 0 [(0, AV.one (A.c (C.sl Ty.val a false))), (1, AV.one (A.c (C.sl Ty.val b false))), (4, AV.one (A.c (C.s (Value.int IntKind.i64 (0 : Int))))), (5, AV.one (A.c (C.s (Value.int IntKind.i64 v0))))] [] [])
def r03_Orders_e2_ret (a : List Val) (b : List Val) (v0 : Int) (v1 : Int) : S Un := (st 42 42 168 0 [(0, AV.one (A.c (C.sl Ty.val a false))), (1, AV.one (A.c (C.sl Ty.val b false))), (4, AV.one (A.c (C.s (Value.int IntKind.i64 v1)))), (5, AV.one (A.c (C.s (Value.int IntKind.i64 v0))))] [] [])
theorem r03_Orders_in (a : List Val) (b : List Val) (K : List (A Un) → List (Ob Un) → Prop) :
    awp M_r03_Orders N_r03_Orders (bodyOf Try.f21) (entry Try.f21.ntmps 0 [.d (.v (.dat (U := Un) Ty.val a)), .d (.v (.dat (U := Un) Ty.val b))]) (retQ M_r03_Orders Try.f21.results.toList [.d] K) =
(itersK (N_r03_Orders 2) (awp M_r03_Orders N_r03_Orders (sub (bodyOf Try.f21) [1, 0, 1, 2, 2])) (ctxK M_r03_Orders N_r03_Orders (bodyOf Try.f21) [1, 0, 1, 2] (retQ M_r03_Orders Try.f21.results.toList [.d] K)) (r03_Orders_s2 a b (0 : Int))) := by kernel_rfl
theorem r03_Orders_l2 (a : List Val) (b : List Val) (v0 : Int) (k : Nat) (Q : Exit → S Un → Prop) :
    iterK (N_r03_Orders 2) (awp M_r03_Orders N_r03_Orders (sub (bodyOf Try.f21) [1, 0, 1, 2, 2])) Q (k + 1) (r03_Orders_s2 a b v0) =
(cnd (decide (v0 < (↑a.length : Int)))
 (cnd (decide (v0 < (↑b.length : Int)))
  (((0 : Int) ≤ v0 ∧ v0 < (↑a.length : Int)) ∧
  (((0 : Int) ≤ v0 ∧ v0 < (↑b.length : Int)) ∧
  (cnd (r03_Order (a.getD v0.toNat zeroVal) (b.getD v0.toNat zeroVal) != (0 : Int))
   (((0 : Int) ≤ v0 ∧ v0 < (↑a.length : Int)) ∧
   (((0 : Int) ≤ v0 ∧ v0 < (↑b.length : Int)) ∧
   (Q .ret (r03_Orders_e2_ret a b v0 (r03_Order (a.getD v0.toNat zeroVal) (b.getD v0.toNat zeroVal))))))
   (iterK (N_r03_Orders 2) (awp M_r03_Orders N_r03_Orders (sub (bodyOf Try.f21) [1, 0, 1, 2, 2])) Q k (r03_Orders_s2 a b (IntKind.i64.wrap (v0 + (1 : Int))))))))
  (Q (.exit 0) (r03_Orders_s2 a b v0)))
 (Q (.exit 0) (r03_Orders_s2 a b v0))) := by kernel_rfl
theorem r03_Orders_a2_ret (a : List Val) (b : List Val) (v0 : Int) (v1 : Int) (K : List (A Un) → List (Ob Un) → Prop) :
    ctxK M_r03_Orders N_r03_Orders (bodyOf Try.f21) [1, 0, 1, 2] (retQ M_r03_Orders Try.f21.results.toList [.d] K) .ret (r03_Orders_e2_ret a b v0 v1) =
(K (A_r03_Orders (v1)) (O_r03_Orders (v1))) := by kernel_rfl
theorem r03_Orders_a2_x0 (a : List Val) (b : List Val) (v0 : Int) (K : List (A Un) → List (Ob Un) → Prop) :
    ctxK M_r03_Orders N_r03_Orders (bodyOf Try.f21) [1, 0, 1, 2] (retQ M_r03_Orders Try.f21.results.toList [.d] K) (.exit 0) (r03_Orders_s2 a b v0) =
(K (A_r03_Orders (r03_ints (↑a.length : Int) (↑b.length : Int))) (O_r03_Orders (r03_ints (↑a.length : Int) (↑b.length : Int)))) := by kernel_rfl
def r03_Orders_S2 (a : List Val) (b : List Val) (v : Int) : Option ((Int) ⊕ ((Int × Int) ⊕ (Int))) :=
  if (decide (v < (↑a.length : Int))) = true then
   if (decide (v < (↑b.length : Int))) = true then
    if (0 : Int) ≤ v ∧ v < (↑a.length : Int) then
     if (0 : Int) ≤ v ∧ v < (↑b.length : Int) then
      if (r03_Order (a.getD v.toNat zeroVal) (b.getD v.toNat zeroVal) != (0 : Int)) = true then
       if (0 : Int) ≤ v ∧ v < (↑a.length : Int) then
        if (0 : Int) ≤ v ∧ v < (↑b.length : Int) then
         some (.inr (.inl (v, (r03_Order (a.getD v.toNat zeroVal) (b.getD v.toNat zeroVal)))))
        else none
       else none
      else
       some (.inl (IntKind.i64.wrap (v + (1 : Int))))
     else none
    else none
   else
    some (.inr (.inr v))
  else
   some (.inr (.inr v))
def r03_Orders_L2 (a : List Val) (b : List Val) (v : Int) : Option ((Int × Int) ⊕ (Int)) := loopO (r03_Orders_S2 a b) v
theorem r03_Orders_L2_eq (a : List Val) (b : List Val) (v : Int) : r03_Orders_L2 a b v = stepB (r03_Orders_L2 a b) (r03_Orders_S2 a b v) := loopO_eq _ _
def r03_Orders_Q2 (a : List Val) (b : List Val) (r : (Int × Int) ⊕ (Int)) (Q : Exit → S Un → Prop) : Prop := match r with | .inl x => Q .ret (r03_Orders_e2_ret a b x.1 x.2) | .inr x => Q (.exit 0) (r03_Orders_s2 a b x)
theorem r03_Orders_Q2_ret {a : List Val} {b : List Val} {x : Int × Int} {Q : Exit → S Un → Prop} (h : Q .ret (r03_Orders_e2_ret a b x.1 x.2)) : r03_Orders_Q2 a b (.inl x) Q := h
theorem r03_Orders_Q2_x0 {a : List Val} {b : List Val} {x : Int} {Q : Exit → S Un → Prop} (h : Q (.exit 0) (r03_Orders_s2 a b x)) : r03_Orders_Q2 a b (.inr x) Q := h
theorem r03_Orders_L2_run {a : List Val} {b : List Val} {v : Int} {r : (Int × Int) ⊕ (Int)} (h : r03_Orders_L2 a b v = some r) (Q : Exit → S Un → Prop) (hQ : r03_Orders_Q2 a b r Q) : itersK (N_r03_Orders 2) (awp M_r03_Orders N_r03_Orders (sub (bodyOf Try.f21) [1, 0, 1, 2, 2])) Q (r03_Orders_s2 a b v) := by
  refine @loop_run _ _ (r03_Orders_S2 a b) (fun v => itersK (N_r03_Orders 2) (awp M_r03_Orders N_r03_Orders (sub (bodyOf Try.f21) [1, 0, 1, 2, 2])) Q (r03_Orders_s2 a b v)) (fun r => r03_Orders_Q2 a b r Q) ?_ v r h hQ
  intro v o h hI
  unfold r03_Orders_S2 at h
  rcases ite_some h with ⟨c1, h2⟩ | ⟨c1, h2⟩
  · rcases ite_some h2 with ⟨c3, h4⟩ | ⟨c3, h4⟩
    · obtain ⟨c5, h6⟩ := ob_some h4
      obtain ⟨c7, h8⟩ := ob_some h6
      rcases ite_some h8 with ⟨c9, h10⟩ | ⟨c9, h10⟩
      · obtain ⟨c11, h12⟩ := ob_some h10
        obtain ⟨c13, h14⟩ := ob_some h12
        cases h14
        exact itersK_mk 1 (mpr (r03_Orders_l2 a b v 0 Q) (cnd_t c1 (cnd_t c3 (And.intro c5 (And.intro c7 (cnd_t c9 (And.intro c11 (And.intro c13 hI))))))))
      · cases h10
        obtain ⟨k15, hk16⟩ := itersK_get hI
        exact itersK_mk (k15 + 1) (mpr (r03_Orders_l2 a b v k15 Q) (cnd_t c1 (cnd_t c3 (And.intro c5 (And.intro c7 (cnd_f (bfalse c9) hk16))))))
    · cases h4
      exact itersK_mk 1 (mpr (r03_Orders_l2 a b v 0 Q) (cnd_t c1 (cnd_f (bfalse c3) hI)))
  · cases h2
    exact itersK_mk 1 (mpr (r03_Orders_l2 a b v 0 Q) (cnd_f (bfalse c1) hI))
def r03_Orders_fn (a : List Val) (b : List Val) : Option (Int) :=
  (r03_Orders_L2 a b (0 : Int)) >>= fun o17 => match o17 with
   | .inl o18 =>
     some (o18.2)
   | .inr o19 =>
     some (r03_ints (↑a.length : Int) (↑b.length : Int))
theorem r03_Orders_run {a : List Val} {b : List Val} {r : Int} (h : r03_Orders_fn a b = some r) : Runs (awp M_r03_Orders N_r03_Orders (bodyOf Try.f21) (entry Try.f21.ntmps 0 [.d (.v (.dat (U := Un) Ty.val a)), .d (.v (.dat (U := Un) Ty.val b))]) (retQ M_r03_Orders Try.f21.results.toList [.d] fun rs os => rs = A_r03_Orders r ∧ os = O_r03_Orders r)) := by
  constructor
  rw [r03_Orders_in a b (fun rs os => rs = A_r03_Orders r ∧ os = O_r03_Orders r)]
  unfold r03_Orders_fn at h
  obtain ⟨o20, ho21, h22⟩ := bind_some h
  rcases o20 with o23 | o24
  · cases h22
    exact (r03_Orders_L2_run ho21 _ (r03_Orders_Q2_ret (mpr (r03_Orders_a2_ret a b o23.1 o23.2 _) ⟨rfl, rfl⟩)))
  · cases h22
    exact (r03_Orders_L2_run ho21 _ (r03_Orders_Q2_x0 (mpr (r03_Orders_a2_x0 a b o24 _) ⟨rfl, rfl⟩)))
def r03_Orders (a b : List Val) : Int := ordR a b
@[simp] theorem r03_Orders_eq (a b : List Val) : r03_Orders a b = ordR a b := by unfold r03_Orders; rfl
theorem r03_Orders_loop (a b : List Val) (ha : WL .val a) (hb : WL .val b) : ∀ (ra rb : List Val) (i : Nat), a.drop i = ra → b.drop i = rb → i ≤ a.length → i ≤ b.length →
    ∃ o, r03_Orders_L2 a b i = some o ∧ (match o with | .inl o => o.2 | .inr _ => cmpI a.length b.length) = ordR ra rb := by
  intro ra
  induction ra with
  | nil =>
    intro rb i h1 h2 h3 h4
    have e1 := drop_len h1; have e2 := drop_len h2
    simp only [List.length_nil] at e1
    have hn : ¬ ((i : Int) < a.length) := by omega
    refine ⟨.inr i, by rw [r03_Orders_L2_eq, r03_Orders_S2]; simp [hn], ?_⟩
    simp only
    cases rb with
    | nil => simp at e2; unfold cmpI ordR; rw [if_neg (by omega), if_neg (by omega)]
    | cons y rb => simp at e2; unfold cmpI ordR; rw [if_pos (by omega)]
  | cons x ra ih =>
    intro rb i h1 h2 h3 h4
    obtain ⟨a1, a2, a3, _⟩ := drop_cons h1
    have hp : (i : Int) < a.length := by omega
    cases rb with
    | nil =>
      have e2 := drop_len h2
      simp only [List.length_nil] at e2
      have hn : ¬ ((i : Int) < b.length) := by omega
      refine ⟨.inr i, by rw [r03_Orders_L2_eq, r03_Orders_S2]; simp [hn, hp], ?_⟩
      simp only; unfold cmpI ordR; rw [if_neg (by omega), if_pos (by omega)]
    | cons y rb =>
      obtain ⟨b1, b2, b3, _⟩ := drop_cons h2
      have hq : (i : Int) < b.length := by omega
      have hi : (0 : Int) ≤ i := by omega
      rw [r03_Orders_L2_eq, r03_Orders_S2]
      simp only [hp, hq, hi, decide_true, if_true, true_and, and_self, Int.toNat_natCast, a2, b2, bne_iff_ne, ne_eq, ite_not, r03_Order_eq]
      by_cases hxy : ordV x y = 0
      · rw [if_pos hxy, wrap_succ a1 ha.len]
        simpa only [ordR, hxy, if_true, stepB_inl] using ih rb (i + 1) a3 b3 (by omega) (by omega)
      · exact ⟨_, by rw [if_neg hxy, stepB_inr], by simp only [ordR, hxy, if_false]⟩
theorem r03_Orders_spec (a b : List Val) (ha : WL .val a) (hb : WL .val b) : r03_Orders_fn a b = some (r03_Orders a b) := by
  obtain ⟨o, ho, e⟩ := r03_Orders_loop a b ha hb _ _ 0 rfl rfl (by omega) (by omega)
  unfold r03_Orders_fn r03_Orders
  rw [show (0 : Int) = ((0 : Nat) : Int) from rfl, ho]
  simp only [List.drop_zero] at e
  rw [← e]
  cases o <;> simp
def F_r03_Orders : FnC Un := fun args => match args with
  | [x0, x1] => (dL .val x0).bind fun a => (dL .val x1).bind fun b => some ([], A_r03_Orders (r03_Orders a b), O_r03_Orders (r03_Orders a b))
  | _ => none
theorem ok_r03_Orders : FnOK 21 F_r03_Orders := by
  intro args ob rs os h hob
  unfold F_r03_Orders at h
  split at h
  · simp only [Option.bind_eq_some_iff, Option.some.injEq, Prod.mk.injEq] at h
    obtain ⟨a, e0, b, e1, rfl, rfl, rfl⟩ := h
    obtain rfl := dL_eq e0
    obtain rfl := dL_eq e1
    exact ⟨fn_contract (M := M_r03_Orders) rfl (tbl_ok (l1 := [(31, F_r03_Order), (32, F_r03_ints)]) (l2 := []) (l3 := []) (l4 := []) (l5 := []) ⟨ok_r03_Order, ok_r03_ints, trivial⟩ trivial trivial trivial trivial) Try.func21 (by kernel_rfl) N_r03_Orders 0 [.d] (fun hwf => r03_Orders_run (r03_Orders_spec a b (wfArg hwf (a := .d (.v (.dat (U := Un) Ty.val a))) (List.mem_of_getElem? (i := 0) rfl)) (wfArg hwf (a := .d (.v (.dat (U := Un) Ty.val b))) (List.mem_of_getElem? (i := 1) rfl)))), hasBody_of Try.func21 (by kernel_rfl) (by kernel_rfl)⟩
  · simp at h
end
end Go.Proofs.Ytjmpnpkcgkhagaa.B
namespace Go.Proofs.Ytjmpnpkcgkhagaa.B
open Go Go.RowKit
set_option maxRecDepth 100000
noncomputable section
attribute [local irreducible] awp ctxK itersK iterK retQ retGQ
def turnedI (op : Int) : Int := if op = 13 then 15 else if op = 14 then 16 else if op = 15 then 13 else if op = 16 then 14 else op
def sides (t : Term) : Term × Term × Int := if (t.kids.getD 0 zeroTerm).op = 1 then (t.kids.getD 1 zeroTerm, t.kids.getD 0 zeroTerm, turnedI t.op) else (t.kids.getD 0 zeroTerm, t.kids.getD 1 zeroTerm, t.op)
def boundsB (a b : Term) (col : Int) : Bool := decide (a.op = 2) && decide (a.depth = 0) && decide (a.at_ = col) && decide (b.op = 1) && decide (b.v.kind ≠ 0) && rightV b.v
def compB (op : Int) : Bool := decide (op = 11) || (decide (13 ≤ op) && decide (op ≤ 16))
def bndT (t : Term) (col : Int) : Option (Int × Val) :=
  if compB t.op && decide (t.kids.length = 2) && boundsB (sides t).1 (sides t).2.1 col then some ((sides t).2.2, (sides t).2.1.v) else none
def firstT (col one other : Int) : List Term → Nat → Option (Nat × Int × Val)
  | [], _ => none
  | t :: r, i => match bndT t col with
    | some (op, v) => if op = one ∨ op = other then some (i, op, v) else firstT col one other r (i + 1)
    | none => firstT col one other r (i + 1)
theorem turnedI_ne {op : Int} (h : compB op = true) : turnedI op ≠ 0 ∧ op ≠ 0 := by
  unfold compB at h; simp at h
  unfold turnedI; repeat' split
  all_goals omega
theorem bndT_op {t : Term} {col op : Int} {v : Val} (h : bndT t col = some (op, v)) : op ≠ 0 ∧ rightV v = true := by
  unfold bndT at h
  split at h
  · rename_i hc
    simp only [Bool.and_eq_true] at hc
    simp only [Option.some.injEq, Prod.mk.injEq] at h
    obtain ⟨rfl, rfl⟩ := h
    have h1 := turnedI_ne hc.1.1
    have h2 := hc.2
    unfold boundsB at h2
    simp only [Bool.and_eq_true] at h2
    refine ⟨?_, h2.2⟩
    unfold sides; split
    · exact h1.1
    · exact h1.2
  · simp at h
theorem firstT_spec {col one other : Int} : ∀ {r : List Term} {i j : Nat} {op : Int} {v : Val}, firstT col one other r i = some (j, op, v) → i ≤ j ∧ j < i + r.length ∧ bndT (r.getD (j - i) zeroTerm) col = some (op, v) ∧ (op = one ∨ op = other)
  | [], i, j, op, v, h => by simp [firstT] at h
  | t :: r, i, j, op, v, h => by
    have hrec : firstT col one other r (i + 1) = some (j, op, v) → i ≤ j ∧ j < i + (t :: r).length ∧ bndT ((t :: r).getD (j - i) zeroTerm) col = some (op, v) ∧ (op = one ∨ op = other) := by
      intro h'
      obtain ⟨h1, h2, h3, h4⟩ := firstT_spec h'
      refine ⟨by omega, by simp; omega, ?_, h4⟩
      rw [show j - i = (j - (i + 1)) + 1 from by omega, List.getD_cons_succ]; exact h3
    simp only [firstT] at h
    split at h
    · rename_i op' v' hb
      split at h
      · rename_i hc
        simp only [Option.some.injEq, Prod.mk.injEq] at h
        obtain ⟨rfl, rfl, rfl⟩ := h
        exact ⟨by omega, by simp, by simpa using hb, hc⟩
      · exact hrec h
    · exact hrec h
def eqsT (terms : List Term) : List Int → List Val × List Term
  | [] => ([], [])
  | c :: r => match firstT c 11 11 terms 0 with
    | some (i, _, v) => (v :: (eqsT terms r).1, terms.getD i zeroTerm :: (eqsT terms r).2)
    | none => ([], [])
def endT (terms : List Term) (key : List Val) (col open_ shut : Int) : Bound × List Term :=
  match firstT col open_ shut terms 0 with
  | some (i, op, v) => (⟨true, op == open_, key ++ [v]⟩, [terms.getD i zeroTerm])
  | none => (⟨decide (key.length > 0), false, key⟩, [])
def spanT (terms : List Term) (cols : List Int) : Span :=
  if (eqsT terms cols).1.length = cols.length then
    ⟨(eqsT terms cols).1, ⟨decide ((eqsT terms cols).1.length > 0), false, (eqsT terms cols).1⟩, ⟨decide ((eqsT terms cols).1.length > 0), false, (eqsT terms cols).1⟩, (eqsT terms cols).1.length, (eqsT terms cols).2⟩
  else
    ⟨(eqsT terms cols).1, (endT terms (eqsT terms cols).1 (cols.getD (eqsT terms cols).1.length 0) 15 16).1, (endT terms (eqsT terms cols).1 (cols.getD (eqsT terms cols).1.length 0) 13 14).1,
     if (endT terms (eqsT terms cols).1 (cols.getD (eqsT terms cols).1.length 0) 15 16).2 = [] ∧ (endT terms (eqsT terms cols).1 (cols.getD (eqsT terms cols).1.length 0) 13 14).2 = [] then (eqsT terms cols).1.length else (eqsT terms cols).1.length + 1,
     (eqsT terms cols).2 ++ (endT terms (eqsT terms cols).1 (cols.getD (eqsT terms cols).1.length 0) 15 16).2 ++ (endT terms (eqsT terms cols).1 (cols.getD (eqsT terms cols).1.length 0) 13 14).2⟩
theorem eqsT_len (terms : List Term) : ∀ cols, (eqsT terms cols).1.length ≤ cols.length ∧ (eqsT terms cols).2.length = (eqsT terms cols).1.length
  | [] => by simp [eqsT]
  | c :: r => by
    have h := eqsT_len terms r
    simp only [eqsT]; split <;> simp <;> omega
end
end Go.Proofs.Ytjmpnpkcgkhagaa.B
