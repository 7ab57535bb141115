/- Part 11 of the proof: Lscalar Lcompare Slcmp Svcmp Snum Snum2 Stri. -/
import Derived.Lib.Bytealg
import Derived.Lib.Strings
import Derived.Lib.Walk
import Derived.Test.YtjmpnpkcgkhagaaAcw10
namespace Go.Proofs.Ytjmpnpkcgkhagaa.B
open Go Go.RowKit
set_option maxRecDepth 1000000
theorem contract_scalar {f : FuncId} {args : List (D Un)} {v : Value} (hv : oneC v = true)
    (h : ∀ (w : World) (vs : List Value), (∀ St, All2 (DRel Try.prog En St w) vs args → Calls Try.prog f vs.toArray w fun e w' => e = .returned v ∧ w' = w)) : Contract Try.prog En f args [.c (.s v)] [] := by
  intro w St vs hbd hvs
  refine (h w vs St hvs).mono ?_
  rintro e w' ⟨rfl, rfl⟩
  let gg : G := { β := fun _ => 0, lb := fun _ => False, ω := fun _ _ => none, tk := fun _ => (none, 0) }
  exact ⟨_, rfl, Ext.refl _, gg, fun _ h => h, fun b o x _ h => by simp [gg] at h, fun b o x h => by simp [gg] at h, ⟨rfl, hv⟩, fun k o h => by simp at h⟩
theorem drel_str {St : Nat → Nat → Prop} {w : World} {v : Value} {s : ByteArray} (h : DRel Try.prog En St w v (.d (.v (cs s)))) : v = .string s ∧ s.size ≤ 9223372036854775807 := by
  have h' : VRel En St w v (.s (.string s)) := h
  cases h' with | s _ h => exact ⟨rfl, oneC_str.1 h⟩
theorem drel_int {St : Nat → Nat → Prop} {w : World} {v : Value} {k : IntKind} {n : Int} (h : DRel Try.prog En St w v (.d (.v (.s (.int k n))))) : v = .int k n ∧ k.min ≤ n ∧ n ≤ k.max := by
  have h' : VRel En St w v (.s (.int k n)) := h
  cases h' with | s _ h => exact ⟨rfl, of_decide_eq_true h⟩
end Go.Proofs.Ytjmpnpkcgkhagaa.B
namespace Go.Proofs.Ytjmpnpkcgkhagaa.B
open Go Go.RowKit
set_option maxRecDepth 1000000
theorem compareString_any (a b : ByteArray) (w : World) :
    Calls Try.prog 75 #[.string a, .string b] w fun e w' => e = .returned (.int .i64 (Lib.compareBytes a.data.toList b.data.toList)) ∧ w' = w := by
  have mixed : Try.prog.follows .mixedOrders = true := by kernel_rfl
  go_enter Try.func75, Try.ntmps75
  go_wp2
  rw [run_callFunc_extern Try.func78 (by kernel_rfl) (by kernel_rfl) (by kernel_rfl) (e := Extern.BytealgCompare.compare) (by kernel_rfl), Lib.run_compareString]
  simp only [Result.andThen]
  rw [Oper.upon_value]
  go_wp2
  go_ret
  exact ⟨rfl, rfl⟩
theorem compareBytes_eq : ∀ (a b : List UInt8), Lib.compareBytes a b = cmpL a b
  | [], [] => rfl
  | [], _ :: _ => rfl
  | _ :: _, [] => rfl
  | x :: a, y :: b => by
    have hlt : ∀ p q : UInt8, (p < q) = ((p.toNat : Int) < q.toNat) := fun p q => by simp [UInt8.lt_iff_toNat_lt]
    simp only [Lib.compareBytes, cmpL, cmpI, hlt]
    by_cases h : x = y
    · subst h; simp [compareBytes_eq a b]
    · have hne : x.toNat ≠ y.toNat := fun e => h (UInt8.toNat_inj.1 e)
      rw [if_neg h]
      by_cases h1 : (x.toNat : Int) < y.toNat
      · rw [if_pos h1, if_pos h1]
      · rw [if_neg h1, if_neg h1, if_pos (by omega), if_pos (by omega)]
theorem cmpL_range : ∀ (a b : List UInt8), -1 ≤ cmpL a b ∧ cmpL a b ≤ 1
  | [], [] => by simp [cmpL]
  | [], _ :: _ => by simp [cmpL]
  | _ :: _, [] => by simp [cmpL]
  | x :: a, y :: b => by
    simp only [cmpL, cmpI]
    have := cmpL_range a b
    repeat' split
    all_goals omega
def F_internal_bytealg_CompareString : FnC Un := fun args => match args with
  | [x0, x1] => (dStr x0).bind fun a => (dStr x1).bind fun b => some ([], [.c (.s (.int .i64 (cmpS a b)))], [])
  | _ => none
theorem ok_internal_bytealg_CompareString : FnOK 75 F_internal_bytealg_CompareString := by
  intro args ob rs os h hob
  unfold F_internal_bytealg_CompareString at h
  split at h
  · rename_i x0 x1
    simp only [Option.bind_eq_some_iff, Option.some.injEq, Prod.mk.injEq] at h
    obtain ⟨s, e0, t, e1, rfl, rfl, rfl⟩ := h
    obtain rfl := dStr_eq e0
    obtain rfl := dStr_eq e1
    refine ⟨?_, hasBody_of Try.func75 (by kernel_rfl) (by kernel_rfl)⟩
    have hr := cmpL_range s.toList t.toList
    refine contract_scalar (oneC_i64.2 (by unfold cmpS; omega)) fun w vs St hvs => ?_
    match vs, hvs with
    | [v0, v1], ⟨h0, h1, _⟩ =>
      obtain ⟨rfl, -⟩ := drel_str h0
      obtain ⟨rfl, -⟩ := drel_str h1
      refine (compareString_any s t w).mono ?_
      rintro e w' ⟨rfl, rfl⟩
      refine ⟨?_, rfl⟩
      rw [compareBytes_eq]; unfold cmpS
      rw [ByteArray.toList_eq, ByteArray.toList_eq]
  · simp at h
end Go.Proofs.Ytjmpnpkcgkhagaa.B
namespace Go.Proofs.Ytjmpnpkcgkhagaa.B
open Go Go.RowKit
set_option maxRecDepth 100000
noncomputable section
attribute [local irreducible] awp ctxK itersK iterK retQ retGQ
def M_strings_Compare : Mc Un := mach (tbl [(75, F_internal_bytealg_CompareString)]) (tbl []) (tbl []) (tbl []) (tbl [])
def N_strings_Compare : Nat → NS := fun l => (look l []).getD ⟨[], [], [], [], [], false⟩
def A_strings_Compare (r : Int) : List (A Un) := [.c (.s (.int .i64 r))]
def O_strings_Compare (_r : Int) : List (Ob Un) := []
theorem strings_Compare_in (a : ByteArray) (b : ByteArray) (K : List (A Un) → List (Ob Un) → Prop) :
    awp M_strings_Compare N_strings_Compare (bodyOf Try.f71) (entry Try.f71.ntmps 0 [.d (.v (cs a)), .d (.v (cs b))]) (retQ M_strings_Compare Try.f71.results.toList [.d] K) =
(K (A_strings_Compare (cmpS a b)) (O_strings_Compare (cmpS a b))) := by kernel_rfl
def strings_Compare_fn (a : ByteArray) (b : ByteArray) : Option (Int) :=
  some (cmpS a b)
theorem strings_Compare_run {a : ByteArray} {b : ByteArray} {r : Int} (h : strings_Compare_fn a b = some r) : Runs (awp M_strings_Compare N_strings_Compare (bodyOf Try.f71) (entry Try.f71.ntmps 0 [.d (.v (cs a)), .d (.v (cs b))]) (retQ M_strings_Compare Try.f71.results.toList [.d] fun rs os => rs = A_strings_Compare r ∧ os = O_strings_Compare r)) := by
  constructor
  rw [strings_Compare_in a b (fun rs os => rs = A_strings_Compare r ∧ os = O_strings_Compare r)]
  unfold strings_Compare_fn at h
  cases h
  exact ⟨rfl, rfl⟩
def strings_Compare (a : ByteArray) (b : ByteArray) : Int :=
  (cmpS a b)
theorem strings_Compare_eq (a : ByteArray) (b : ByteArray) : strings_Compare_fn a b = some (strings_Compare a b) := by unfold strings_Compare_fn strings_Compare; repeat (first | rfl | split)
def F_strings_Compare : FnC Un := fun args => match args with
  | [x0, x1] => (dStr x0).bind fun a => (dStr x1).bind fun b => some ([], A_strings_Compare (strings_Compare a b), O_strings_Compare (strings_Compare a b))
  | _ => none
theorem ok_strings_Compare : FnOK 71 F_strings_Compare := by
  intro args ob rs os h hob
  unfold F_strings_Compare at h
  split at h
  · simp only [Option.bind_eq_some_iff, Option.some.injEq, Prod.mk.injEq] at h
    obtain ⟨a, e0, b, e1, rfl, rfl, rfl⟩ := h
    obtain rfl := dStr_eq e0
    obtain rfl := dStr_eq e1
    exact ⟨fn_contract (M := M_strings_Compare) rfl (tbl_ok (l1 := [(75, F_internal_bytealg_CompareString)]) (l2 := []) (l3 := []) (l4 := []) (l5 := []) ⟨ok_internal_bytealg_CompareString, trivial⟩ trivial trivial trivial trivial) Try.func71 (by kernel_rfl) N_strings_Compare 0 [.d] (fun hwf => strings_Compare_run (strings_Compare_eq a b)), hasBody_of Try.func71 (by kernel_rfl) (by kernel_rfl)⟩
  · simp at h
def M_cmp_isNaN : Mc Un := mach (tbl []) (tbl []) (tbl []) (tbl []) (tbl [])
def N_cmp_isNaN : Nat → NS := fun l => (look l []).getD ⟨[], [], [], [], [], false⟩
def A_cmp_isNaN (r : Bool) : List (A Un) := [.c (.s (.bool r))]
def O_cmp_isNaN (_r : Bool) : List (Ob Un) := []
theorem cmp_isNaN_in (x : Int) (K : List (A Un) → List (Ob Un) → Prop) :
    awp M_cmp_isNaN N_cmp_isNaN (bodyOf Try.f76) (entry Try.f76.ntmps 0 [.d (.v (.s (.int .i64 x)))]) (retQ M_cmp_isNaN Try.f76.results.toList [.d] K) =
(K (A_cmp_isNaN (x != x)) (O_cmp_isNaN (x != x))) := by kernel_rfl
def cmp_isNaN_fn (x : Int) : Option (Bool) :=
  some (x != x)
theorem cmp_isNaN_run {x : Int} {r : Bool} (h : cmp_isNaN_fn x = some r) : Runs (awp M_cmp_isNaN N_cmp_isNaN (bodyOf Try.f76) (entry Try.f76.ntmps 0 [.d (.v (.s (.int .i64 x)))]) (retQ M_cmp_isNaN Try.f76.results.toList [.d] fun rs os => rs = A_cmp_isNaN r ∧ os = O_cmp_isNaN r)) := by
  constructor
  rw [cmp_isNaN_in x (fun rs os => rs = A_cmp_isNaN r ∧ os = O_cmp_isNaN r)]
  unfold cmp_isNaN_fn at h
  cases h
  exact ⟨rfl, rfl⟩
def cmp_isNaN (x : Int) : Bool :=
  (x != x)
theorem cmp_isNaN_eq (x : Int) : cmp_isNaN_fn x = some (cmp_isNaN x) := by unfold cmp_isNaN_fn cmp_isNaN; repeat (first | rfl | split)
def F_cmp_isNaN : FnC Un := fun args => match args with
  | [x0] => (dI .i64 x0).bind fun x => some ([], A_cmp_isNaN (cmp_isNaN x), O_cmp_isNaN (cmp_isNaN x))
  | _ => none
theorem ok_cmp_isNaN : FnOK 76 F_cmp_isNaN := by
  intro args ob rs os h hob
  unfold F_cmp_isNaN at h
  split at h
  · simp only [Option.bind_eq_some_iff, Option.some.injEq, Prod.mk.injEq] at h
    obtain ⟨x, e0, rfl, rfl, rfl⟩ := h
    obtain rfl := dI_eq e0
    exact ⟨fn_contract (M := M_cmp_isNaN) rfl (tbl_ok (l1 := []) (l2 := []) (l3 := []) (l4 := []) (l5 := []) trivial trivial trivial trivial trivial) Try.func76 (by kernel_rfl) N_cmp_isNaN 0 [.d] (fun hwf => cmp_isNaN_run (cmp_isNaN_eq x)), hasBody_of Try.func76 (by kernel_rfl) (by kernel_rfl)⟩
  · simp at h
def M_cmp_Compare : Mc Un := mach (tbl [(76, F_cmp_isNaN)]) (tbl []) (tbl []) (tbl []) (tbl [])
def N_cmp_Compare : Nat → NS := fun l => (look l []).getD ⟨[], [], [], [], [], false⟩
def A_cmp_Compare (r : Int) : List (A Un) := [.c (.s (.int .i64 r))]
def O_cmp_Compare (_r : Int) : List (Ob Un) := []
theorem cmp_Compare_in (x : Int) (y : Int) (K : List (A Un) → List (Ob Un) → Prop) :
    awp M_cmp_Compare N_cmp_Compare (bodyOf Try.f72) (entry Try.f72.ntmps 0 [.d (.v (.s (.int .i64 x))), .d (.v (.s (.int .i64 y)))]) (retQ M_cmp_Compare Try.f72.results.toList [.d] K) =
(cnd (cmp_isNaN x)
 (cnd (cmp_isNaN y)
  (K (A_cmp_Compare ((0 : Int))) (O_cmp_Compare ((0 : Int))))
  (K (A_cmp_Compare ((-1 : Int))) (O_cmp_Compare ((-1 : Int)))))
 (cnd (cmp_isNaN y)
  (K (A_cmp_Compare ((1 : Int))) (O_cmp_Compare ((1 : Int))))
  (cnd (decide (x < y))
   (K (A_cmp_Compare ((-1 : Int))) (O_cmp_Compare ((-1 : Int))))
   (cnd (decide (x > y))
    (K (A_cmp_Compare ((1 : Int))) (O_cmp_Compare ((1 : Int))))
    (K (A_cmp_Compare ((0 : Int))) (O_cmp_Compare ((0 : Int)))))))) := by kernel_rfl
def cmp_Compare_fn (x : Int) (y : Int) : Option (Int) :=
  if (cmp_isNaN x) = true then
   if (cmp_isNaN y) = true then
    some ((0 : Int))
   else
    some ((-1 : Int))
  else
   if (cmp_isNaN y) = true then
    some ((1 : Int))
   else
    if (decide (x < y)) = true then
     some ((-1 : Int))
    else
     if (decide (x > y)) = true then
      some ((1 : Int))
     else
      some ((0 : Int))
theorem cmp_Compare_run {x : Int} {y : Int} {r : Int} (h : cmp_Compare_fn x y = some r) : Runs (awp M_cmp_Compare N_cmp_Compare (bodyOf Try.f72) (entry Try.f72.ntmps 0 [.d (.v (.s (.int .i64 x))), .d (.v (.s (.int .i64 y)))]) (retQ M_cmp_Compare Try.f72.results.toList [.d] fun rs os => rs = A_cmp_Compare r ∧ os = O_cmp_Compare r)) := by
  constructor
  rw [cmp_Compare_in x y (fun rs os => rs = A_cmp_Compare r ∧ os = O_cmp_Compare r)]
  unfold cmp_Compare_fn at h
  rcases ite_some h with ⟨c1, h2⟩ | ⟨c1, h2⟩
  · rcases ite_some h2 with ⟨c3, h4⟩ | ⟨c3, h4⟩
    · cases h4
      exact (cnd_t c1 (cnd_t c3 ⟨rfl, rfl⟩))
    · cases h4
      exact (cnd_t c1 (cnd_f (bfalse c3) ⟨rfl, rfl⟩))
  · rcases ite_some h2 with ⟨c5, h6⟩ | ⟨c5, h6⟩
    · cases h6
      exact (cnd_f (bfalse c1) (cnd_t c5 ⟨rfl, rfl⟩))
    · rcases ite_some h6 with ⟨c7, h8⟩ | ⟨c7, h8⟩
      · cases h8
        exact (cnd_f (bfalse c1) (cnd_f (bfalse c5) (cnd_t c7 ⟨rfl, rfl⟩)))
      · rcases ite_some h8 with ⟨c9, h10⟩ | ⟨c9, h10⟩
        · cases h10
          exact (cnd_f (bfalse c1) (cnd_f (bfalse c5) (cnd_f (bfalse c7) (cnd_t c9 ⟨rfl, rfl⟩))))
        · cases h10
          exact (cnd_f (bfalse c1) (cnd_f (bfalse c5) (cnd_f (bfalse c7) (cnd_f (bfalse c9) ⟨rfl, rfl⟩))))
def cmp_Compare (x : Int) (y : Int) : Int :=
  if (cmp_isNaN x) = true then
   if (cmp_isNaN y) = true then
    ((0 : Int))
   else
    ((-1 : Int))
  else
   if (cmp_isNaN y) = true then
    ((1 : Int))
   else
    if (decide (x < y)) = true then
     ((-1 : Int))
    else
     if (decide (x > y)) = true then
      ((1 : Int))
     else
      ((0 : Int))
theorem cmp_Compare_eq (x : Int) (y : Int) : cmp_Compare_fn x y = some (cmp_Compare x y) := by unfold cmp_Compare_fn cmp_Compare; repeat (first | rfl | split)
def F_cmp_Compare : FnC Un := fun args => match args with
  | [x0, x1] => (dI .i64 x0).bind fun x => (dI .i64 x1).bind fun y => some ([], A_cmp_Compare (cmp_Compare x y), O_cmp_Compare (cmp_Compare x y))
  | _ => none
theorem ok_cmp_Compare : FnOK 72 F_cmp_Compare := by
  intro args ob rs os h hob
  unfold F_cmp_Compare at h
  split at h
  · simp only [Option.bind_eq_some_iff, Option.some.injEq, Prod.mk.injEq] at h
    obtain ⟨x, e0, y, e1, rfl, rfl, rfl⟩ := h
    obtain rfl := dI_eq e0
    obtain rfl := dI_eq e1
    exact ⟨fn_contract (M := M_cmp_Compare) rfl (tbl_ok (l1 := [(76, F_cmp_isNaN)]) (l2 := []) (l3 := []) (l4 := []) (l5 := []) ⟨ok_cmp_isNaN, trivial⟩ trivial trivial trivial trivial) Try.func72 (by kernel_rfl) N_cmp_Compare 0 [.d] (fun hwf => cmp_Compare_run (cmp_Compare_eq x y)), hasBody_of Try.func72 (by kernel_rfl) (by kernel_rfl)⟩
  · simp at h
@[simp] theorem cmp_Compare_spec (x y : Int) : cmp_Compare x y = cmpI x y := by
  unfold cmp_Compare cmp_isNaN cmpI
  simp
@[simp] theorem strings_Compare_spec (a b : ByteArray) : strings_Compare a b = cmpS a b := rfl
end
end Go.Proofs.Ytjmpnpkcgkhagaa.B
namespace Go.Proofs.Ytjmpnpkcgkhagaa.B
open Go Go.RowKit
set_option maxRecDepth 100000
noncomputable section
attribute [local irreducible] awp ctxK itersK iterK retQ retGQ
def cmpV (a b : Val) : Int × Bool := if a.kind = b.kind then (if a.kind = 3 then (cmpS a.s b.s, true) else if a.kind = 1 ∨ a.kind = 2 then (cmpI a.n b.n, true) else (0, false)) else (0, false)
def M_value_Compare : Mc Un := mach (tbl [(71, F_strings_Compare), (72, F_cmp_Compare)]) (tbl []) (tbl []) (tbl []) (tbl [])
def N_value_Compare : Nat → NS := fun l => (look l []).getD ⟨[], [], [], [], [], false⟩
def A_value_Compare (r : Int × Bool) : List (A Un) := [.c (.s (.int .i64 r.1)), .c (.s (.bool r.2))]
def O_value_Compare (_r : Int × Bool) : List (Ob Un) := []
theorem value_Compare_in (a : Val) (b : Val) (K : List (A Un) → List (Ob Un) → Prop) :
    awp M_value_Compare N_value_Compare (bodyOf Try.f62) (entry Try.f62.ntmps 0 [.d (.agg (enc Ty.val a)), .d (.agg (enc Ty.val b))]) (retQ M_value_Compare Try.f62.results.toList [.d, .d] K) =
(cnd (a.kind != b.kind)
 (K (A_value_Compare ((0 : Int), false)) (O_value_Compare ((0 : Int), false)))
 (cnd (decide (a.kind < (1 : Int)))
  (K (A_value_Compare ((0 : Int), false)) (O_value_Compare ((0 : Int), false)))
  (cnd (decide (a.kind > (3 : Int)))
   (K (A_value_Compare ((0 : Int), false)) (O_value_Compare ((0 : Int), false)))
   (cnd (a.kind == (3 : Int))
    (K (A_value_Compare (strings_Compare a.s b.s, true)) (O_value_Compare (strings_Compare a.s b.s, true)))
    (K (A_value_Compare (cmp_Compare a.n b.n, true)) (O_value_Compare (cmp_Compare a.n b.n, true))))))) := by kernel_rfl
def value_Compare_fn (a : Val) (b : Val) : Option (Int × Bool) :=
  if (a.kind != b.kind) = true then
   some ((0 : Int), false)
  else
   if (decide (a.kind < (1 : Int))) = true then
    some ((0 : Int), false)
   else
    if (decide (a.kind > (3 : Int))) = true then
     some ((0 : Int), false)
    else
     if (a.kind == (3 : Int)) = true then
      some (strings_Compare a.s b.s, true)
     else
      some (cmp_Compare a.n b.n, true)
theorem value_Compare_run {a : Val} {b : Val} {r : Int × Bool} (h : value_Compare_fn a b = some r) : Runs (awp M_value_Compare N_value_Compare (bodyOf Try.f62) (entry Try.f62.ntmps 0 [.d (.agg (enc Ty.val a)), .d (.agg (enc Ty.val b))]) (retQ M_value_Compare Try.f62.results.toList [.d, .d] fun rs os => rs = A_value_Compare r ∧ os = O_value_Compare r)) := by
  constructor
  rw [value_Compare_in a b (fun rs os => rs = A_value_Compare r ∧ os = O_value_Compare r)]
  unfold value_Compare_fn at h
  rcases ite_some h with ⟨c1, h2⟩ | ⟨c1, h2⟩
  · cases h2
    exact (cnd_t c1 ⟨rfl, rfl⟩)
  · rcases ite_some h2 with ⟨c3, h4⟩ | ⟨c3, h4⟩
    · cases h4
      exact (cnd_f (bfalse c1) (cnd_t c3 ⟨rfl, rfl⟩))
    · rcases ite_some h4 with ⟨c5, h6⟩ | ⟨c5, h6⟩
      · cases h6
        exact (cnd_f (bfalse c1) (cnd_f (bfalse c3) (cnd_t c5 ⟨rfl, rfl⟩)))
      · rcases ite_some h6 with ⟨c7, h8⟩ | ⟨c7, h8⟩
        · cases h8
          exact (cnd_f (bfalse c1) (cnd_f (bfalse c3) (cnd_f (bfalse c5) (cnd_t c7 ⟨rfl, rfl⟩))))
        · cases h8
          exact (cnd_f (bfalse c1) (cnd_f (bfalse c3) (cnd_f (bfalse c5) (cnd_f (bfalse c7) ⟨rfl, rfl⟩))))
def value_Compare (a b : Val) : Int × Bool := cmpV a b
@[simp] theorem value_Compare_eq (a b : Val) : value_Compare a b = cmpV a b := by unfold value_Compare; rfl
theorem value_Compare_spec (a b : Val) (_ha : WS .val a) (_hb : WS .val b) : value_Compare_fn a b = some (value_Compare a b) := by
  unfold value_Compare_fn value_Compare cmpV
  simp only [bne_iff_ne, ne_eq, ite_not, beq_iff_eq, decide_eq_true_eq, cmp_Compare_spec, strings_Compare_spec]
  by_cases h1 : a.kind = b.kind
  · simp only [h1, if_true]
    by_cases h3 : b.kind = 3
    · simp [h3]
    · by_cases h4 : b.kind < 1
      · have : ¬ (b.kind = 1 ∨ b.kind = 2) := by omega
        simp [h3, h4, this]
      · by_cases h5 : b.kind > 3
        · have : ¬ (b.kind = 1 ∨ b.kind = 2) := by omega
          simp [h3, h4, h5, this]
        · have : b.kind = 1 ∨ b.kind = 2 := by omega
          simp [h3, h4, h5, this]
  · simp [h1]
def F_value_Compare : FnC Un := fun args => match args with
  | [x0, x1] => (dS .val x0).bind fun a => (dS .val x1).bind fun b => some ([], A_value_Compare (value_Compare a b), O_value_Compare (value_Compare a b))
  | _ => none
theorem ok_value_Compare : FnOK 62 F_value_Compare := by
  intro args ob rs os h hob
  unfold F_value_Compare at h
  split at h
  · simp only [Option.bind_eq_some_iff, Option.some.injEq, Prod.mk.injEq] at h
    obtain ⟨a, e0, b, e1, rfl, rfl, rfl⟩ := h
    obtain rfl := dS_eq e0
    obtain rfl := dS_eq e1
    exact ⟨fn_contract (M := M_value_Compare) rfl (tbl_ok (l1 := [(71, F_strings_Compare), (72, F_cmp_Compare)]) (l2 := []) (l3 := []) (l4 := []) (l5 := []) ⟨ok_strings_Compare, ok_cmp_Compare, trivial⟩ trivial trivial trivial trivial) Try.func62 (by kernel_rfl) N_value_Compare 0 [.d, .d] (fun hwf => value_Compare_run (value_Compare_spec a b (wfArg hwf (a := .d (.agg (enc Ty.val a))) (List.mem_of_getElem? (i := 0) rfl)) (wfArg hwf (a := .d (.agg (enc Ty.val b))) (List.mem_of_getElem? (i := 1) rfl)))), hasBody_of Try.func62 (by kernel_rfl) (by kernel_rfl)⟩
  · simp at h
end
end Go.Proofs.Ytjmpnpkcgkhagaa.B
namespace Go.Proofs.Ytjmpnpkcgkhagaa.B
open Go Go.RowKit
set_option maxRecDepth 100000
noncomputable section
attribute [local irreducible] awp ctxK itersK iterK retQ retGQ
def M_num_In : Mc Un := mach (tbl []) (tbl []) (tbl []) (tbl []) (tbl [])
def N_num_In : Nat → NS := fun l => (look l []).getD ⟨[], [], [], [], [], false⟩
def A_num_In (r : Bool) : List (A Un) := [.c (.s (.bool r))]
def O_num_In (_r : Bool) : List (Ob Un) := []
theorem num_In_in (n : Int) (K : List (A Un) → List (Ob Un) → Prop) :
    awp M_num_In N_num_In (bodyOf Try.f28) (entry Try.f28.ntmps 0 [.d (.v (.s (.int .i64 n)))]) (retQ M_num_In Try.f28.results.toList [.d] K) =
(cnd (decide (n ≥ (-1000000000000000 : Int)))
 (K (A_num_In (decide (n ≤ (1000000000000000 : Int)))) (O_num_In (decide (n ≤ (1000000000000000 : Int)))))
 (K (A_num_In (false)) (O_num_In (false)))) := by kernel_rfl
def num_In_fn (n : Int) : Option (Bool) :=
  if (decide (n ≥ (-1000000000000000 : Int))) = true then
   some (decide (n ≤ (1000000000000000 : Int)))
  else
   some (false)
theorem num_In_run {n : Int} {r : Bool} (h : num_In_fn n = some r) : Runs (awp M_num_In N_num_In (bodyOf Try.f28) (entry Try.f28.ntmps 0 [.d (.v (.s (.int .i64 n)))]) (retQ M_num_In Try.f28.results.toList [.d] fun rs os => rs = A_num_In r ∧ os = O_num_In r)) := by
  constructor
  rw [num_In_in n (fun rs os => rs = A_num_In r ∧ os = O_num_In r)]
  unfold num_In_fn at h
  rcases ite_some h with ⟨c1, h2⟩ | ⟨c1, h2⟩
  · cases h2
    exact (cnd_t c1 ⟨rfl, rfl⟩)
  · cases h2
    exact (cnd_f (bfalse c1) ⟨rfl, rfl⟩)
def num_In (n : Int) : Bool :=
  if (decide (n ≥ (-1000000000000000 : Int))) = true then
   (decide (n ≤ (1000000000000000 : Int)))
  else
   (false)
theorem num_In_eq (n : Int) : num_In_fn n = some (num_In n) := by unfold num_In_fn num_In; repeat (first | rfl | split)
def F_num_In : FnC Un := fun args => match args with
  | [x0] => (dI .i64 x0).bind fun n => some ([], A_num_In (num_In n), O_num_In (num_In n))
  | _ => none
theorem ok_num_In : FnOK 28 F_num_In := by
  intro args ob rs os h hob
  unfold F_num_In at h
  split at h
  · simp only [Option.bind_eq_some_iff, Option.some.injEq, Prod.mk.injEq] at h
    obtain ⟨n, e0, rfl, rfl, rfl⟩ := h
    obtain rfl := dI_eq e0
    exact ⟨fn_contract (M := M_num_In) rfl (tbl_ok (l1 := []) (l2 := []) (l3 := []) (l4 := []) (l5 := []) trivial trivial trivial trivial trivial) Try.func28 (by kernel_rfl) N_num_In 0 [.d] (fun hwf => num_In_run (num_In_eq n)), hasBody_of Try.func28 (by kernel_rfl) (by kernel_rfl)⟩
  · simp at h
@[simp] theorem num_In_spec (n : Int) : num_In n = inN n := by
  unfold num_In inN
  by_cases h : n ≥ -1000000000000000
  · rw [if_pos (decide_eq_true h)]; congr 1; simp only [eq_iff_iff]; omega
  · rw [if_neg (by simpa using h)]; symm; simp only [decide_eq_false_iff_not]; omega
end
end Go.Proofs.Ytjmpnpkcgkhagaa.B
namespace Go.Proofs.Ytjmpnpkcgkhagaa.B
open Go Go.RowKit
set_option maxRecDepth 100000
noncomputable section
attribute [local irreducible] awp ctxK itersK iterK retQ retGQ awf ctxF loopF
def M_num_told : Mc Un := mach (tbl [(28, F_num_In)]) (tbl []) (tbl []) (tbl []) (tbl [])
def A_num_told (r : Int × Bool) : List (A Un) := [.c (.s (.int .i64 r.1)), .c (.s (.bool r.2))]
def O_num_told (_r : Int × Bool) : List (Ob Un) := []
def R_num_told (r : Int × Bool) : RF Un := (A_num_told r, O_num_told r)
def N_num_told : Nat → NS := fun l => (look l []).getD ⟨[], [], [], [], [], false⟩
def num_told_fn (a : Int) (b : Int) (n : Int) : Option (RF Un) := awf M_num_told N_num_told (bodyOf Try.f69) (entry Try.f69.ntmps 0 [.d (.v (.s (.int .i64 a))), .d (.v (.s (.int .i64 b))), .d (.v (.s (.int .i64 n)))]) (retF M_num_told Try.f69.results.toList [.d, .d])
theorem num_told_in (a : Int) (b : Int) (n : Int) : num_told_fn a b n =
 cndO (!num_In a)
  (some (R_num_told ((0 : Int), false)))
  (cndO (!num_In b)
   (some (R_num_told ((0 : Int), false)))
   (cndO (!num_In n)
    (some (R_num_told ((0 : Int), false)))
    (some (R_num_told (n, true))))) := by kernel_rfl
def num_told (a : Int) (b : Int) (n : Int) : Int × Bool :=
  if (!num_In a) = true then
   ((0 : Int), false)
  else
   if (!num_In b) = true then
    ((0 : Int), false)
   else
    if (!num_In n) = true then
     ((0 : Int), false)
    else
     (n, true)
theorem num_told_eq (a : Int) (b : Int) (n : Int) : num_told_fn a b n = some (R_num_told (num_told a b n)) := by rw [num_told_in]; unfold num_told; simp only [cndO_eq]; repeat (first | rfl | split)
def F_num_told : FnC Un := fun args => match args with
  | [x0, x1, x2] => (dI .i64 x0).bind fun a => (dI .i64 x1).bind fun b => (dI .i64 x2).bind fun n => some ([], A_num_told (num_told a b n), O_num_told (num_told a b n))
  | _ => none
theorem ok_num_told : FnOK 69 F_num_told := by
  intro args ob rs os h hob
  unfold F_num_told at h
  split at h
  · simp only [Option.bind_eq_some_iff, Option.some.injEq, Prod.mk.injEq] at h
    obtain ⟨a, e0, b, e1, n, e2, rfl, rfl, rfl⟩ := h
    obtain rfl := dI_eq e0
    obtain rfl := dI_eq e1
    obtain rfl := dI_eq e2
    exact ⟨fn_contractF (M := M_num_told) rfl (tbl_ok (l1 := [(28, F_num_In)]) (l2 := []) (l3 := []) (l4 := []) (l5 := []) ⟨ok_num_In, trivial⟩ trivial trivial trivial trivial) Try.func69 (by kernel_rfl) N_num_told 0 [.d, .d] (fun hwf => (num_told_eq a b n)), hasBody_of Try.func69 (by kernel_rfl) (by kernel_rfl)⟩
  · simp at h
def M_num_Add : Mc Un := mach (tbl [(28, F_num_In), (69, F_num_told)]) (tbl []) (tbl []) (tbl []) (tbl [])
def A_num_Add (r : Int × Bool) : List (A Un) := [.c (.s (.int .i64 r.1)), .c (.s (.bool r.2))]
def O_num_Add (_r : Int × Bool) : List (Ob Un) := []
def R_num_Add (r : Int × Bool) : RF Un := (A_num_Add r, O_num_Add r)
def N_num_Add : Nat → NS := fun l => (look l []).getD ⟨[], [], [], [], [], false⟩
def num_Add_fn (a : Int) (b : Int) : Option (RF Un) := awf M_num_Add N_num_Add (bodyOf Try.f58) (entry Try.f58.ntmps 0 [.d (.v (.s (.int .i64 a))), .d (.v (.s (.int .i64 b)))]) (retF M_num_Add Try.f58.results.toList [.d, .d])
theorem num_Add_in (a : Int) (b : Int) : num_Add_fn a b =
 cndO (!num_In a)
  (some (R_num_Add ((0 : Int), false)))
  (cndO (!num_In b)
   (some (R_num_Add ((0 : Int), false)))
   (some (R_num_Add ((num_told a b (IntKind.i64.wrap (a + b))).fst, (num_told a b (IntKind.i64.wrap (a + b))).snd)))) := by kernel_rfl
def num_Add (a : Int) (b : Int) : Int × Bool :=
  if (!num_In a) = true then
   ((0 : Int), false)
  else
   if (!num_In b) = true then
    ((0 : Int), false)
   else
    ((num_told a b (IntKind.i64.wrap (a + b))).fst, (num_told a b (IntKind.i64.wrap (a + b))).snd)
theorem num_Add_eq (a : Int) (b : Int) : num_Add_fn a b = some (R_num_Add (num_Add a b)) := by rw [num_Add_in]; unfold num_Add; simp only [cndO_eq]; repeat (first | rfl | split)
def F_num_Add : FnC Un := fun args => match args with
  | [x0, x1] => (dI .i64 x0).bind fun a => (dI .i64 x1).bind fun b => some ([], A_num_Add (num_Add a b), O_num_Add (num_Add a b))
  | _ => none
theorem ok_num_Add : FnOK 58 F_num_Add := by
  intro args ob rs os h hob
  unfold F_num_Add at h
  split at h
  · simp only [Option.bind_eq_some_iff, Option.some.injEq, Prod.mk.injEq] at h
    obtain ⟨a, e0, b, e1, rfl, rfl, rfl⟩ := h
    obtain rfl := dI_eq e0
    obtain rfl := dI_eq e1
    exact ⟨fn_contractF (M := M_num_Add) rfl (tbl_ok (l1 := [(28, F_num_In), (69, F_num_told)]) (l2 := []) (l3 := []) (l4 := []) (l5 := []) ⟨ok_num_In, ok_num_told, trivial⟩ trivial trivial trivial trivial) Try.func58 (by kernel_rfl) N_num_Add 0 [.d, .d] (fun hwf => (num_Add_eq a b)), hasBody_of Try.func58 (by kernel_rfl) (by kernel_rfl)⟩
  · simp at h
def M_num_Sub : Mc Un := mach (tbl [(28, F_num_In), (69, F_num_told)]) (tbl []) (tbl []) (tbl []) (tbl [])
def A_num_Sub (r : Int × Bool) : List (A Un) := [.c (.s (.int .i64 r.1)), .c (.s (.bool r.2))]
def O_num_Sub (_r : Int × Bool) : List (Ob Un) := []
def R_num_Sub (r : Int × Bool) : RF Un := (A_num_Sub r, O_num_Sub r)
def N_num_Sub : Nat → NS := fun l => (look l []).getD ⟨[], [], [], [], [], false⟩
def num_Sub_fn (a : Int) (b : Int) : Option (RF Un) := awf M_num_Sub N_num_Sub (bodyOf Try.f56) (entry Try.f56.ntmps 0 [.d (.v (.s (.int .i64 a))), .d (.v (.s (.int .i64 b)))]) (retF M_num_Sub Try.f56.results.toList [.d, .d])
theorem num_Sub_in (a : Int) (b : Int) : num_Sub_fn a b =
 cndO (!num_In a)
  (some (R_num_Sub ((0 : Int), false)))
  (cndO (!num_In b)
   (some (R_num_Sub ((0 : Int), false)))
   (some (R_num_Sub ((num_told a b (IntKind.i64.wrap (a - b))).fst, (num_told a b (IntKind.i64.wrap (a - b))).snd)))) := by kernel_rfl
def num_Sub (a : Int) (b : Int) : Int × Bool :=
  if (!num_In a) = true then
   ((0 : Int), false)
  else
   if (!num_In b) = true then
    ((0 : Int), false)
   else
    ((num_told a b (IntKind.i64.wrap (a - b))).fst, (num_told a b (IntKind.i64.wrap (a - b))).snd)
theorem num_Sub_eq (a : Int) (b : Int) : num_Sub_fn a b = some (R_num_Sub (num_Sub a b)) := by rw [num_Sub_in]; unfold num_Sub; simp only [cndO_eq]; repeat (first | rfl | split)
def F_num_Sub : FnC Un := fun args => match args with
  | [x0, x1] => (dI .i64 x0).bind fun a => (dI .i64 x1).bind fun b => some ([], A_num_Sub (num_Sub a b), O_num_Sub (num_Sub a b))
  | _ => none
theorem ok_num_Sub : FnOK 56 F_num_Sub := by
  intro args ob rs os h hob
  unfold F_num_Sub at h
  split at h
  · simp only [Option.bind_eq_some_iff, Option.some.injEq, Prod.mk.injEq] at h
    obtain ⟨a, e0, b, e1, rfl, rfl, rfl⟩ := h
    obtain rfl := dI_eq e0
    obtain rfl := dI_eq e1
    exact ⟨fn_contractF (M := M_num_Sub) rfl (tbl_ok (l1 := [(28, F_num_In), (69, F_num_told)]) (l2 := []) (l3 := []) (l4 := []) (l5 := []) ⟨ok_num_In, ok_num_told, trivial⟩ trivial trivial trivial trivial) Try.func56 (by kernel_rfl) N_num_Sub 0 [.d, .d] (fun hwf => (num_Sub_eq a b)), hasBody_of Try.func56 (by kernel_rfl) (by kernel_rfl)⟩
  · simp at h
def M_num_Neg : Mc Un := mach (tbl [(56, F_num_Sub)]) (tbl []) (tbl []) (tbl []) (tbl [])
def A_num_Neg (r : Int × Bool) : List (A Un) := [.c (.s (.int .i64 r.1)), .c (.s (.bool r.2))]
def O_num_Neg (_r : Int × Bool) : List (Ob Un) := []
def R_num_Neg (r : Int × Bool) : RF Un := (A_num_Neg r, O_num_Neg r)
def N_num_Neg : Nat → NS := fun l => (look l []).getD ⟨[], [], [], [], [], false⟩
def num_Neg_fn (a : Int) : Option (RF Un) := awf M_num_Neg N_num_Neg (bodyOf Try.f38) (entry Try.f38.ntmps 0 [.d (.v (.s (.int .i64 a)))]) (retF M_num_Neg Try.f38.results.toList [.d, .d])
theorem num_Neg_in (a : Int) : num_Neg_fn a =
 some (R_num_Neg ((num_Sub (0 : Int) a).fst, (num_Sub (0 : Int) a).snd)) := by kernel_rfl
def num_Neg (a : Int) : Int × Bool :=
  ((num_Sub (0 : Int) a).fst, (num_Sub (0 : Int) a).snd)
theorem num_Neg_eq (a : Int) : num_Neg_fn a = some (R_num_Neg (num_Neg a)) := by rw [num_Neg_in]; unfold num_Neg; simp only [cndO_eq]; repeat (first | rfl | split)
def F_num_Neg : FnC Un := fun args => match args with
  | [x0] => (dI .i64 x0).bind fun a => some ([], A_num_Neg (num_Neg a), O_num_Neg (num_Neg a))
  | _ => none
theorem ok_num_Neg : FnOK 38 F_num_Neg := by
  intro args ob rs os h hob
  unfold F_num_Neg at h
  split at h
  · simp only [Option.bind_eq_some_iff, Option.some.injEq, Prod.mk.injEq] at h
    obtain ⟨a, e0, rfl, rfl, rfl⟩ := h
    obtain rfl := dI_eq e0
    exact ⟨fn_contractF (M := M_num_Neg) rfl (tbl_ok (l1 := [(56, F_num_Sub)]) (l2 := []) (l3 := []) (l4 := []) (l5 := []) ⟨ok_num_Sub, trivial⟩ trivial trivial trivial trivial) Try.func38 (by kernel_rfl) N_num_Neg 0 [.d, .d] (fun hwf => (num_Neg_eq a)), hasBody_of Try.func38 (by kernel_rfl) (by kernel_rfl)⟩
  · simp at h
def M_num_Mul : Mc Un := mach (tbl [(28, F_num_In), (69, F_num_told)]) (tbl []) (tbl []) (tbl []) (tbl [])
def A_num_Mul (r : Int × Bool) : List (A Un) := [.c (.s (.int .i64 r.1)), .c (.s (.bool r.2))]
def O_num_Mul (_r : Int × Bool) : List (Ob Un) := []
def R_num_Mul (r : Int × Bool) : RF Un := (A_num_Mul r, O_num_Mul r)
def N_num_Mul : Nat → NS := fun l => (look l []).getD ⟨[], [], [], [], [], false⟩
def num_Mul_fn (a : Int) (b : Int) : Option (RF Un) := awf M_num_Mul N_num_Mul (bodyOf Try.f59) (entry Try.f59.ntmps 0 [.d (.v (.s (.int .i64 a))), .d (.v (.s (.int .i64 b)))]) (retF M_num_Mul Try.f59.results.toList [.d, .d])
theorem num_Mul_in (a : Int) (b : Int) : num_Mul_fn a b =
 cndO (!num_In a)
  (some (R_num_Mul ((0 : Int), false)))
  (cndO (!num_In b)
   (some (R_num_Mul ((0 : Int), false)))
   (cndO (a == 0)
    (some (R_num_Mul ((0 : Int), true)))
    (cndO (b == 0)
     (some (R_num_Mul ((0 : Int), true)))
     (obO (¬List.foldl (fun a b => if a < b then b else a) b [IntKind.i64.wrap ((0 : Int) - b)] = 0)
      (cndO (decide (List.foldl (fun a b => if a < b then b else a) a [IntKind.i64.wrap ((0 : Int) - a)] > IntKind.i64.wrap (Int.tdiv (1000000000000000 : Int) (List.foldl (fun a b => if a < b then b else a) b [IntKind.i64.wrap ((0 : Int) - b)]))))
       (some (R_num_Mul ((0 : Int), false)))
       (some (R_num_Mul ((num_told a b (IntKind.i64.wrap (a * b))).fst, (num_told a b (IntKind.i64.wrap (a * b))).snd)))))))) := by kernel_rfl
def mxI (a : Int) : Int := List.foldl (fun a b => if a < b then b else a) a [IntKind.i64.wrap ((0 : Int) - a)]
def num_Mul (a b : Int) : Int × Bool :=
  if num_In a = true then (if num_In b = true then (if a = 0 then (0, true) else if b = 0 then (0, true) else if mxI a > IntKind.i64.wrap (Int.tdiv 1000000000000000 (mxI b)) then (0, false) else num_told a b (IntKind.i64.wrap (a * b))) else (0, false)) else (0, false)
theorem inN_iff (n : Int) : inN n = true ↔ -1000000000000000 ≤ n ∧ n ≤ 1000000000000000 := by unfold inN; exact decide_eq_true_iff
theorem num_Mul_spec (a b : Int) (_ha : WI a) (_hb : WI b) : num_Mul_fn a b = some (R_num_Mul (num_Mul a b)) := by
  rw [num_Mul_in]
  unfold num_Mul
  simp only [cndO_eq, Bool.not_eq_true', beq_iff_eq, decide_eq_true_eq]
  by_cases h1 : num_In a = true
  · by_cases h2 : num_In b = true
    · rw [if_neg (by rw [h1]; decide), if_neg (by rw [h2]; decide), if_pos h1, if_pos h2]
      by_cases h3 : a = 0
      · rw [if_pos h3, if_pos h3]
      · by_cases h4 : b = 0
        · rw [if_neg h3, if_pos h4, if_neg h3, if_pos h4]
        · have hb := h2
          rw [num_In_spec, inN_iff] at hb
          have hm : mxI b ≠ 0 := by
            unfold mxI
            simp only [List.foldl_cons, List.foldl_nil]
            rw [wrap_id (by omega)]
            split <;> omega
          rw [if_neg h3, if_neg h4, if_neg h3, if_neg h4]
          refine (obO_pos hm).trans ?_
          show (if mxI a > IntKind.i64.wrap (Int.tdiv 1000000000000000 (mxI b)) then _ else _) = _
          by_cases h5 : mxI a > IntKind.i64.wrap (Int.tdiv 1000000000000000 (mxI b))
          · rw [if_pos h5, if_pos h5]
          · rw [if_neg h5, if_neg h5]
    · rw [if_neg (by rw [h1]; decide), if_pos (by simpa using h2), if_pos h1, if_neg h2]
  · rw [if_pos (by simpa using h1), if_neg h1]
def F_num_Mul : FnC Un := fun args => match args with
  | [x0, x1] => (dI .i64 x0).bind fun a => (dI .i64 x1).bind fun b => some ([], A_num_Mul (num_Mul a b), O_num_Mul (num_Mul a b))
  | _ => none
theorem ok_num_Mul : FnOK 59 F_num_Mul := by
  intro args ob rs os h hob
  unfold F_num_Mul at h
  split at h
  · simp only [Option.bind_eq_some_iff, Option.some.injEq, Prod.mk.injEq] at h
    obtain ⟨a, e0, b, e1, rfl, rfl, rfl⟩ := h
    obtain rfl := dI_eq e0
    obtain rfl := dI_eq e1
    exact ⟨fn_contractF (M := M_num_Mul) rfl (tbl_ok (l1 := [(28, F_num_In), (69, F_num_told)]) (l2 := []) (l3 := []) (l4 := []) (l5 := []) ⟨ok_num_In, ok_num_told, trivial⟩ trivial trivial trivial trivial) Try.func59 (by kernel_rfl) N_num_Mul 0 [.d, .d] (fun hwf => (num_Mul_spec a b (wfArg hwf (a := .d (.v (.s (.int .i64 a)))) (List.mem_of_getElem? (i := 0) rfl)) (wfArg hwf (a := .d (.v (.s (.int .i64 b)))) (List.mem_of_getElem? (i := 1) rfl)))), hasBody_of Try.func59 (by kernel_rfl) (by kernel_rfl)⟩
  · simp at h
def M_num_Div : Mc Un := mach (tbl [(28, F_num_In), (69, F_num_told)]) (tbl []) (tbl []) (tbl []) (tbl [])
def A_num_Div (r : Int × Bool) : List (A Un) := [.c (.s (.int .i64 r.1)), .c (.s (.bool r.2))]
def O_num_Div (_r : Int × Bool) : List (Ob Un) := []
def R_num_Div (r : Int × Bool) : RF Un := (A_num_Div r, O_num_Div r)
def N_num_Div : Nat → NS := fun l => (look l []).getD ⟨[], [], [], [], [], false⟩
def num_Div_fn (a : Int) (b : Int) : Option (RF Un) := awf M_num_Div N_num_Div (bodyOf Try.f60) (entry Try.f60.ntmps 0 [.d (.v (.s (.int .i64 a))), .d (.v (.s (.int .i64 b)))]) (retF M_num_Div Try.f60.results.toList [.d, .d])
theorem num_Div_in (a : Int) (b : Int) : num_Div_fn a b =
 cndO (!num_In a)
  (some (R_num_Div ((0 : Int), false)))
  (cndO (!num_In b)
   (some (R_num_Div ((0 : Int), false)))
   (cndO (b == 0)
    (some (R_num_Div ((0 : Int), false)))
    (obO (¬b = 0)
     (some (R_num_Div ((num_told a b (IntKind.i64.wrap (a.tdiv b))).fst, (num_told a b (IntKind.i64.wrap (a.tdiv b))).snd)))))) := by kernel_rfl
def num_Div (a b : Int) : Int × Bool :=
  if num_In a = true then (if num_In b = true then (if b = 0 then (0, false) else num_told a b (IntKind.i64.wrap (a.tdiv b))) else (0, false)) else (0, false)
theorem num_Div_spec (a b : Int) (_ha : WI a) (_hb : WI b) : num_Div_fn a b = some (R_num_Div (num_Div a b)) := by
  rw [num_Div_in]
  unfold num_Div
  simp only [cndO_eq, Bool.not_eq_true', beq_iff_eq]
  by_cases h1 : num_In a = true
  · by_cases h2 : num_In b = true
    · by_cases h3 : b = 0
      · rw [if_neg (by rw [h1]; decide), if_neg (by rw [h2]; decide), if_pos h3, if_pos h1, if_pos h2, if_pos h3]
      · rw [if_neg (by rw [h1]; decide), if_neg (by rw [h2]; decide), if_neg h3, if_pos h1, if_pos h2, if_neg h3, obO_pos h3]
    · rw [if_neg (by rw [h1]; decide), if_pos (by simpa using h2), if_pos h1, if_neg h2]
  · rw [if_pos (by simpa using h1), if_neg h1]
def F_num_Div : FnC Un := fun args => match args with
  | [x0, x1] => (dI .i64 x0).bind fun a => (dI .i64 x1).bind fun b => some ([], A_num_Div (num_Div a b), O_num_Div (num_Div a b))
  | _ => none
theorem ok_num_Div : FnOK 60 F_num_Div := by
  intro args ob rs os h hob
  unfold F_num_Div at h
  split at h
  · simp only [Option.bind_eq_some_iff, Option.some.injEq, Prod.mk.injEq] at h
    obtain ⟨a, e0, b, e1, rfl, rfl, rfl⟩ := h
    obtain rfl := dI_eq e0
    obtain rfl := dI_eq e1
    exact ⟨fn_contractF (M := M_num_Div) rfl (tbl_ok (l1 := [(28, F_num_In), (69, F_num_told)]) (l2 := []) (l3 := []) (l4 := []) (l5 := []) ⟨ok_num_In, ok_num_told, trivial⟩ trivial trivial trivial trivial) Try.func60 (by kernel_rfl) N_num_Div 0 [.d, .d] (fun hwf => (num_Div_spec a b (wfArg hwf (a := .d (.v (.s (.int .i64 a)))) (List.mem_of_getElem? (i := 0) rfl)) (wfArg hwf (a := .d (.v (.s (.int .i64 b)))) (List.mem_of_getElem? (i := 1) rfl)))), hasBody_of Try.func60 (by kernel_rfl) (by kernel_rfl)⟩
  · simp at h
def M_num_Mod : Mc Un := mach (tbl [(28, F_num_In), (69, F_num_told)]) (tbl []) (tbl []) (tbl []) (tbl [])
def A_num_Mod (r : Int × Bool) : List (A Un) := [.c (.s (.int .i64 r.1)), .c (.s (.bool r.2))]
def O_num_Mod (_r : Int × Bool) : List (Ob Un) := []
def R_num_Mod (r : Int × Bool) : RF Un := (A_num_Mod r, O_num_Mod r)
def N_num_Mod : Nat → NS := fun l => (look l []).getD ⟨[], [], [], [], [], false⟩
def num_Mod_fn (a : Int) (b : Int) : Option (RF Un) := awf M_num_Mod N_num_Mod (bodyOf Try.f61) (entry Try.f61.ntmps 0 [.d (.v (.s (.int .i64 a))), .d (.v (.s (.int .i64 b)))]) (retF M_num_Mod Try.f61.results.toList [.d, .d])
theorem num_Mod_in (a : Int) (b : Int) : num_Mod_fn a b =
 cndO (!num_In a)
  (some (R_num_Mod ((0 : Int), false)))
  (cndO (!num_In b)
   (some (R_num_Mod ((0 : Int), false)))
   (cndO (b == 0)
    (some (R_num_Mod ((0 : Int), false)))
    (obO (¬b = 0)
     (some (R_num_Mod ((num_told a b (a.tmod b)).fst, (num_told a b (a.tmod b)).snd)))))) := by kernel_rfl
def num_Mod (a b : Int) : Int × Bool :=
  if num_In a = true then (if num_In b = true then (if b = 0 then (0, false) else num_told a b (a.tmod b)) else (0, false)) else (0, false)
theorem num_Mod_spec (a b : Int) (_ha : WI a) (_hb : WI b) : num_Mod_fn a b = some (R_num_Mod (num_Mod a b)) := by
  rw [num_Mod_in]
  unfold num_Mod
  simp only [cndO_eq, Bool.not_eq_true', beq_iff_eq]
  by_cases h1 : num_In a = true
  · by_cases h2 : num_In b = true
    · by_cases h3 : b = 0
      · rw [if_neg (by rw [h1]; decide), if_neg (by rw [h2]; decide), if_pos h3, if_pos h1, if_pos h2, if_pos h3]
      · rw [if_neg (by rw [h1]; decide), if_neg (by rw [h2]; decide), if_neg h3, if_pos h1, if_pos h2, if_neg h3, obO_pos h3]
    · rw [if_neg (by rw [h1]; decide), if_pos (by simpa using h2), if_pos h1, if_neg h2]
  · rw [if_pos (by simpa using h1), if_neg h1]
def F_num_Mod : FnC Un := fun args => match args with
  | [x0, x1] => (dI .i64 x0).bind fun a => (dI .i64 x1).bind fun b => some ([], A_num_Mod (num_Mod a b), O_num_Mod (num_Mod a b))
  | _ => none
theorem ok_num_Mod : FnOK 61 F_num_Mod := by
  intro args ob rs os h hob
  unfold F_num_Mod at h
  split at h
  · simp only [Option.bind_eq_some_iff, Option.some.injEq, Prod.mk.injEq] at h
    obtain ⟨a, e0, b, e1, rfl, rfl, rfl⟩ := h
    obtain rfl := dI_eq e0
    obtain rfl := dI_eq e1
    exact ⟨fn_contractF (M := M_num_Mod) rfl (tbl_ok (l1 := [(28, F_num_In), (69, F_num_told)]) (l2 := []) (l3 := []) (l4 := []) (l5 := []) ⟨ok_num_In, ok_num_told, trivial⟩ trivial trivial trivial trivial) Try.func61 (by kernel_rfl) N_num_Mod 0 [.d, .d] (fun hwf => (num_Mod_spec a b (wfArg hwf (a := .d (.v (.s (.int .i64 a)))) (List.mem_of_getElem? (i := 0) rfl)) (wfArg hwf (a := .d (.v (.s (.int .i64 b)))) (List.mem_of_getElem? (i := 1) rfl)))), hasBody_of Try.func61 (by kernel_rfl) (by kernel_rfl)⟩
  · simp at h
end
end Go.Proofs.Ytjmpnpkcgkhagaa.B
namespace Go.Proofs.Ytjmpnpkcgkhagaa.B
open Go Go.RowKit
set_option maxRecDepth 100000
noncomputable section
attribute [local irreducible] awp ctxK itersK iterK retQ retGQ awf ctxF loopF
def M_tri_Is : Mc Un := mach (tbl []) (tbl []) (tbl []) (tbl []) (tbl [])
def A_tri_Is (r : Bool) : List (A Un) := [.c (.s (.bool r))]
def O_tri_Is (_r : Bool) : List (Ob Un) := []
def R_tri_Is (r : Bool) : RF Un := (A_tri_Is r, O_tri_Is r)
def N_tri_Is : Nat → NS := fun l => (look l []).getD ⟨[], [], [], [], [], false⟩
def tri_Is_fn (a : Int) : Option (RF Un) := awf M_tri_Is N_tri_Is (bodyOf Try.f70) (entry Try.f70.ntmps 0 [.d (.v (.s (.int .i64 a)))]) (retF M_tri_Is Try.f70.results.toList [.d])
theorem tri_Is_in (a : Int) : tri_Is_fn a =
 cndO (a == 0)
  (some (R_tri_Is (true)))
  (cndO (a == 1)
   (some (R_tri_Is (true)))
   (some (R_tri_Is (a == 2)))) := by kernel_rfl
def tri_Is (a : Int) : Bool :=
  if (a == (0 : Int)) = true then
   (true)
  else
   if (a == (1 : Int)) = true then
    (true)
   else
    (a == (2 : Int))
theorem tri_Is_eq (a : Int) : tri_Is_fn a = some (R_tri_Is (tri_Is a)) := by rw [tri_Is_in]; unfold tri_Is; simp only [cndO_eq]; repeat (first | rfl | split)
def F_tri_Is : FnC Un := fun args => match args with
  | [x0] => (dI .i64 x0).bind fun a => some ([], A_tri_Is (tri_Is a), O_tri_Is (tri_Is a))
  | _ => none
theorem ok_tri_Is : FnOK 70 F_tri_Is := by
  intro args ob rs os h hob
  unfold F_tri_Is at h
  split at h
  · simp only [Option.bind_eq_some_iff, Option.some.injEq, Prod.mk.injEq] at h
    obtain ⟨a, e0, rfl, rfl, rfl⟩ := h
    obtain rfl := dI_eq e0
    exact ⟨fn_contractF (M := M_tri_Is) rfl (tbl_ok (l1 := []) (l2 := []) (l3 := []) (l4 := []) (l5 := []) trivial trivial trivial trivial trivial) Try.func70 (by kernel_rfl) N_tri_Is 0 [.d] (fun hwf => (tri_Is_eq a)), hasBody_of Try.func70 (by kernel_rfl) (by kernel_rfl)⟩
  · simp at h
def M_tri_one : Mc Un := mach (tbl [(70, F_tri_Is)]) (tbl []) (tbl []) (tbl []) (tbl [])
def A_tri_one (r : Int) : List (A Un) := [.c (.s (.int .i64 r))]
def O_tri_one (_r : Int) : List (Ob Un) := []
def R_tri_one (r : Int) : RF Un := (A_tri_one r, O_tri_one r)
def N_tri_one : Nat → NS := fun l => (look l []).getD ⟨[], [], [], [], [], false⟩
def tri_one_fn (a : Int) : Option (RF Un) := awf M_tri_one N_tri_one (bodyOf Try.f57) (entry Try.f57.ntmps 0 [.d (.v (.s (.int .i64 a)))]) (retF M_tri_one Try.f57.results.toList [.d])
theorem tri_one_in (a : Int) : tri_one_fn a =
 cndO (tri_Is a)
  (some (R_tri_one (a)))
  (some (R_tri_one ((1 : Int)))) := by kernel_rfl
def tri_one (a : Int) : Int :=
  if (tri_Is a) = true then
   (a)
  else
   ((1 : Int))
theorem tri_one_eq (a : Int) : tri_one_fn a = some (R_tri_one (tri_one a)) := by rw [tri_one_in]; unfold tri_one; simp only [cndO_eq]; repeat (first | rfl | split)
def F_tri_one : FnC Un := fun args => match args with
  | [x0] => (dI .i64 x0).bind fun a => some ([], A_tri_one (tri_one a), O_tri_one (tri_one a))
  | _ => none
theorem ok_tri_one : FnOK 57 F_tri_one := by
  intro args ob rs os h hob
  unfold F_tri_one at h
  split at h
  · simp only [Option.bind_eq_some_iff, Option.some.injEq, Prod.mk.injEq] at h
    obtain ⟨a, e0, rfl, rfl, rfl⟩ := h
    obtain rfl := dI_eq e0
    exact ⟨fn_contractF (M := M_tri_one) rfl (tbl_ok (l1 := [(70, F_tri_Is)]) (l2 := []) (l3 := []) (l4 := []) (l5 := []) ⟨ok_tri_Is, trivial⟩ trivial trivial trivial trivial) Try.func57 (by kernel_rfl) N_tri_one 0 [.d] (fun hwf => (tri_one_eq a)), hasBody_of Try.func57 (by kernel_rfl) (by kernel_rfl)⟩
  · simp at h
def M_tri_Of : Mc Un := mach (tbl []) (tbl []) (tbl []) (tbl []) (tbl [])
def A_tri_Of (r : Int) : List (A Un) := [.c (.s (.int .i64 r))]
def O_tri_Of (_r : Int) : List (Ob Un) := []
def R_tri_Of (r : Int) : RF Un := (A_tri_Of r, O_tri_Of r)
def N_tri_Of : Nat → NS := fun l => (look l []).getD ⟨[], [], [], [], [], false⟩
def tri_Of_fn (b : Bool) : Option (RF Un) := awf M_tri_Of N_tri_Of (bodyOf Try.f29) (entry Try.f29.ntmps 0 [.d (.v (cb b))]) (retF M_tri_Of Try.f29.results.toList [.d])
theorem tri_Of_in (b : Bool) : tri_Of_fn b =
 cndO (b)
  (some (R_tri_Of ((2 : Int))))
  (some (R_tri_Of ((0 : Int)))) := by kernel_rfl
def tri_Of (b : Bool) : Int :=
  if (b) = true then
   ((2 : Int))
  else
   ((0 : Int))
theorem tri_Of_eq (b : Bool) : tri_Of_fn b = some (R_tri_Of (tri_Of b)) := by rw [tri_Of_in]; unfold tri_Of; simp only [cndO_eq]; repeat (first | rfl | split)
def F_tri_Of : FnC Un := fun args => match args with
  | [x0] => (dB x0).bind fun b => some ([], A_tri_Of (tri_Of b), O_tri_Of (tri_Of b))
  | _ => none
theorem ok_tri_Of : FnOK 29 F_tri_Of := by
  intro args ob rs os h hob
  unfold F_tri_Of at h
  split at h
  · simp only [Option.bind_eq_some_iff, Option.some.injEq, Prod.mk.injEq] at h
    obtain ⟨b, e0, rfl, rfl, rfl⟩ := h
    obtain rfl := dB_eq e0
    exact ⟨fn_contractF (M := M_tri_Of) rfl (tbl_ok (l1 := []) (l2 := []) (l3 := []) (l4 := []) (l5 := []) trivial trivial trivial trivial trivial) Try.func29 (by kernel_rfl) N_tri_Of 0 [.d] (fun hwf => (tri_Of_eq b)), hasBody_of Try.func29 (by kernel_rfl) (by kernel_rfl)⟩
  · simp at h
def M_tri_Not : Mc Un := mach (tbl [(57, F_tri_one)]) (tbl []) (tbl []) (tbl []) (tbl [])
def A_tri_Not (r : Int) : List (A Un) := [.c (.s (.int .i64 r))]
def O_tri_Not (_r : Int) : List (Ob Un) := []
def R_tri_Not (r : Int) : RF Un := (A_tri_Not r, O_tri_Not r)
def N_tri_Not : Nat → NS := fun l => (look l []).getD ⟨[], [], [], [], [], false⟩
def tri_Not_fn (a : Int) : Option (RF Un) := awf M_tri_Not N_tri_Not (bodyOf Try.f40) (entry Try.f40.ntmps 0 [.d (.v (.s (.int .i64 a)))]) (retF M_tri_Not Try.f40.results.toList [.d])
theorem tri_Not_in (a : Int) : tri_Not_fn a =
 some (R_tri_Not (IntKind.i64.wrap ((2 : Int) - tri_one a))) := by kernel_rfl
def tri_Not (a : Int) : Int :=
  (IntKind.i64.wrap ((2 : Int) - tri_one a))
theorem tri_Not_eq (a : Int) : tri_Not_fn a = some (R_tri_Not (tri_Not a)) := by rw [tri_Not_in]; unfold tri_Not; simp only [cndO_eq]; repeat (first | rfl | split)
def F_tri_Not : FnC Un := fun args => match args with
  | [x0] => (dI .i64 x0).bind fun a => some ([], A_tri_Not (tri_Not a), O_tri_Not (tri_Not a))
  | _ => none
theorem ok_tri_Not : FnOK 40 F_tri_Not := by
  intro args ob rs os h hob
  unfold F_tri_Not at h
  split at h
  · simp only [Option.bind_eq_some_iff, Option.some.injEq, Prod.mk.injEq] at h
    obtain ⟨a, e0, rfl, rfl, rfl⟩ := h
    obtain rfl := dI_eq e0
    exact ⟨fn_contractF (M := M_tri_Not) rfl (tbl_ok (l1 := [(57, F_tri_one)]) (l2 := []) (l3 := []) (l4 := []) (l5 := []) ⟨ok_tri_one, trivial⟩ trivial trivial trivial trivial) Try.func40 (by kernel_rfl) N_tri_Not 0 [.d] (fun hwf => (tri_Not_eq a)), hasBody_of Try.func40 (by kernel_rfl) (by kernel_rfl)⟩
  · simp at h
def M_tri_And : Mc Un := mach (tbl [(57, F_tri_one)]) (tbl []) (tbl []) (tbl []) (tbl [])
def A_tri_And (r : Int) : List (A Un) := [.c (.s (.int .i64 r))]
def O_tri_And (_r : Int) : List (Ob Un) := []
def R_tri_And (r : Int) : RF Un := (A_tri_And r, O_tri_And r)
def N_tri_And : Nat → NS := fun l => (look l []).getD ⟨[], [], [], [], [], false⟩
def tri_And_fn (a : Int) (b : Int) : Option (RF Un) := awf M_tri_And N_tri_And (bodyOf Try.f46) (entry Try.f46.ntmps 0 [.d (.v (.s (.int .i64 a))), .d (.v (.s (.int .i64 b)))]) (retF M_tri_And Try.f46.results.toList [.d])
theorem tri_And_in (a : Int) (b : Int) : tri_And_fn a b =
 some (R_tri_And (List.foldl (fun a b => if b < a then b else a) (tri_one a) [tri_one b])) := by kernel_rfl
def tri_And (a : Int) (b : Int) : Int :=
  (List.foldl (fun a b => if b < a then b else a) (tri_one a) [tri_one b])
theorem tri_And_eq (a : Int) (b : Int) : tri_And_fn a b = some (R_tri_And (tri_And a b)) := by rw [tri_And_in]; unfold tri_And; simp only [cndO_eq]; repeat (first | rfl | split)
def F_tri_And : FnC Un := fun args => match args with
  | [x0, x1] => (dI .i64 x0).bind fun a => (dI .i64 x1).bind fun b => some ([], A_tri_And (tri_And a b), O_tri_And (tri_And a b))
  | _ => none
theorem ok_tri_And : FnOK 46 F_tri_And := by
  intro args ob rs os h hob
  unfold F_tri_And at h
  split at h
  · simp only [Option.bind_eq_some_iff, Option.some.injEq, Prod.mk.injEq] at h
    obtain ⟨a, e0, b, e1, rfl, rfl, rfl⟩ := h
    obtain rfl := dI_eq e0
    obtain rfl := dI_eq e1
    exact ⟨fn_contractF (M := M_tri_And) rfl (tbl_ok (l1 := [(57, F_tri_one)]) (l2 := []) (l3 := []) (l4 := []) (l5 := []) ⟨ok_tri_one, trivial⟩ trivial trivial trivial trivial) Try.func46 (by kernel_rfl) N_tri_And 0 [.d] (fun hwf => (tri_And_eq a b)), hasBody_of Try.func46 (by kernel_rfl) (by kernel_rfl)⟩
  · simp at h
def M_tri_Or : Mc Un := mach (tbl [(57, F_tri_one)]) (tbl []) (tbl []) (tbl []) (tbl [])
def A_tri_Or (r : Int) : List (A Un) := [.c (.s (.int .i64 r))]
def O_tri_Or (_r : Int) : List (Ob Un) := []
def R_tri_Or (r : Int) : RF Un := (A_tri_Or r, O_tri_Or r)
def N_tri_Or : Nat → NS := fun l => (look l []).getD ⟨[], [], [], [], [], false⟩
def tri_Or_fn (a : Int) (b : Int) : Option (RF Un) := awf M_tri_Or N_tri_Or (bodyOf Try.f47) (entry Try.f47.ntmps 0 [.d (.v (.s (.int .i64 a))), .d (.v (.s (.int .i64 b)))]) (retF M_tri_Or Try.f47.results.toList [.d])
theorem tri_Or_in (a : Int) (b : Int) : tri_Or_fn a b =
 some (R_tri_Or (List.foldl (fun a b => if a < b then b else a) (tri_one a) [tri_one b])) := by kernel_rfl
def tri_Or (a : Int) (b : Int) : Int :=
  (List.foldl (fun a b => if a < b then b else a) (tri_one a) [tri_one b])
theorem tri_Or_eq (a : Int) (b : Int) : tri_Or_fn a b = some (R_tri_Or (tri_Or a b)) := by rw [tri_Or_in]; unfold tri_Or; simp only [cndO_eq]; repeat (first | rfl | split)
def F_tri_Or : FnC Un := fun args => match args with
  | [x0, x1] => (dI .i64 x0).bind fun a => (dI .i64 x1).bind fun b => some ([], A_tri_Or (tri_Or a b), O_tri_Or (tri_Or a b))
  | _ => none
theorem ok_tri_Or : FnOK 47 F_tri_Or := by
  intro args ob rs os h hob
  unfold F_tri_Or at h
  split at h
  · simp only [Option.bind_eq_some_iff, Option.some.injEq, Prod.mk.injEq] at h
    obtain ⟨a, e0, b, e1, rfl, rfl, rfl⟩ := h
    obtain rfl := dI_eq e0
    obtain rfl := dI_eq e1
    exact ⟨fn_contractF (M := M_tri_Or) rfl (tbl_ok (l1 := [(57, F_tri_one)]) (l2 := []) (l3 := []) (l4 := []) (l5 := []) ⟨ok_tri_one, trivial⟩ trivial trivial trivial trivial) Try.func47 (by kernel_rfl) N_tri_Or 0 [.d] (fun hwf => (tri_Or_eq a b)), hasBody_of Try.func47 (by kernel_rfl) (by kernel_rfl)⟩
  · simp at h
def V_tri_And : FV Un := fv_i_i64_i_i64_to_i_i64 (fun a b => tri_And a b)
theorem okV_tri_And : FvOK 46 V_tri_And := by
  refine ⟨hasBody_of Try.func46 (by kernel_rfl) (by kernel_rfl), fun args ob rs h hob => ?_⟩
  unfold V_tri_And fv_i_i64_i_i64_to_i_i64 at h
  split at h
  · simp only [Option.bind_eq_some_iff, Option.some.injEq, Prod.mk.injEq] at h
    obtain ⟨a, e0, b, e1, rfl, rfl⟩ := h
    simp only [List.map_cons, List.map_nil]
    rw [dI_eq e0]
    rw [dI_eq e1]
    refine Contract.data (ok_tri_And _ ([]) _ _ (?_ : F_tri_And _ = some _) (by simp)).1
    unfold F_tri_And
    simp only [dI_mk]
    rfl
  · simp at h
def V_tri_Or : FV Un := fv_i_i64_i_i64_to_i_i64 (fun a b => tri_Or a b)
theorem okV_tri_Or : FvOK 47 V_tri_Or := by
  refine ⟨hasBody_of Try.func47 (by kernel_rfl) (by kernel_rfl), fun args ob rs h hob => ?_⟩
  unfold V_tri_Or fv_i_i64_i_i64_to_i_i64 at h
  split at h
  · simp only [Option.bind_eq_some_iff, Option.some.injEq, Prod.mk.injEq] at h
    obtain ⟨a, e0, b, e1, rfl, rfl⟩ := h
    simp only [List.map_cons, List.map_nil]
    rw [dI_eq e0]
    rw [dI_eq e1]
    refine Contract.data (ok_tri_Or _ ([]) _ _ (?_ : F_tri_Or _ = some _) (by simp)).1
    unfold F_tri_Or
    simp only [dI_mk]
    rfl
  · simp at h
def M_tri_Value : Mc Un := mach (tbl [(57, F_tri_one)]) (tbl []) (tbl []) (tbl []) (tbl [])
def A_tri_Value (r : Val) : List (A Un) := [.agg (encC Ty.val r)]
def O_tri_Value (_r : Val) : List (Ob Un) := []
def R_tri_Value (r : Val) : RF Un := (A_tri_Value r, O_tri_Value r)
def N_tri_Value : Nat → NS := fun l => (look l []).getD ⟨[], [], [], [], [], false⟩
def tri_Value_fn (a : Int) : Option (RF Un) := awf M_tri_Value N_tri_Value (bodyOf Try.f39) (entry Try.f39.ntmps 0 [.d (.v (.s (.int .i64 a)))]) (retF M_tri_Value Try.f39.results.toList [.d])
theorem tri_Value_in (a : Int) : tri_Value_fn a =
 cndO (tri_one a == 0)
  (some (R_tri_Value ({ kind := (1 : Int), n := (0 : Int), s := (ByteArray.mk #[]) })))
  (cndO (tri_one a == 2)
   (some (R_tri_Value ({ kind := (1 : Int), n := (1 : Int), s := (ByteArray.mk #[]) })))
   (some (R_tri_Value (zeroVal)))) := by kernel_rfl
def tri_Value (a : Int) : Val :=
  if (tri_one a == (0 : Int)) = true then
   ({ kind := (1 : Int), n := (0 : Int), s := (ByteArray.mk #[]) })
  else
   if (tri_one a == (2 : Int)) = true then
    ({ kind := (1 : Int), n := (1 : Int), s := (ByteArray.mk #[]) })
   else
    (zeroVal)
theorem tri_Value_eq (a : Int) : tri_Value_fn a = some (R_tri_Value (tri_Value a)) := by rw [tri_Value_in]; unfold tri_Value; simp only [cndO_eq]; repeat (first | rfl | split)
def F_tri_Value : FnC Un := fun args => match args with
  | [x0] => (dI .i64 x0).bind fun a => some ([], A_tri_Value (tri_Value a), O_tri_Value (tri_Value a))
  | _ => none
theorem ok_tri_Value : FnOK 39 F_tri_Value := by
  intro args ob rs os h hob
  unfold F_tri_Value at h
  split at h
  · simp only [Option.bind_eq_some_iff, Option.some.injEq, Prod.mk.injEq] at h
    obtain ⟨a, e0, rfl, rfl, rfl⟩ := h
    obtain rfl := dI_eq e0
    exact ⟨fn_contractF (M := M_tri_Value) rfl (tbl_ok (l1 := [(57, F_tri_one)]) (l2 := []) (l3 := []) (l4 := []) (l5 := []) ⟨ok_tri_one, trivial⟩ trivial trivial trivial trivial) Try.func39 (by kernel_rfl) N_tri_Value 0 [.d] (fun hwf => (tri_Value_eq a)), hasBody_of Try.func39 (by kernel_rfl) (by kernel_rfl)⟩
  · simp at h
def M_tri_From : Mc Un := mach (tbl [(29, F_tri_Of)]) (tbl []) (tbl []) (tbl []) (tbl [])
def A_tri_From (r : Int) : List (A Un) := [.c (.s (.int .i64 r))]
def O_tri_From (_r : Int) : List (Ob Un) := []
def R_tri_From (r : Int) : RF Un := (A_tri_From r, O_tri_From r)
def N_tri_From : Nat → NS := fun l => (look l []).getD ⟨[], [], [], [], [], false⟩
def tri_From_fn (v : Val) : Option (RF Un) := awf M_tri_From N_tri_From (bodyOf Try.f19) (entry Try.f19.ntmps 0 [.d (.agg (enc Ty.val v))]) (retF M_tri_From Try.f19.results.toList [.d])
theorem tri_From_in (v : Val) : tri_From_fn v =
 cndO (v.kind != 1)
  (some (R_tri_From ((1 : Int))))
  (some (R_tri_From (tri_Of (v.n != 0)))) := by kernel_rfl
def tri_From (v : Val) : Int :=
  if (v.kind != (1 : Int)) = true then
   ((1 : Int))
  else
   (tri_Of (v.n != (0 : Int)))
theorem tri_From_eq (v : Val) : tri_From_fn v = some (R_tri_From (tri_From v)) := by rw [tri_From_in]; unfold tri_From; simp only [cndO_eq]; repeat (first | rfl | split)
def F_tri_From : FnC Un := fun args => match args with
  | [x0] => (dS .val x0).bind fun v => some ([], A_tri_From (tri_From v), O_tri_From (tri_From v))
  | _ => none
theorem ok_tri_From : FnOK 19 F_tri_From := by
  intro args ob rs os h hob
  unfold F_tri_From at h
  split at h
  · simp only [Option.bind_eq_some_iff, Option.some.injEq, Prod.mk.injEq] at h
    obtain ⟨v, e0, rfl, rfl, rfl⟩ := h
    obtain rfl := dS_eq e0
    exact ⟨fn_contractF (M := M_tri_From) rfl (tbl_ok (l1 := [(29, F_tri_Of)]) (l2 := []) (l3 := []) (l4 := []) (l5 := []) ⟨ok_tri_Of, trivial⟩ trivial trivial trivial trivial) Try.func19 (by kernel_rfl) N_tri_From 0 [.d] (fun hwf => (tri_From_eq v)), hasBody_of Try.func19 (by kernel_rfl) (by kernel_rfl)⟩
  · simp at h
def M_tri_Any : Mc Un := mach (tbl [(47, F_tri_Or)]) (tbl []) (tbl []) (tbl []) (tbl [])
def A_tri_Any (r : Int) : List (A Un) := [.c (.s (.int .i64 r))]
def O_tri_Any (_r : Int) : List (Ob Un) := []
def R_tri_Any (r : Int) : RF Un := (A_tri_Any r, O_tri_Any r)
def N_tri_Any : Nat → NS := fun l => (look l [(3, { ts := bl 17 456, bs := bl 17 0, nm := [] })]).getD ⟨[], [], [], [], [], false⟩
def tri_Any_s3 (l : List Int) (v0 : Int) (v1 : Int) : S Un := (st 17 17 68 0 [(3, ai v0), (6, al .int l), (7, ai (↑l.length : Int)), (8, ai v1)] [] [])
def tri_Any_B3 : Code := sub (bodyOf Try.f65) [1, 1, 0, 1, 2, 2]
def tri_Any_L3 : S Un → Option (EX Un) := loopF (N_tri_Any 3) (fun s Q => awf M_tri_Any N_tri_Any tri_Any_B3 s Q)
def tri_Any_C3 : Exit → S Un → Option (RF Un) := ctxF M_tri_Any N_tri_Any (bodyOf Try.f65) [1, 1, 0, 1, 2] (retF M_tri_Any Try.f65.results.toList [.d])
def tri_Any_fn (l : List Int) : Option (RF Un) := awf M_tri_Any N_tri_Any (bodyOf Try.f65) (entry Try.f65.ntmps 0 [.d (.v (.dat (U := Un) Ty.int l))]) (retF M_tri_Any Try.f65.results.toList [.d])
theorem tri_Any_in (l : List Int) : tri_Any_fn l =
 (tri_Any_L3 (tri_Any_s3 l (0 : Int) (0 : Int))).bind (thenX tri_Any_C3) := by kernel_rfl
theorem tri_Any_l3 (l : List Int) (v0 : Int) (v1 : Int) : tri_Any_L3 (tri_Any_s3 l v0 v1) =
 cndO (decide (v1 < (↑l.length : Int)))
  (obO (0 ≤ v1 ∧ v1 < (↑l.length : Int))
   (tri_Any_L3 (tri_Any_s3 l (tri_Or v0 (l.getD v1.toNat (0 : Int))) (IntKind.i64.wrap (v1 + 1)))))
  (some (.exit 0, (tri_Any_s3 l v0 v1))) := (loopF_eq (N_tri_Any 3) tri_Any_B3 _).trans (by kernel_rfl)
theorem tri_Any_a3_x0 (l : List Int) (v0 : Int) (v1 : Int) : tri_Any_C3 (.exit 0) (tri_Any_s3 l v0 v1) =
 some (R_tri_Any (v0)) := by kernel_rfl
def tri_Any (l : List Int) : Int := l.foldl (fun m a => tri_Or m a) 0
theorem tri_Any_spec (l : List Int) (hl : WL .int l) : tri_Any_fn l = some (R_tri_Any (tri_Any l)) := by
  obtain ⟨lp, _⟩ := loop_fold (e := .exit 0) (L := tri_Any_L3) (st := fun (m : Int) i => tri_Any_s3 l m i) (l := l) (d := 0) (g := fun m a => tri_Or m a) (fun _ _ => True) hl.len
    (fun m i x hi hx _ => by
      refine ⟨trivial, ?_⟩
      rw [tri_Any_l3]
      simp only [cndO_eq, hi, decide_true, if_true, and_true, Int.toNat_natCast, hx]
      rw [obO_pos (by omega)])
    (fun m _ => by rw [tri_Any_l3]; simp [cndO_eq]) 0 trivial
  rw [tri_Any_in, loop_end lp, tri_Any_a3_x0]
  rfl
def F_tri_Any : FnC Un := fun args => match args with
  | [x0] => (dL .int x0).bind fun l => some ([], A_tri_Any (tri_Any l), O_tri_Any (tri_Any l))
  | _ => none
theorem ok_tri_Any : FnOK 65 F_tri_Any := by
  intro args ob rs os h hob
  unfold F_tri_Any at h
  split at h
  · simp only [Option.bind_eq_some_iff, Option.some.injEq, Prod.mk.injEq] at h
    obtain ⟨l, e0, rfl, rfl, rfl⟩ := h
    obtain rfl := dL_eq e0
    exact ⟨fn_contractF (M := M_tri_Any) rfl (tbl_ok (l1 := [(47, F_tri_Or)]) (l2 := []) (l3 := []) (l4 := []) (l5 := []) ⟨ok_tri_Or, trivial⟩ trivial trivial trivial trivial) Try.func65 (by kernel_rfl) N_tri_Any 0 [.d] (fun hwf => (tri_Any_spec l (wfArg hwf (a := .d (.v (.dat (U := Un) Ty.int l))) (List.mem_of_getElem? (i := 0) rfl)))), hasBody_of Try.func65 (by kernel_rfl) (by kernel_rfl)⟩
  · simp at h
end
end Go.Proofs.Ytjmpnpkcgkhagaa.B
