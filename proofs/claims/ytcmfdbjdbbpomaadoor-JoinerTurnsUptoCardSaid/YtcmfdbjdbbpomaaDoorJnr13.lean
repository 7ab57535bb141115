/- Part 13 of the proof: Sref03 Sdeqp Sgrpp Lscalar Lcompare. -/
import Derived.Lib.Bytealg
import Derived.Lib.Strings
import Derived.Lib.Walk
import Derived.Test.YtcmfdbjdbbpomaaDoorJnr12
namespace Go.Proofs.YtcmfdbjdbbpomaaDoor.B
open Go Go.RowKit
set_option maxRecDepth 100000
noncomputable section
attribute [local irreducible] awp ctxK itersK iterK retQ retGQ
def M_r03_ints : Mc Un := mach (tbl []) (tbl []) (tbl []) (tbl []) (tbl [])
def N_r03_ints : Nat → NS := fun l => (look l []).getD ⟨[], [], [], [], [], false⟩
def A_r03_ints (r : Int) : List (A Un) := [.c (.s (.int .i64 r))]
def O_r03_ints (_r : Int) : List (Ob Un) := []
theorem r03_ints_in (a : Int) (b : Int) (K : List (A Un) → List (Ob Un) → Prop) :
    awp M_r03_ints N_r03_ints (bodyOf Tryd.f42) (entry Tryd.f42.ntmps 0 [.d (.v (.s (.int .i64 a))), .d (.v (.s (.int .i64 b)))]) (retQ M_r03_ints Tryd.f42.results.toList [.d] K) =
(cnd (decide (a < b))
 (K (A_r03_ints ((-1 : Int))) (O_r03_ints ((-1 : Int))))
 (cnd (decide (a > b))
  (K (A_r03_ints ((1 : Int))) (O_r03_ints ((1 : Int))))
  (K (A_r03_ints ((0 : Int))) (O_r03_ints ((0 : Int)))))) := by kernel_rfl
def r03_ints_fn (a : Int) (b : Int) : Option (Int) :=
  if (decide (a < b)) = true then
   some ((-1 : Int))
  else
   if (decide (a > b)) = true then
    some ((1 : Int))
   else
    some ((0 : Int))
theorem r03_ints_run {a : Int} {b : Int} {r : Int} (h : r03_ints_fn a b = some r) : Runs (awp M_r03_ints N_r03_ints (bodyOf Tryd.f42) (entry Tryd.f42.ntmps 0 [.d (.v (.s (.int .i64 a))), .d (.v (.s (.int .i64 b)))]) (retQ M_r03_ints Tryd.f42.results.toList [.d] fun rs os => rs = A_r03_ints r ∧ os = O_r03_ints r)) := by
  constructor
  rw [r03_ints_in a b (fun rs os => rs = A_r03_ints r ∧ os = O_r03_ints r)]
  unfold r03_ints_fn at h
  rcases ite_some h with ⟨c1, h2⟩ | ⟨c1, h2⟩
  · cases h2
    exact (cnd_t c1 ⟨rfl, rfl⟩)
  · rcases ite_some h2 with ⟨c3, h4⟩ | ⟨c3, h4⟩
    · cases h4
      exact (cnd_f (bfalse c1) (cnd_t c3 ⟨rfl, rfl⟩))
    · cases h4
      exact (cnd_f (bfalse c1) (cnd_f (bfalse c3) ⟨rfl, rfl⟩))
def r03_ints (a : Int) (b : Int) : Int :=
  if (decide (a < b)) = true then
   ((-1 : Int))
  else
   if (decide (a > b)) = true then
    ((1 : Int))
   else
    ((0 : Int))
theorem r03_ints_eq (a : Int) (b : Int) : r03_ints_fn a b = some (r03_ints a b) := by unfold r03_ints_fn r03_ints; repeat (first | rfl | split)
def F_r03_ints : FnC Un := fun args => match args with
  | [x0, x1] => (dI .i64 x0).bind fun a => (dI .i64 x1).bind fun b => some ([], A_r03_ints (r03_ints a b), O_r03_ints (r03_ints a b))
  | _ => none
theorem ok_r03_ints : FnOK 42 F_r03_ints := by
  intro args ob rs os h hob
  unfold F_r03_ints at h
  split at h
  · simp only [Option.bind_eq_some_iff, Option.some.injEq, Prod.mk.injEq] at h
    obtain ⟨a, e0, b, e1, rfl, rfl, rfl⟩ := h
    obtain rfl := dI_eq e0
    obtain rfl := dI_eq e1
    exact ⟨fn_contract (M := M_r03_ints) rfl (tbl_ok (l1 := []) (l2 := []) (l3 := []) (l4 := []) (l5 := []) trivial trivial trivial trivial trivial) Tryd.func42 (by kernel_rfl) N_r03_ints 0 [.d] (fun hwf => r03_ints_run (r03_ints_eq a b)), hasBody_of Tryd.func42 (by kernel_rfl) (by kernel_rfl)⟩
  · simp at h
@[simp] theorem r03_ints_spec (a b : Int) : r03_ints a b = cmpI a b := by
  unfold r03_ints cmpI; simp only [decide_eq_true_eq]
def M_r03_texts : Mc Un := mach (tbl [(42, F_r03_ints)]) (tbl []) (tbl []) (tbl []) (tbl [])
def N_r03_texts : Nat → NS := fun l => (look l [(2, { ts := [true, true, false, false, true, true, false, false, false, false, false, false, false, false, false, false, false, false, false, false, false, false, false, false, false, false, false, false, false, false, false, false, false, false, false, false, false, false, false], bs := [false, false, false, false, false, false, false, false, false, false, false, false, false, false, false, false, false, false, false, false, false, false, false, false, false, false, false, false, false, false, false, false, false, false, false, false, false, false, false], nm := [], gb := [], gs := [] })]).getD ⟨[], [], [], [], [], false⟩
def A_r03_texts (r : Int) : List (A Un) := [.c (.s (.int .i64 r))]
def O_r03_texts (_r : Int) : List (Ob Un) := []
def r03_texts_s2 (a : ByteArray) (b : ByteArray) (v0 : Int) : S Un := (st 39 39 156 0 [(0, AV.one (A.c (C.s (Value.string a)))), (1, AV.one (A.c (C.s (Value.string b)))), (4, AV.one (A.c (C.s (Value.int IntKind.i64 (0 : Int))))), (5, AV.one (A.c (C.s (Value.int IntKind.i64 v0))))] [] [])
def r03_texts_e2_ret (a : ByteArray) (b : ByteArray) (v0 : Int) (v1 : Int) : S Un := (st 39 39 156 0 [(0, AV.one (A.c (C.s (Value.string a)))), (1, AV.one (A.c (C.s (Value.string b)))), (4, AV.one (A.c (C.s (Value.int IntKind.i64 v1)))), (5, AV.one (A.c (C.s (Value.int IntKind.i64 v0))))] [] [])
theorem r03_texts_in (a : ByteArray) (b : ByteArray) (K : List (A Un) → List (Ob Un) → Prop) :
    awp M_r03_texts N_r03_texts (bodyOf Tryd.f58) (entry Tryd.f58.ntmps 0 [.d (.v (cs a)), .d (.v (cs b))]) (retQ M_r03_texts Tryd.f58.results.toList [.d] K) =
(itersK (N_r03_texts 2) (awp M_r03_texts N_r03_texts (sub (bodyOf Tryd.f58) [1, 0, 1, 2, 2])) (ctxK M_r03_texts N_r03_texts (bodyOf Tryd.f58) [1, 0, 1, 2] (retQ M_r03_texts Tryd.f58.results.toList [.d] K)) (r03_texts_s2 a b (0 : Int))) := by kernel_rfl
theorem r03_texts_l2 (a : ByteArray) (b : ByteArray) (v0 : Int) (k : Nat) (Q : Exit → S Un → Prop) :
    iterK (N_r03_texts 2) (awp M_r03_texts N_r03_texts (sub (bodyOf Tryd.f58) [1, 0, 1, 2, 2])) Q (k + 1) (r03_texts_s2 a b v0) =
(cnd (decide (v0 < (↑a.size : Int)))
 (cnd (decide (v0 < (↑b.size : Int)))
  (((0 : Int) ≤ v0 ∧ v0 < (↑a.size : Int)) ∧
  (((0 : Int) ≤ v0 ∧ v0 < (↑b.size : Int)) ∧
  (cnd ((↑(a.toList.getD v0.toNat (0 : UInt8)).toNat : Int) != (↑(b.toList.getD v0.toNat (0 : UInt8)).toNat : Int))
   (((0 : Int) ≤ v0 ∧ v0 < (↑a.size : Int)) ∧
   (((0 : Int) ≤ v0 ∧ v0 < (↑b.size : Int)) ∧
   (Q .ret (r03_texts_e2_ret a b v0 (r03_ints (IntKind.i64.wrap (↑(a.toList.getD v0.toNat (0 : UInt8)).toNat : Int)) (IntKind.i64.wrap (↑(b.toList.getD v0.toNat (0 : UInt8)).toNat : Int)))))))
   (iterK (N_r03_texts 2) (awp M_r03_texts N_r03_texts (sub (bodyOf Tryd.f58) [1, 0, 1, 2, 2])) Q k (r03_texts_s2 a b (IntKind.i64.wrap (v0 + (1 : Int))))))))
  (Q (.exit 0) (r03_texts_s2 a b v0)))
 (Q (.exit 0) (r03_texts_s2 a b v0))) := by kernel_rfl
theorem r03_texts_a2_ret (a : ByteArray) (b : ByteArray) (v0 : Int) (v1 : Int) (K : List (A Un) → List (Ob Un) → Prop) :
    ctxK M_r03_texts N_r03_texts (bodyOf Tryd.f58) [1, 0, 1, 2] (retQ M_r03_texts Tryd.f58.results.toList [.d] K) .ret (r03_texts_e2_ret a b v0 v1) =
(K (A_r03_texts (v1)) (O_r03_texts (v1))) := by kernel_rfl
theorem r03_texts_a2_x0 (a : ByteArray) (b : ByteArray) (v0 : Int) (K : List (A Un) → List (Ob Un) → Prop) :
    ctxK M_r03_texts N_r03_texts (bodyOf Tryd.f58) [1, 0, 1, 2] (retQ M_r03_texts Tryd.f58.results.toList [.d] K) (.exit 0) (r03_texts_s2 a b v0) =
(K (A_r03_texts (r03_ints (↑a.size : Int) (↑b.size : Int))) (O_r03_texts (r03_ints (↑a.size : Int) (↑b.size : Int)))) := by kernel_rfl
def r03_texts_S2 (a : ByteArray) (b : ByteArray) (v : Int) : Option ((Int) ⊕ ((Int × Int) ⊕ (Int))) :=
  if (decide (v < (↑a.size : Int))) = true then
   if (decide (v < (↑b.size : Int))) = true then
    if (0 : Int) ≤ v ∧ v < (↑a.size : Int) then
     if (0 : Int) ≤ v ∧ v < (↑b.size : Int) then
      if ((↑(a.toList.getD v.toNat (0 : UInt8)).toNat : Int) != (↑(b.toList.getD v.toNat (0 : UInt8)).toNat : Int)) = true then
       if (0 : Int) ≤ v ∧ v < (↑a.size : Int) then
        if (0 : Int) ≤ v ∧ v < (↑b.size : Int) then
         some (.inr (.inl (v, (r03_ints (IntKind.i64.wrap (↑(a.toList.getD v.toNat (0 : UInt8)).toNat : Int)) (IntKind.i64.wrap (↑(b.toList.getD v.toNat (0 : UInt8)).toNat : Int))))))
        else none
       else none
      else
       some (.inl (IntKind.i64.wrap (v + (1 : Int))))
     else none
    else none
   else
    some (.inr (.inr v))
  else
   some (.inr (.inr v))
def r03_texts_L2 (a : ByteArray) (b : ByteArray) (v : Int) : Option ((Int × Int) ⊕ (Int)) := loopO (r03_texts_S2 a b) v
theorem r03_texts_L2_eq (a : ByteArray) (b : ByteArray) (v : Int) : r03_texts_L2 a b v = stepB (r03_texts_L2 a b) (r03_texts_S2 a b v) := loopO_eq _ _
def r03_texts_Q2 (a : ByteArray) (b : ByteArray) (r : (Int × Int) ⊕ (Int)) (Q : Exit → S Un → Prop) : Prop := match r with | .inl x => Q .ret (r03_texts_e2_ret a b x.1 x.2) | .inr x => Q (.exit 0) (r03_texts_s2 a b x)
theorem r03_texts_Q2_ret {a : ByteArray} {b : ByteArray} {x : Int × Int} {Q : Exit → S Un → Prop} (h : Q .ret (r03_texts_e2_ret a b x.1 x.2)) : r03_texts_Q2 a b (.inl x) Q := h
theorem r03_texts_Q2_x0 {a : ByteArray} {b : ByteArray} {x : Int} {Q : Exit → S Un → Prop} (h : Q (.exit 0) (r03_texts_s2 a b x)) : r03_texts_Q2 a b (.inr x) Q := h
theorem r03_texts_L2_run {a : ByteArray} {b : ByteArray} {v : Int} {r : (Int × Int) ⊕ (Int)} (h : r03_texts_L2 a b v = some r) (Q : Exit → S Un → Prop) (hQ : r03_texts_Q2 a b r Q) : itersK (N_r03_texts 2) (awp M_r03_texts N_r03_texts (sub (bodyOf Tryd.f58) [1, 0, 1, 2, 2])) Q (r03_texts_s2 a b v) := by
  refine @loop_run _ _ (r03_texts_S2 a b) (fun v => itersK (N_r03_texts 2) (awp M_r03_texts N_r03_texts (sub (bodyOf Tryd.f58) [1, 0, 1, 2, 2])) Q (r03_texts_s2 a b v)) (fun r => r03_texts_Q2 a b r Q) ?_ v r h hQ
  intro v o h hI
  unfold r03_texts_S2 at h
  rcases ite_some h with ⟨c1, h2⟩ | ⟨c1, h2⟩
  · rcases ite_some h2 with ⟨c3, h4⟩ | ⟨c3, h4⟩
    · obtain ⟨c5, h6⟩ := ob_some h4
      obtain ⟨c7, h8⟩ := ob_some h6
      rcases ite_some h8 with ⟨c9, h10⟩ | ⟨c9, h10⟩
      · obtain ⟨c11, h12⟩ := ob_some h10
        obtain ⟨c13, h14⟩ := ob_some h12
        cases h14
        exact itersK_mk 1 (mpr (r03_texts_l2 a b v 0 Q) (cnd_t c1 (cnd_t c3 (And.intro c5 (And.intro c7 (cnd_t c9 (And.intro c11 (And.intro c13 hI))))))))
      · cases h10
        obtain ⟨k15, hk16⟩ := itersK_get hI
        exact itersK_mk (k15 + 1) (mpr (r03_texts_l2 a b v k15 Q) (cnd_t c1 (cnd_t c3 (And.intro c5 (And.intro c7 (cnd_f (bfalse c9) hk16))))))
    · cases h4
      exact itersK_mk 1 (mpr (r03_texts_l2 a b v 0 Q) (cnd_t c1 (cnd_f (bfalse c3) hI)))
  · cases h2
    exact itersK_mk 1 (mpr (r03_texts_l2 a b v 0 Q) (cnd_f (bfalse c1) hI))
def r03_texts_fn (a : ByteArray) (b : ByteArray) : Option (Int) :=
  (r03_texts_L2 a b (0 : Int)) >>= fun o17 => match o17 with
   | .inl o18 =>
     some (o18.2)
   | .inr o19 =>
     some (r03_ints (↑a.size : Int) (↑b.size : Int))
theorem r03_texts_run {a : ByteArray} {b : ByteArray} {r : Int} (h : r03_texts_fn a b = some r) : Runs (awp M_r03_texts N_r03_texts (bodyOf Tryd.f58) (entry Tryd.f58.ntmps 0 [.d (.v (cs a)), .d (.v (cs b))]) (retQ M_r03_texts Tryd.f58.results.toList [.d] fun rs os => rs = A_r03_texts r ∧ os = O_r03_texts r)) := by
  constructor
  rw [r03_texts_in a b (fun rs os => rs = A_r03_texts r ∧ os = O_r03_texts r)]
  unfold r03_texts_fn at h
  obtain ⟨o20, ho21, h22⟩ := bind_some h
  rcases o20 with o23 | o24
  · cases h22
    exact (r03_texts_L2_run ho21 _ (r03_texts_Q2_ret (mpr (r03_texts_a2_ret a b o23.1 o23.2 _) ⟨rfl, rfl⟩)))
  · cases h22
    exact (r03_texts_L2_run ho21 _ (r03_texts_Q2_x0 (mpr (r03_texts_a2_x0 a b o24 _) ⟨rfl, rfl⟩)))
def r03_texts (a b : ByteArray) : Int := cmpS a b
@[simp] theorem r03_texts_eq (a b : ByteArray) : r03_texts a b = cmpS a b := by unfold r03_texts; rfl
theorem r03_texts_loop (a b : ByteArray) (ha : WStr a) (hb : WStr b) : ∀ (ra rb : List UInt8) (i : Nat), a.toList.drop i = ra → b.toList.drop i = rb → i ≤ a.size → i ≤ b.size →
    ∃ o, r03_texts_L2 a b i = some o ∧ (match o with | .inl o => o.2 | .inr _ => cmpI a.size b.size) = cmpL ra rb := by
  intro ra
  induction ra with
  | nil =>
    intro rb i h1 h2 h3 h4
    have e1 := drop_len h1; have e2 := drop_len h2
    rw [toList_size] at e1 e2
    simp only [List.length_nil] at e1
    have hn : ¬ ((i : Int) < a.size) := by omega
    refine ⟨.inr i, by rw [r03_texts_L2_eq, r03_texts_S2]; simp [hn], ?_⟩
    simp only
    cases rb with
    | nil => simp at e2; unfold cmpI cmpL; rw [if_neg (by omega), if_neg (by omega)]
    | cons y rb => simp at e2; unfold cmpI cmpL; rw [if_pos (by omega)]
  | cons x ra ih =>
    intro rb i h1 h2 h3 h4
    obtain ⟨a1, a2, a3, _⟩ := drop_cons h1
    rw [toList_size] at a1
    have hp : (i : Int) < a.size := by omega
    cases rb with
    | nil =>
      have e2 := drop_len h2
      rw [toList_size] at e2
      simp only [List.length_nil] at e2
      have hn : ¬ ((i : Int) < b.size) := by omega
      refine ⟨.inr i, by rw [r03_texts_L2_eq, r03_texts_S2]; simp [hn, hp], ?_⟩
      simp only; unfold cmpI cmpL; rw [if_neg (by omega), if_pos (by omega)]
    | cons y rb =>
      obtain ⟨b1, b2, b3, _⟩ := drop_cons h2
      rw [toList_size] at b1
      have hq : (i : Int) < b.size := by omega
      have hi : (0 : Int) ≤ i := by omega
      rw [r03_texts_L2_eq, r03_texts_S2]
      simp only [hp, hq, hi, decide_true, if_true, true_and, and_self, Int.toNat_natCast, a2, b2]
      by_cases hxy : x = y
      · subst hxy
        simp only [bne_self_eq_false, Bool.false_eq_true, if_false]
        rw [wrap_succ a1 ha]
        simpa only [cmpL, if_true, stepB_inl] using ih rb (i + 1) a3 b3 (by omega) (by omega)
      · have hne : ((x.toNat : Int) != (y.toNat : Int)) = true := by
          rw [bne_iff_ne]; intro e; exact hxy (UInt8.toNat_inj.1 (by omega))
        have hx := x.toNat_lt; have hy := y.toNat_lt
        refine ⟨_, by rw [if_pos hne, stepB_inr], ?_⟩
        simp only [cmpL, hxy, if_false, r03_ints_spec]
        rw [wrap_id (by omega), wrap_id (by omega)]
theorem r03_texts_spec (a b : ByteArray) (ha : WStr a) (hb : WStr b) : r03_texts_fn a b = some (r03_texts a b) := by
  obtain ⟨o, ho, e⟩ := r03_texts_loop a b ha hb _ _ 0 rfl rfl (by omega) (by omega)
  unfold r03_texts_fn r03_texts cmpS
  rw [show (0 : Int) = ((0 : Nat) : Int) from rfl, ho]
  simp only [List.drop_zero] at e
  rw [← e]
  cases o <;> simp
def F_r03_texts : FnC Un := fun args => match args with
  | [x0, x1] => (dStr x0).bind fun a => (dStr x1).bind fun b => some ([], A_r03_texts (r03_texts a b), O_r03_texts (r03_texts a b))
  | _ => none
theorem ok_r03_texts : FnOK 58 F_r03_texts := by
  intro args ob rs os h hob
  unfold F_r03_texts at h
  split at h
  · simp only [Option.bind_eq_some_iff, Option.some.injEq, Prod.mk.injEq] at h
    obtain ⟨a, e0, b, e1, rfl, rfl, rfl⟩ := h
    obtain rfl := dStr_eq e0
    obtain rfl := dStr_eq e1
    exact ⟨fn_contract (M := M_r03_texts) rfl (tbl_ok (l1 := [(42, F_r03_ints)]) (l2 := []) (l3 := []) (l4 := []) (l5 := []) ⟨ok_r03_ints, trivial⟩ trivial trivial trivial trivial) Tryd.func58 (by kernel_rfl) N_r03_texts 0 [.d] (fun hwf => r03_texts_run (r03_texts_spec a b (wfArg hwf (a := .d (.v (cs a))) (List.mem_of_getElem? (i := 0) rfl)) (wfArg hwf (a := .d (.v (cs b))) (List.mem_of_getElem? (i := 1) rfl)))), hasBody_of Tryd.func58 (by kernel_rfl) (by kernel_rfl)⟩
  · simp at h
def M_r03_Order : Mc Un := mach (tbl [(42, F_r03_ints), (58, F_r03_texts)]) (tbl []) (tbl []) (tbl []) (tbl [])
def N_r03_Order : Nat → NS := fun l => (look l []).getD ⟨[], [], [], [], [], false⟩
def A_r03_Order (r : Int) : List (A Un) := [.c (.s (.int .i64 r))]
def O_r03_Order (_r : Int) : List (Ob Un) := []
theorem r03_Order_in (a : Val) (b : Val) (K : List (A Un) → List (Ob Un) → Prop) :
    awp M_r03_Order N_r03_Order (bodyOf Tryd.f41) (entry Tryd.f41.ntmps 0 [.d (.agg (enc Ty.val a)), .d (.agg (enc Ty.val b))]) (retQ M_r03_Order Tryd.f41.results.toList [.d] K) =
(cnd (a.kind != b.kind)
 (K (A_r03_Order (r03_ints a.kind b.kind)) (O_r03_Order (r03_ints a.kind b.kind)))
 (cnd (a.n != b.n)
  (K (A_r03_Order (r03_ints a.n b.n)) (O_r03_Order (r03_ints a.n b.n)))
  (K (A_r03_Order (r03_texts a.s b.s)) (O_r03_Order (r03_texts a.s b.s))))) := by kernel_rfl
def r03_Order_fn (a : Val) (b : Val) : Option (Int) :=
  if (a.kind != b.kind) = true then
   some (r03_ints a.kind b.kind)
  else
   if (a.n != b.n) = true then
    some (r03_ints a.n b.n)
   else
    some (r03_texts a.s b.s)
theorem r03_Order_run {a : Val} {b : Val} {r : Int} (h : r03_Order_fn a b = some r) : Runs (awp M_r03_Order N_r03_Order (bodyOf Tryd.f41) (entry Tryd.f41.ntmps 0 [.d (.agg (enc Ty.val a)), .d (.agg (enc Ty.val b))]) (retQ M_r03_Order Tryd.f41.results.toList [.d] fun rs os => rs = A_r03_Order r ∧ os = O_r03_Order r)) := by
  constructor
  rw [r03_Order_in a b (fun rs os => rs = A_r03_Order r ∧ os = O_r03_Order r)]
  unfold r03_Order_fn at h
  rcases ite_some h with ⟨c1, h2⟩ | ⟨c1, h2⟩
  · cases h2
    exact (cnd_t c1 ⟨rfl, rfl⟩)
  · rcases ite_some h2 with ⟨c3, h4⟩ | ⟨c3, h4⟩
    · cases h4
      exact (cnd_f (bfalse c1) (cnd_t c3 ⟨rfl, rfl⟩))
    · cases h4
      exact (cnd_f (bfalse c1) (cnd_f (bfalse c3) ⟨rfl, rfl⟩))
def r03_Order (a b : Val) : Int := ordV a b
@[simp] theorem r03_Order_eq (a b : Val) : r03_Order a b = ordV a b := by unfold r03_Order; rfl
theorem r03_Order_spec (a b : Val) (_ha : WS .val a) (_hb : WS .val b) : r03_Order_fn a b = some (r03_Order a b) := by
  unfold r03_Order_fn r03_Order ordV
  simp only [bne_iff_ne, ne_eq, ite_not, r03_ints_spec, r03_texts_eq]
  split
  · split <;> rfl
  · rfl
def F_r03_Order : FnC Un := fun args => match args with
  | [x0, x1] => (dS .val x0).bind fun a => (dS .val x1).bind fun b => some ([], A_r03_Order (r03_Order a b), O_r03_Order (r03_Order a b))
  | _ => none
theorem ok_r03_Order : FnOK 41 F_r03_Order := by
  intro args ob rs os h hob
  unfold F_r03_Order at h
  split at h
  · simp only [Option.bind_eq_some_iff, Option.some.injEq, Prod.mk.injEq] at h
    obtain ⟨a, e0, b, e1, rfl, rfl, rfl⟩ := h
    obtain rfl := dS_eq e0
    obtain rfl := dS_eq e1
    exact ⟨fn_contract (M := M_r03_Order) rfl (tbl_ok (l1 := [(42, F_r03_ints), (58, F_r03_texts)]) (l2 := []) (l3 := []) (l4 := []) (l5 := []) ⟨ok_r03_ints, ok_r03_texts, trivial⟩ trivial trivial trivial trivial) Tryd.func41 (by kernel_rfl) N_r03_Order 0 [.d] (fun hwf => r03_Order_run (r03_Order_spec a b (wfArg hwf (a := .d (.agg (enc Ty.val a))) (List.mem_of_getElem? (i := 0) rfl)) (wfArg hwf (a := .d (.agg (enc Ty.val b))) (List.mem_of_getElem? (i := 1) rfl)))), hasBody_of Tryd.func41 (by kernel_rfl) (by kernel_rfl)⟩
  · simp at h
def M_r03_Orders : Mc Un := mach (tbl [(41, F_r03_Order), (42, F_r03_ints)]) (tbl []) (tbl []) (tbl []) (tbl [])
def N_r03_Orders : Nat → NS := fun l => (look l [(2, { ts := [true, true, false, false, true, true, false, false, false, false, false, false, false, false, false, false, false, false, false, false, false, false, false, false, false, false, false, false, false, false, false, false, false, false, false, false, false, false, false, false, false, false], bs := [false, false, false, false, false, false, false, false, false, false, false, false, false, false, false, false, false, false, false, false, false, false, false, false, false, false, false, false, false, false, false, false, false, false, false, false, false, false, false, false, false, false], nm := [], gb := [], gs := [] })]).getD ⟨[], [], [], [], [], false⟩
def A_r03_Orders (r : Int) : List (A Un) := [.c (.s (.int .i64 r))]
def O_r03_Orders (_r : Int) : List (Ob Un) := []
def r03_Orders_s2 (a : List Val) (b : List Val) (v0 : Int) : S Un := (st 42 42 168 0 [(0, AV.one (A.c (C.sl Ty.val a false))), (1, AV.one (A.c (C.sl Ty.val b false))), (4, AV.one (A.c (C.s (Value.int IntKind.i64 (0 : Int))))), (5, AV.one (A.c (C.s (Value.int IntKind.i64 v0))))] [] [])
def r03_Orders_e2_ret (a : List Val) (b : List Val) (v0 : Int) (v1 : Int) : S Un := (st 42 42 168 0 [(0, AV.one (A.c (C.sl Ty.val a false))), (1, AV.one (A.c (C.sl Ty.val b false))), (4, AV.one (A.c (C.s (Value.int IntKind.i64 v1)))), (5, AV.one (A.c (C.s (Value.int IntKind.i64 v0))))] [] [])
theorem r03_Orders_in (a : List Val) (b : List Val) (K : List (A Un) → List (Ob Un) → Prop) :
    awp M_r03_Orders N_r03_Orders (bodyOf Tryd.f28) (entry Tryd.f28.ntmps 0 [.d (.v (.dat (U := Un) Ty.val a)), .d (.v (.dat (U := Un) Ty.val b))]) (retQ M_r03_Orders Tryd.f28.results.toList [.d] K) =
(itersK (N_r03_Orders 2) (awp M_r03_Orders N_r03_Orders (sub (bodyOf Tryd.f28) [1, 0, 1, 2, 2])) (ctxK M_r03_Orders N_r03_Orders (bodyOf Tryd.f28) [1, 0, 1, 2] (retQ M_r03_Orders Tryd.f28.results.toList [.d] K)) (r03_Orders_s2 a b (0 : Int))) := by kernel_rfl
theorem r03_Orders_l2 (a : List Val) (b : List Val) (v0 : Int) (k : Nat) (Q : Exit → S Un → Prop) :
    iterK (N_r03_Orders 2) (awp M_r03_Orders N_r03_Orders (sub (bodyOf Tryd.f28) [1, 0, 1, 2, 2])) Q (k + 1) (r03_Orders_s2 a b v0) =
(cnd (decide (v0 < (↑a.length : Int)))
 (cnd (decide (v0 < (↑b.length : Int)))
  (((0 : Int) ≤ v0 ∧ v0 < (↑a.length : Int)) ∧
  (((0 : Int) ≤ v0 ∧ v0 < (↑b.length : Int)) ∧
  (cnd (r03_Order (a.getD v0.toNat zeroVal) (b.getD v0.toNat zeroVal) != (0 : Int))
   (((0 : Int) ≤ v0 ∧ v0 < (↑a.length : Int)) ∧
   (((0 : Int) ≤ v0 ∧ v0 < (↑b.length : Int)) ∧
   (Q .ret (r03_Orders_e2_ret a b v0 (r03_Order (a.getD v0.toNat zeroVal) (b.getD v0.toNat zeroVal))))))
   (iterK (N_r03_Orders 2) (awp M_r03_Orders N_r03_Orders (sub (bodyOf Tryd.f28) [1, 0, 1, 2, 2])) Q k (r03_Orders_s2 a b (IntKind.i64.wrap (v0 + (1 : Int))))))))
  (Q (.exit 0) (r03_Orders_s2 a b v0)))
 (Q (.exit 0) (r03_Orders_s2 a b v0))) := by kernel_rfl
theorem r03_Orders_a2_ret (a : List Val) (b : List Val) (v0 : Int) (v1 : Int) (K : List (A Un) → List (Ob Un) → Prop) :
    ctxK M_r03_Orders N_r03_Orders (bodyOf Tryd.f28) [1, 0, 1, 2] (retQ M_r03_Orders Tryd.f28.results.toList [.d] K) .ret (r03_Orders_e2_ret a b v0 v1) =
(K (A_r03_Orders (v1)) (O_r03_Orders (v1))) := by kernel_rfl
theorem r03_Orders_a2_x0 (a : List Val) (b : List Val) (v0 : Int) (K : List (A Un) → List (Ob Un) → Prop) :
    ctxK M_r03_Orders N_r03_Orders (bodyOf Tryd.f28) [1, 0, 1, 2] (retQ M_r03_Orders Tryd.f28.results.toList [.d] K) (.exit 0) (r03_Orders_s2 a b v0) =
(K (A_r03_Orders (r03_ints (↑a.length : Int) (↑b.length : Int))) (O_r03_Orders (r03_ints (↑a.length : Int) (↑b.length : Int)))) := by kernel_rfl
def r03_Orders_S2 (a : List Val) (b : List Val) (v : Int) : Option ((Int) ⊕ ((Int × Int) ⊕ (Int))) :=
  if (decide (v < (↑a.length : Int))) = true then
   if (decide (v < (↑b.length : Int))) = true then
    if (0 : Int) ≤ v ∧ v < (↑a.length : Int) then
     if (0 : Int) ≤ v ∧ v < (↑b.length : Int) then
      if (r03_Order (a.getD v.toNat zeroVal) (b.getD v.toNat zeroVal) != (0 : Int)) = true then
       if (0 : Int) ≤ v ∧ v < (↑a.length : Int) then
        if (0 : Int) ≤ v ∧ v < (↑b.length : Int) then
         some (.inr (.inl (v, (r03_Order (a.getD v.toNat zeroVal) (b.getD v.toNat zeroVal)))))
        else none
       else none
      else
       some (.inl (IntKind.i64.wrap (v + (1 : Int))))
     else none
    else none
   else
    some (.inr (.inr v))
  else
   some (.inr (.inr v))
def r03_Orders_L2 (a : List Val) (b : List Val) (v : Int) : Option ((Int × Int) ⊕ (Int)) := loopO (r03_Orders_S2 a b) v
theorem r03_Orders_L2_eq (a : List Val) (b : List Val) (v : Int) : r03_Orders_L2 a b v = stepB (r03_Orders_L2 a b) (r03_Orders_S2 a b v) := loopO_eq _ _
def r03_Orders_Q2 (a : List Val) (b : List Val) (r : (Int × Int) ⊕ (Int)) (Q : Exit → S Un → Prop) : Prop := match r with | .inl x => Q .ret (r03_Orders_e2_ret a b x.1 x.2) | .inr x => Q (.exit 0) (r03_Orders_s2 a b x)
theorem r03_Orders_Q2_ret {a : List Val} {b : List Val} {x : Int × Int} {Q : Exit → S Un → Prop} (h : Q .ret (r03_Orders_e2_ret a b x.1 x.2)) : r03_Orders_Q2 a b (.inl x) Q := h
theorem r03_Orders_Q2_x0 {a : List Val} {b : List Val} {x : Int} {Q : Exit → S Un → Prop} (h : Q (.exit 0) (r03_Orders_s2 a b x)) : r03_Orders_Q2 a b (.inr x) Q := h
theorem r03_Orders_L2_run {a : List Val} {b : List Val} {v : Int} {r : (Int × Int) ⊕ (Int)} (h : r03_Orders_L2 a b v = some r) (Q : Exit → S Un → Prop) (hQ : r03_Orders_Q2 a b r Q) : itersK (N_r03_Orders 2) (awp M_r03_Orders N_r03_Orders (sub (bodyOf Tryd.f28) [1, 0, 1, 2, 2])) Q (r03_Orders_s2 a b v) := by
  refine @loop_run _ _ (r03_Orders_S2 a b) (fun v => itersK (N_r03_Orders 2) (awp M_r03_Orders N_r03_Orders (sub (bodyOf Tryd.f28) [1, 0, 1, 2, 2])) Q (r03_Orders_s2 a b v)) (fun r => r03_Orders_Q2 a b r Q) ?_ v r h hQ
  intro v o h hI
  unfold r03_Orders_S2 at h
  rcases ite_some h with ⟨c1, h2⟩ | ⟨c1, h2⟩
  · rcases ite_some h2 with ⟨c3, h4⟩ | ⟨c3, h4⟩
    · obtain ⟨c5, h6⟩ := ob_some h4
      obtain ⟨c7, h8⟩ := ob_some h6
      rcases ite_some h8 with ⟨c9, h10⟩ | ⟨c9, h10⟩
      · obtain ⟨c11, h12⟩ := ob_some h10
        obtain ⟨c13, h14⟩ := ob_some h12
        cases h14
        exact itersK_mk 1 (mpr (r03_Orders_l2 a b v 0 Q) (cnd_t c1 (cnd_t c3 (And.intro c5 (And.intro c7 (cnd_t c9 (And.intro c11 (And.intro c13 hI))))))))
      · cases h10
        obtain ⟨k15, hk16⟩ := itersK_get hI
        exact itersK_mk (k15 + 1) (mpr (r03_Orders_l2 a b v k15 Q) (cnd_t c1 (cnd_t c3 (And.intro c5 (And.intro c7 (cnd_f (bfalse c9) hk16))))))
    · cases h4
      exact itersK_mk 1 (mpr (r03_Orders_l2 a b v 0 Q) (cnd_t c1 (cnd_f (bfalse c3) hI)))
  · cases h2
    exact itersK_mk 1 (mpr (r03_Orders_l2 a b v 0 Q) (cnd_f (bfalse c1) hI))
def r03_Orders_fn (a : List Val) (b : List Val) : Option (Int) :=
  (r03_Orders_L2 a b (0 : Int)) >>= fun o17 => match o17 with
   | .inl o18 =>
     some (o18.2)
   | .inr o19 =>
     some (r03_ints (↑a.length : Int) (↑b.length : Int))
theorem r03_Orders_run {a : List Val} {b : List Val} {r : Int} (h : r03_Orders_fn a b = some r) : Runs (awp M_r03_Orders N_r03_Orders (bodyOf Tryd.f28) (entry Tryd.f28.ntmps 0 [.d (.v (.dat (U := Un) Ty.val a)), .d (.v (.dat (U := Un) Ty.val b))]) (retQ M_r03_Orders Tryd.f28.results.toList [.d] fun rs os => rs = A_r03_Orders r ∧ os = O_r03_Orders r)) := by
  constructor
  rw [r03_Orders_in a b (fun rs os => rs = A_r03_Orders r ∧ os = O_r03_Orders r)]
  unfold r03_Orders_fn at h
  obtain ⟨o20, ho21, h22⟩ := bind_some h
  rcases o20 with o23 | o24
  · cases h22
    exact (r03_Orders_L2_run ho21 _ (r03_Orders_Q2_ret (mpr (r03_Orders_a2_ret a b o23.1 o23.2 _) ⟨rfl, rfl⟩)))
  · cases h22
    exact (r03_Orders_L2_run ho21 _ (r03_Orders_Q2_x0 (mpr (r03_Orders_a2_x0 a b o24 _) ⟨rfl, rfl⟩)))
def r03_Orders (a b : List Val) : Int := ordR a b
@[simp] theorem r03_Orders_eq (a b : List Val) : r03_Orders a b = ordR a b := by unfold r03_Orders; rfl
theorem r03_Orders_loop (a b : List Val) (ha : WL .val a) (hb : WL .val b) : ∀ (ra rb : List Val) (i : Nat), a.drop i = ra → b.drop i = rb → i ≤ a.length → i ≤ b.length →
    ∃ o, r03_Orders_L2 a b i = some o ∧ (match o with | .inl o => o.2 | .inr _ => cmpI a.length b.length) = ordR ra rb := by
  intro ra
  induction ra with
  | nil =>
    intro rb i h1 h2 h3 h4
    have e1 := drop_len h1; have e2 := drop_len h2
    simp only [List.length_nil] at e1
    have hn : ¬ ((i : Int) < a.length) := by omega
    refine ⟨.inr i, by rw [r03_Orders_L2_eq, r03_Orders_S2]; simp [hn], ?_⟩
    simp only
    cases rb with
    | nil => simp at e2; unfold cmpI ordR; rw [if_neg (by omega), if_neg (by omega)]
    | cons y rb => simp at e2; unfold cmpI ordR; rw [if_pos (by omega)]
  | cons x ra ih =>
    intro rb i h1 h2 h3 h4
    obtain ⟨a1, a2, a3, _⟩ := drop_cons h1
    have hp : (i : Int) < a.length := by omega
    cases rb with
    | nil =>
      have e2 := drop_len h2
      simp only [List.length_nil] at e2
      have hn : ¬ ((i : Int) < b.length) := by omega
      refine ⟨.inr i, by rw [r03_Orders_L2_eq, r03_Orders_S2]; simp [hn, hp], ?_⟩
      simp only; unfold cmpI ordR; rw [if_neg (by omega), if_pos (by omega)]
    | cons y rb =>
      obtain ⟨b1, b2, b3, _⟩ := drop_cons h2
      have hq : (i : Int) < b.length := by omega
      have hi : (0 : Int) ≤ i := by omega
      rw [r03_Orders_L2_eq, r03_Orders_S2]
      simp only [hp, hq, hi, decide_true, if_true, true_and, and_self, Int.toNat_natCast, a2, b2, bne_iff_ne, ne_eq, ite_not, r03_Order_eq]
      by_cases hxy : ordV x y = 0
      · rw [if_pos hxy, wrap_succ a1 ha.len]
        simpa only [ordR, hxy, if_true, stepB_inl] using ih rb (i + 1) a3 b3 (by omega) (by omega)
      · exact ⟨_, by rw [if_neg hxy, stepB_inr], by simp only [ordR, hxy, if_false]⟩
theorem r03_Orders_spec (a b : List Val) (ha : WL .val a) (hb : WL .val b) : r03_Orders_fn a b = some (r03_Orders a b) := by
  obtain ⟨o, ho, e⟩ := r03_Orders_loop a b ha hb _ _ 0 rfl rfl (by omega) (by omega)
  unfold r03_Orders_fn r03_Orders
  rw [show (0 : Int) = ((0 : Nat) : Int) from rfl, ho]
  simp only [List.drop_zero] at e
  rw [← e]
  cases o <;> simp
def F_r03_Orders : FnC Un := fun args => match args with
  | [x0, x1] => (dL .val x0).bind fun a => (dL .val x1).bind fun b => some ([], A_r03_Orders (r03_Orders a b), O_r03_Orders (r03_Orders a b))
  | _ => none
theorem ok_r03_Orders : FnOK 28 F_r03_Orders := by
  intro args ob rs os h hob
  unfold F_r03_Orders at h
  split at h
  · simp only [Option.bind_eq_some_iff, Option.some.injEq, Prod.mk.injEq] at h
    obtain ⟨a, e0, b, e1, rfl, rfl, rfl⟩ := h
    obtain rfl := dL_eq e0
    obtain rfl := dL_eq e1
    exact ⟨fn_contract (M := M_r03_Orders) rfl (tbl_ok (l1 := [(41, F_r03_Order), (42, F_r03_ints)]) (l2 := []) (l3 := []) (l4 := []) (l5 := []) ⟨ok_r03_Order, ok_r03_ints, trivial⟩ trivial trivial trivial trivial) Tryd.func28 (by kernel_rfl) N_r03_Orders 0 [.d] (fun hwf => r03_Orders_run (r03_Orders_spec a b (wfArg hwf (a := .d (.v (.dat (U := Un) Ty.val a))) (List.mem_of_getElem? (i := 0) rfl)) (wfArg hwf (a := .d (.v (.dat (U := Un) Ty.val b))) (List.mem_of_getElem? (i := 1) rfl)))), hasBody_of Tryd.func28 (by kernel_rfl) (by kernel_rfl)⟩
  · simp at h
end
end Go.Proofs.YtcmfdbjdbbpomaaDoor.B
namespace Go.Proofs.YtcmfdbjdbbpomaaDoor.B
open Go Go.RowKit
set_option maxRecDepth 100000
noncomputable section
attribute [local irreducible] awp ctxK itersK iterK retQ retGQ awf ctxF loopF
noncomputable def deq {α : Type} (a b : α) : Bool := @decide (a = b) (Classical.propDecidable _)
theorem deq_iff {α : Type} {a b : α} : deq a b = true ↔ a = b := by unfold deq; exact @decide_eq_true_iff _ (Classical.propDecidable _)
theorem deq_of {α : Type} {a b : α} {x : Bool} (h : x = true ↔ a = b) : x = deq a b := by
  rw [Bool.eq_iff_iff, h, deq_iff]
theorem loop_pre {α β : Type} {L : S Un → Option (EX Un)} {st : Int → S Un} {C : Exit → S Un → Option β} (R : Bool → Option β) {a b : List α} {d : α} {e : Exit} (hl : a.length ≤ 9223372036854775807)
    (step : ∀ i : Nat, i < a.length → i < b.length → L (st i) = if deq (a.getD i d) (b.getD i d) = true then L (st (IntKind.i64.wrap ((i : Int) + 1))) else some (.ret, st i))
    (stop : ∀ i : Nat, ¬ (i < a.length ∧ i < b.length) → L (st i) = some (e, st i)) (cr : ∀ i : Nat, C .ret (st i) = R false) (ce : ∀ i : Nat, C e (st i) = R ((a.length : Int) == (b.length : Int))) : (L (st (0 : Int))).bind (thenX C) = R (deq a b) := by
  have key : ∀ (k i : Nat), i + k = a.length → i ≤ b.length → (L (st i)).bind (thenX C) = R (deq (a.drop i) (b.drop i)) := by
    intro k
    induction k with
    | zero =>
      intro i hi hb
      obtain rfl : i = a.length := by omega
      rw [loop_end (stop _ (by omega)), ce]
      congr 1
      refine deq_of ?_
      rw [List.drop_length, beq_iff_eq]
      constructor
      · intro h; rw [List.drop_eq_nil_of_le (by omega)]
      · intro h
        have := congrArg List.length h
        rw [List.length_drop, List.length_nil] at this; omega
    | succ k ih =>
      intro i hi hb
      have h1 : i < a.length := by omega
      by_cases h2 : i < b.length
      · have ga : a.getD i d = a[i] := by rw [List.getD_eq_getElem?_getD, List.getElem?_eq_getElem h1]; rfl
        have gb : b.getD i d = b[i] := by rw [List.getD_eq_getElem?_getD, List.getElem?_eq_getElem h2]; rfl
        have hs := step i h1 h2
        rw [ga, gb] at hs
        rw [List.drop_eq_getElem_cons h1, List.drop_eq_getElem_cons h2]
        by_cases hq : deq a[i] b[i] = true
        · rw [if_pos hq, wrap_next h1 hl] at hs
          rw [hs, ih (i + 1) (by omega) (by omega)]
          rw [deq_iff] at hq
          congr 1
          refine deq_of ?_
          rw [deq_iff, hq]
          exact ⟨fun h => by rw [h], fun h => (List.cons.inj h).2⟩
        · rw [if_neg hq] at hs
          rw [loop_end hs, cr]
          congr 1
          refine deq_of ?_
          rw [deq_iff] at hq
          exact ⟨fun h => absurd h (by decide), fun h => absurd (List.cons.inj h).1 hq⟩
      · rw [loop_end (stop _ (by omega)), ce]
        congr 1
        refine deq_of ?_
        rw [beq_iff_eq]
        constructor
        · intro h; omega
        · intro h
          have := congrArg List.length h
          rw [List.length_drop, List.length_drop] at this; omega
  exact key a.length 0 (by omega) (by omega)
end
end Go.Proofs.YtcmfdbjdbbpomaaDoor.B
namespace Go.Proofs.YtcmfdbjdbbpomaaDoor.B
open Go Go.RowKit
set_option maxRecDepth 100000
noncomputable section
attribute [local irreducible] awp ctxK itersK iterK retQ retGQ awf ctxF loopF
section
variable {K : Type} [DecidableEq K] (key : Int → K)
def gAt (x : K) (out : List (List Int)) : Nat := out.findIdx fun g => decide (key (g.headD 0) = x)
def gAdd (out : List (List Int)) (k : Nat) (i : Int) : List (List Int) := if k < out.length then out.set k (out.getD k [] ++ [i]) else out ++ [[i]]
def gStep (out : List (List Int)) (i : Nat) : List (List Int) := gAdd out (gAt key (key (i : Int)) out) (i : Int)
structure GI (n : Nat) (out : List (List Int)) : Prop where
  ne : ∀ k, k < out.length → out.getD k [] ≠ []
  mem : ∀ k p, p ∈ out.getD k [] → 0 ≤ p ∧ p < (n : Int) ∧ key p = key ((out.getD k []).headD 0)
  dis : ∀ j k, j < out.length → k < out.length → key ((out.getD j []).headD 0) = key ((out.getD k []).headD 0) → j = k
  all : ∀ p : Int, 0 ≤ p → p < (n : Int) → ∃ k, k < out.length ∧ p ∈ out.getD k []
  inc : ∀ k, (out.getD k []).Pairwise (· < ·)
theorem getD_set' {α : Type} (l : List α) (i j : Nat) (x d : α) (hi : i < l.length) : (l.set i x).getD j d = if j = i then x else l.getD j d := by
  rw [List.getD_eq_getElem?_getD, List.getD_eq_getElem?_getD, List.getElem?_set]
  by_cases h : j = i
  · subst h; rw [if_pos rfl, if_pos hi, if_pos rfl]; rfl
  · rw [if_neg (fun e => h e.symm), if_neg h]
theorem getD_snoc (out : List (List Int)) (g : List Int) (j : Nat) : (out ++ [g]).getD j [] = if j = out.length then g else out.getD j [] := by
  rw [List.getD_eq_getElem?_getD, List.getD_eq_getElem?_getD]
  by_cases h : j = out.length
  · subst h; rw [if_pos rfl, List.getElem?_append_right (Nat.le_refl _), Nat.sub_self]; rfl
  · rw [if_neg h]
    by_cases h2 : j < out.length
    · rw [List.getElem?_append_left h2]
    · rw [List.getElem?_eq_none (by rw [List.length_append, List.length_singleton]; omega), List.getElem?_eq_none (by omega)]
theorem gAt_lt {x : K} {out : List (List Int)} (h : gAt key x out < out.length) : key ((out.getD (gAt key x out) []).headD 0) = x := by
  unfold gAt at h ⊢
  have := List.findIdx_getElem (p := fun g : List Int => decide (key (g.headD 0) = x)) (xs := out) (w := h)
  rw [decide_eq_true_eq] at this
  rw [List.getD_eq_getElem?_getD, List.getElem?_eq_getElem h]
  exact this
theorem gAt_not {x : K} {out : List (List Int)} (h : ¬ gAt key x out < out.length) : ∀ k, k < out.length → key ((out.getD k []).headD 0) ≠ x := by
  intro k hk e
  unfold gAt at h
  have h2 : k < out.findIdx (fun g => decide (key (g.headD 0) = x)) := by omega
  have h3 := List.not_of_lt_findIdx h2
  rw [List.getD_eq_getElem?_getD, List.getElem?_eq_getElem hk] at e
  rw [decide_eq_false (fun e2 => ?_)] at h3 <;> skip
  all_goals simp_all
theorem GI.nil : GI key 0 [] := (fun (_ : DecidableEq K) => ⟨fun k h => by simp at h, fun k p h => by simp at h, fun j k h => by simp at h, fun p h0 h1 => by omega, fun k => by simp⟩) inferInstance
theorem GI.step {n : Nat} {out : List (List Int)} (h : GI key n out) : GI key (n + 1) (gStep key out n) := by
  unfold gStep gAdd
  by_cases hl : gAt key (key (n : Int)) out < out.length
  · rw [if_pos hl]
    have hx := gAt_lt key hl
    obtain ⟨g, hg⟩ : ∃ g, g = gAt key (key (n : Int)) out := ⟨_, rfl⟩
    rw [← hg] at hl hx ⊢
    have hne := h.ne g hl
    have hd : (out.getD g [] ++ [(n : Int)]).headD 0 = (out.getD g []).headD 0 := by
      cases hc : out.getD g [] with
      | nil => exact (hne hc).elim
      | cons a l => rfl
    have hget : ∀ j, (out.set g (out.getD g [] ++ [(n : Int)])).getD j [] = if j = g then out.getD g [] ++ [(n : Int)] else out.getD j [] := fun j => getD_set' _ _ _ _ _ hl
    have hhd : ∀ j, ((out.set g (out.getD g [] ++ [(n : Int)])).getD j []).headD 0 = (out.getD j []).headD 0 := fun j => by
      rw [hget]
      by_cases e : j = g
      · rw [if_pos e, hd, e]
      · rw [if_neg e]
    refine ⟨fun k hk => ?_, fun k p hp => ?_, fun j k hj hk e => ?_, fun p h0 h1 => ?_, fun k => ?_⟩
    · rw [List.length_set] at hk
      rw [hget]
      split
      · simp
      · exact h.ne k hk
    · rw [hhd]
      rw [hget] at hp
      split at hp
      · rename_i e
        rw [e]
        rcases List.mem_append.1 hp with hp | hp
        · obtain ⟨a, b, c⟩ := h.mem g p hp; exact ⟨a, by omega, c⟩
        · rw [List.mem_singleton] at hp; subst hp; exact ⟨by omega, by omega, hx.symm⟩
      · obtain ⟨a, b, c⟩ := h.mem k p hp; exact ⟨a, by omega, c⟩
    · rw [List.length_set] at hj hk
      rw [hhd, hhd] at e
      exact h.dis j k hj hk e
    · by_cases e : p = (n : Int)
      · exact ⟨g, by rw [List.length_set]; exact hl, by rw [hget, if_pos rfl, e]; simp⟩
      · obtain ⟨k, hk, hm⟩ := h.all p h0 (by omega)
        refine ⟨k, by rw [List.length_set]; exact hk, ?_⟩
        rw [hget]
        split
        · rename_i e2; subst e2; exact List.mem_append_left _ hm
        · exact hm
    · rw [hget]
      split
      · refine List.pairwise_append.2 ⟨h.inc g, by simp, fun a ha b hb => ?_⟩
        rw [List.mem_singleton] at hb
        have := (h.mem g a ha).2.1
        omega
      · exact h.inc k
  · rw [if_neg hl]
    have hno := gAt_not key hl
    refine ⟨fun k hk => ?_, fun k p hp => ?_, fun j k hj hk e => ?_, fun p h0 h1 => ?_, fun k => ?_⟩
    · rw [List.length_append, List.length_singleton] at hk
      rw [getD_snoc]
      split
      · simp
      · exact h.ne k (by omega)
    · rw [getD_snoc] at hp ⊢
      split at hp
      · rename_i e
        rw [if_pos e]
        rw [List.mem_singleton] at hp; subst hp
        exact ⟨by omega, by omega, rfl⟩
      · rename_i e
        rw [if_neg e]
        obtain ⟨a, b, c⟩ := h.mem k p hp; exact ⟨a, by omega, c⟩
    · rw [List.length_append, List.length_singleton] at hj hk
      rw [getD_snoc, getD_snoc] at e
      by_cases ej : j = out.length
      · by_cases ek : k = out.length
        · omega
        · rw [if_pos ej, if_neg ek] at e
          exact (hno k (by omega) e.symm).elim
      · by_cases ek : k = out.length
        · rw [if_neg ej, if_pos ek] at e
          exact (hno j (by omega) e).elim
        · rw [if_neg ej, if_neg ek] at e
          exact h.dis j k (by omega) (by omega) e
    · by_cases e : p = (n : Int)
      · exact ⟨out.length, by simp, by rw [getD_snoc, if_pos rfl, e]; simp⟩
      · obtain ⟨k, hk, hm⟩ := h.all p h0 (by omega)
        exact ⟨k, by simp; omega, by rw [getD_snoc, if_neg (by omega)]; exact hm⟩
    · rw [getD_snoc]
      split
      · simp
      · exact h.inc k
theorem pw_len : ∀ (l : List Int) (n : Nat), l.Pairwise (· < ·) → (∀ p ∈ l, 0 ≤ p ∧ p < (n : Int)) → l.length ≤ n := by
  intro l n
  induction n generalizing l with
  | zero =>
    intro _ h
    cases l with
    | nil => simp
    | cons a r => have := h a List.mem_cons_self; omega
  | succ n ih =>
    intro hp h
    rcases List.eq_nil_or_concat l with rfl | ⟨r, a, rfl⟩
    · simp
    · rw [List.concat_eq_append] at hp h ⊢
      obtain ⟨h1, _, h3⟩ := List.pairwise_append.1 hp
      have ha := h a (by simp)
      have := ih r h1 fun p hp => by
        have q1 := h p (by simp [hp])
        have q2 := h3 p hp a (by simp)
        omega
      simp; omega
theorem GI.len {n : Nat} {out : List (List Int)} (h : GI key n out) (k : Nat) : (out.getD k []).length ≤ n :=
  (fun (_ : DecidableEq K) => pw_len _ n (h.inc k) fun p hp => by obtain ⟨a, b, _⟩ := h.mem k p hp; exact ⟨a, b⟩) inferInstance
end
noncomputable instance valsDec : DecidableEq (List Val) := fun a b => Classical.propDecidable (a = b)
end
end Go.Proofs.YtcmfdbjdbbpomaaDoor.B
namespace Go.Proofs.YtcmfdbjdbbpomaaDoor.B
open Go Go.RowKit
set_option maxRecDepth 1000000
theorem contract_scalar {f : FuncId} {args : List (D Un)} {v : Value} (hv : oneC v = true)
    (h : ∀ (w : World) (vs : List Value), (∀ St, All2 (DRel Tryd.prog En St w) vs args → Calls Tryd.prog f vs.toArray w fun e w' => e = .returned v ∧ w' = w)) : Contract Tryd.prog En f args [.c (.s v)] [] := by
  intro w St vs hbd hvs hld
  refine (h w vs St hvs).mono ?_
  rintro e w' ⟨rfl, rfl⟩
  let gg : G := { β := fun _ => 0, lb := fun _ => False, ω := fun _ _ => none, tk := fun _ => (none, 0) }
  exact ⟨_, rfl, Ext.refl _, gg, fun _ h => h, fun b o x _ h => by simp [gg] at h, fun b o x h => by simp [gg] at h, ⟨rfl, hv⟩, fun k o h => by simp at h⟩
theorem drel_str {St : Nat → Nat → Prop} {w : World} {v : Value} {s : ByteArray} (h : DRel Tryd.prog En St w v (.d (.v (cs s)))) : v = .string s ∧ s.size ≤ 9223372036854775807 := by
  have h' : VRel En St w v (.s (.string s)) := h
  cases h' with | s _ h => exact ⟨rfl, oneC_str.1 h⟩
end Go.Proofs.YtcmfdbjdbbpomaaDoor.B
namespace Go.Proofs.YtcmfdbjdbbpomaaDoor.B
open Go Go.RowKit
set_option maxRecDepth 1000000
theorem compareString_any (a b : ByteArray) (w : World) :
    Calls Tryd.prog 57 #[.string a, .string b] w fun e w' => e = .returned (.int .i64 (Lib.compareBytes a.data.toList b.data.toList)) ∧ w' = w := by
  have mixed : Tryd.prog.follows .mixedOrders = true := by kernel_rfl
  go_enter Tryd.func57, Tryd.ntmps57
  go_wp2
  rw [run_callFunc_extern Tryd.func74 (by kernel_rfl) (by kernel_rfl) (by kernel_rfl) (e := Extern.BytealgCompare.compare) (by kernel_rfl), Lib.run_compareString]
  simp only [Result.andThen]
  rw [Oper.upon_value]
  go_wp2
  go_ret
  exact ⟨rfl, rfl⟩
theorem compareBytes_eq : ∀ (a b : List UInt8), Lib.compareBytes a b = cmpL a b
  | [], [] => rfl
  | [], _ :: _ => rfl
  | _ :: _, [] => rfl
  | x :: a, y :: b => by
    have hlt : ∀ p q : UInt8, (p < q) = ((p.toNat : Int) < q.toNat) := fun p q => by simp [UInt8.lt_iff_toNat_lt]
    simp only [Lib.compareBytes, cmpL, cmpI, hlt]
    by_cases h : x = y
    · subst h; simp [compareBytes_eq a b]
    · have hne : x.toNat ≠ y.toNat := fun e => h (UInt8.toNat_inj.1 e)
      rw [if_neg h]
      by_cases h1 : (x.toNat : Int) < y.toNat
      · rw [if_pos h1, if_pos h1]
      · rw [if_neg h1, if_neg h1, if_pos (by omega), if_pos (by omega)]
theorem cmpL_range : ∀ (a b : List UInt8), -1 ≤ cmpL a b ∧ cmpL a b ≤ 1
  | [], [] => by simp [cmpL]
  | [], _ :: _ => by simp [cmpL]
  | _ :: _, [] => by simp [cmpL]
  | x :: a, y :: b => by
    simp only [cmpL, cmpI]
    have := cmpL_range a b
    repeat' split
    all_goals omega
def F_internal_bytealg_CompareString : FnC Un := fun args => match args with
  | [x0, x1] => (dStr x0).bind fun a => (dStr x1).bind fun b => some ([], [.c (.s (.int .i64 (cmpS a b)))], [])
  | _ => none
theorem ok_internal_bytealg_CompareString : FnOK 57 F_internal_bytealg_CompareString := by
  intro args ob rs os h hob
  unfold F_internal_bytealg_CompareString at h
  split at h
  · rename_i x0 x1
    simp only [Option.bind_eq_some_iff, Option.some.injEq, Prod.mk.injEq] at h
    obtain ⟨s, e0, t, e1, rfl, rfl, rfl⟩ := h
    obtain rfl := dStr_eq e0
    obtain rfl := dStr_eq e1
    refine ⟨?_, hasBody_of Tryd.func57 (by kernel_rfl) (by kernel_rfl)⟩
    have hr := cmpL_range s.toList t.toList
    refine contract_scalar (oneC_i64.2 (by unfold cmpS; omega)) fun w vs St hvs => ?_
    match vs, hvs with
    | [v0, v1], ⟨h0, h1, _⟩ =>
      obtain ⟨rfl, -⟩ := drel_str h0
      obtain ⟨rfl, -⟩ := drel_str h1
      refine (compareString_any s t w).mono ?_
      rintro e w' ⟨rfl, rfl⟩
      refine ⟨?_, rfl⟩
      rw [compareBytes_eq]; unfold cmpS
      rw [ByteArray.toList_eq, ByteArray.toList_eq]
  · simp at h
end Go.Proofs.YtcmfdbjdbbpomaaDoor.B
