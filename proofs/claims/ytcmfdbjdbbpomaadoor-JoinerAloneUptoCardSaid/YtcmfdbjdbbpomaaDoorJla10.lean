/- Part 10 of the proof: BLib LawBase BLaw0. -/
import Derived.JoinedCond
import Derived.OpenShut
import Derived.ChangeArms
import Derived.ChangeShapes
import Derived.Test.YtcmfdbjdbbpomaaDoorRows
import Derived.Test.YtcmfdbjdbbpomaaDoorJla9
namespace Go.Proofs.YtcmfdbjdbbpomaaDoor.B
open Go Go.RowKit
def FnOK (f : FuncId) (F : FnC Un) : Prop := ∀ args ob rs os, F args = some (ob, rs, os) → (∀ p ∈ ob, p) → Contract Tryd.prog En f args rs os ∧ HasBody Tryd.prog f
def FvOK (f : FuncId) (φ : FV Un) : Prop := HasBody Tryd.prog f ∧ ∀ args ob rs, φ args = some (ob, rs) → (∀ p ∈ ob, p) → Contract0 Tryd.prog En f (args.map .d) ob rs
def ClOK (f : FuncId) (F : List (List (DC Un)) → Option (FV Un)) : Prop := HasBody Tryd.prog f ∧ ∀ dl φ args ob rs, F dl = some φ → φ args = some (ob, rs) → (∀ p ∈ ob, p) → Contract0 Tryd.prog En f (args.map .d ++ dl.map .box) ob rs
def GnOK (f : FuncId) (F : List Bool × FnG Un) : Prop := ∀ args bxs obs ob rs bxs' obs', F.2 args bxs obs = some (ob, rs, bxs', obs') → (∀ p ∈ ob, p) → GContract Tryd.prog En f args bxs obs rs bxs' obs' ∧ HasBody Tryd.prog f
def UpOK (f : FuncId) (F : FnU Un) : Prop := ∀ τ xs ds ob ys, F τ xs ds = some (ob, ys) → (∀ p ∈ ob, p) → UContract Tryd.prog En f τ xs ds ys ∧ HasBody Tryd.prog f
def AllL {α : Type} (R : Nat → α → Prop) : List (Nat × α) → Prop
  | [] => True
  | p :: r => R p.1 p.2 ∧ AllL R r
def tbl {α : Type} (l : List (Nat × α)) (f : Nat) : Option α := look f l
theorem AllL.look {α : Type} {R : Nat → α → Prop} {f : Nat} {x : α} : ∀ {l : List (Nat × α)}, AllL R l → tbl l f = some x → R f x
  | [], _, h => by simp [tbl, B.look] at h
  | (k, y) :: r, hl, h => by
    simp only [tbl, B.look] at h
    split at h
    · rename_i hb
      have := Nat.eq_of_beq_eq_true hb
      simp at h; subst this; subst h; exact hl.1
    · exact AllL.look hl.2 h
theorem tbl_ok {l1 : List (Nat × FnC Un)} {l2 : List (Nat × FV Un)} {l3 : List (Nat × (List (List (DC Un)) → Option (FV Un)))} {l4 : List (Nat × (List Bool × FnG Un))} {l5 : List (Nat × FnU Un)}
    (h1 : AllL FnOK l1) (h2 : AllL FvOK l2) (h3 : AllL ClOK l3) (h4 : AllL GnOK l4) (h5 : AllL UpOK l5) : FnsOK Tryd.prog (mach (tbl l1) (tbl l2) (tbl l3) (tbl l4) (tbl l5)) where
  ups := fun f F τ xs ds ob ys hf hF hob => h5.look hf τ xs ds ob ys hF hob
  gns := fun f ms F args bxs obs ob rs bxs' obs' hf hF hob => h4.look hf args bxs obs ob rs bxs' obs' hF hob
  fns := fun f F args ob rs os hf hF hob => h1.look hf args ob rs os hF hob
  fvb := fun f φ hf => (h2.look hf).1
  fvs := fun f φ args ob rs hf hF hob => (h2.look hf).2 args ob rs hF hob
  clb := fun f F hf => (h3.look hf).1
  clo := fun f F dl φ args ob rs hf hF hφ hob => (h3.look hf).2 dl φ args ob rs hF hφ hob
theorem hasBody_of {f : FuncId} {fn : Func} (hf : Tryd.prog.funcs[f]? = some fn) (hb : fn.body = some (bodyOf fn)) (hn : (fn.name == "runtime.NumGoroutine") = false) : HasBody Tryd.prog f := ⟨fn, _, hf, hb, hn⟩
structure Runs (p : Prop) : Prop where
  out : p
theorem fn_contract {M : Mc Un} {fns : FuncId → Option (FnC Un)} {fvs : FuncId → Option (FV Un)} {clo : FuncId → Option (List (List (DC Un)) → Option (FV Un))} {gns : FuncId → Option (List Bool × FnG Un)} {ups : FuncId → Option (FnU Un)} (hM : M = mach fns fvs clo gns ups) (hF : FnsOK Tryd.prog (mach fns fvs clo gns ups))
    {f : FuncId} {fn : Func} (hf : Tryd.prog.funcs[f]? = some fn) (hb : fn.body = some (bodyOf fn)) (N : Nat → NS) (x : Nat) (fm : List Kind) {args : List (D Un)} {rs : List (A Un)} {os : List (Ob Un)}
    (h : (∀ a ∈ args, DWf En a) → Runs (awp M N (bodyOf fn) (entry fn.ntmps x args) (retQ M fn.results.toList fm fun rs' os' => rs' = rs ∧ os' = os))) : Contract Tryd.prog En f args rs os := by
  subst hM
  exact contract_of (M := mach fns fvs clo gns ups) (tabOK fns fvs clo gns ups) hF mixed hf hb N x fm fun ha => (h ha).out
def dI (k : IntKind) : D Un → Option Int
  | .d (.v (.s (.int k' n))) => match decEq k' k with | .isTrue _ => some n | .isFalse _ => none
  | _ => none
def dStr : D Un → Option ByteArray
  | .d (.v (.s (.string b))) => some b
  | _ => none
def dL (τ : Ty) : D Un → Option (List (Den τ))
  | .d (.v (.dat τ' xs)) => match instDecidableEqTy τ' τ with | .isTrue h => some (h ▸ xs) | .isFalse _ => none
  | _ => none
def dS (τ : Ty) : D Un → Option (Den τ)
  | .d (.agg vs) => dec τ vs
  | _ => none
def dF : D Un → Option (FV Un)
  | .fn φ => some φ
  | _ => none
def fvo_S_val_to_b (o : Val → Prop) (p : Val → Bool) : FV Un := fun args => match args with
  | [x0] => (dS .val (.d x0)).bind fun a0 => some ([o a0], [.v (cb (p a0))])
  | _ => none
def po_S_val_to_b (φ : FV Un) : Val → Prop := fun a0 => match φ [.agg (enc Ty.val a0)] with
  | some ([q], _) => q
  | _ => False
def pf_S_val_to_b (φ : FV Un) : Val → Bool := fun a0 => match φ [.agg (enc Ty.val a0)] with
  | some (_, [.v (.s (.bool b))]) => b
  | _ => false
def fv_S_val_S_val_to_i_i64 (p : Val → Val → Int) : FV Un := fun args => match args with
  | [x0, x1] => (dS .val (.d x0)).bind fun a0 => (dS .val (.d x1)).bind fun a1 => some ([], [.v (.s (.int .i64 (p a0 a1)))])
  | _ => none
def pf_S_val_S_val_to_i_i64 (φ : FV Un) : Val → Val → Int := fun a0 a1 => match φ [.agg (enc Ty.val a0), .agg (enc Ty.val a1)] with
  | some (_, [.v (.s (.int _ b))]) => b
  | _ => 0
theorem dI_eq {k : IntKind} {a : D Un} {n : Int} (h : dI k a = some n) : a = .d (.v (.s (.int k n))) := by
  unfold dI at h; split at h
  · split at h
    · rename_i hh _; subst hh; simp at h; subst h; rfl
    · simp at h
  · simp at h
theorem dStr_eq {a : D Un} {n : ByteArray} (h : dStr a = some n) : a = .d (.v (cs n)) := by
  unfold dStr at h; split at h
  · simp at h; subst h; rfl
  · simp at h
theorem dL_eq {τ : Ty} {a : D Un} {l : List (Den τ)} (h : dL τ a = some l) : a = .d (.v (.dat (U := Un) τ l)) := by
  unfold dL at h; split at h
  · split at h
    · rename_i hh _; subst hh; simp at h; subst h; rfl
    · simp at h
  · simp at h
theorem dS_eq {τ : Ty} {a : D Un} {x : Den τ} (h : dS τ a = some x) : a = .d (.agg (enc τ x)) := by
  unfold dS at h; split at h
  · rw [enc_back _ _ _ h]
  · simp at h
theorem dF_eq {a : D Un} {φ : FV Un} (h : dF a = some φ) : a = .fn φ := by
  unfold dF at h; split at h
  · simp at h; subst h; rfl
  · simp at h
theorem dI_mk (k : IntKind) (n : Int) : dI k (.d (.v (.s (.int k n)))) = some n := by
  unfold dI; dsimp only; split
  · rfl
  · rename_i h _; exact absurd rfl h
theorem dL_mk (τ : Ty) (l : List (Den τ)) : dL τ (.d (.v (.dat (U := Un) τ l))) = some l := by
  unfold dL; dsimp only; split
  · rfl
  · rename_i h _; exact absurd rfl h
theorem dec_enc : ∀ (τ : Ty) (x : Den τ), dec τ (enc τ x) = some x := by
  intro τ x
  cases τ <;> first | rfl | (cases x; rfl)
theorem dSk_mk (τ : Ty) (x : Den τ) : dS τ (.d (.agg (enc τ x))) = some x := dec_enc τ x
theorem pfv_S_val_S_val_to_i_i64 (p : Val → Val → Int) : pf_S_val_S_val_to_i_i64 (fv_S_val_S_val_to_i_i64 p) = p := by
  funext a0 a1
  unfold pf_S_val_S_val_to_i_i64 fv_S_val_S_val_to_i_i64
  simp only [dSk_mk, Option.bind_some] <;> rfl
theorem pffvo_S_val_to_b (o : Val → Prop) (p : Val → Bool) : pf_S_val_to_b (fvo_S_val_to_b o p) = p := by
  funext a0
  unfold pf_S_val_to_b fvo_S_val_to_b
  simp only [dSk_mk, Option.bind_some] <;> rfl
theorem pofvo_S_val_to_b (o : Val → Prop) (p : Val → Bool) : po_S_val_to_b (fvo_S_val_to_b o p) = o := by
  funext a0
  unfold po_S_val_to_b fvo_S_val_to_b
  simp only [dSk_mk, Option.bind_some] <;> rfl
class WArg (a : D Un) (P : outParam Prop) : Prop where
  of : DWf En a → P
instance {k : IntKind} {n : Int} : WArg (.d (.v (.s (.int k n)))) (WK k n) := ⟨fun h => by cases h with | s _ h => exact of_decide_eq_true h⟩
instance {s : ByteArray} : WArg (.d (.v (cs s))) (WStr s) := ⟨fun h => (vwf_cs s).1 h⟩
instance {τ : Ty} {l : List (Den τ)} : WArg (.d (.v (.dat (U := Un) τ l))) (WL τ l) := ⟨fun h => h⟩
instance {τ : Ty} {x : Den τ} : WArg (.d (.agg (enc τ x))) (WS τ x) := ⟨fun h => h⟩
theorem wfArg {args : List (D Un)} (h : ∀ a ∈ args, DWf En a) {a : D Un} {P : Prop} [w : WArg a P] (ha : a ∈ args) : P := w.of (h a ha)
noncomputable instance : DecidableEq (FV Un) := fun _ _ => Classical.propDecidable _
def bL (τ : Ty) : List (DC Un) → Option (List (Den τ))
  | [.v (.dat τ' xs)] => match instDecidableEqTy τ' τ with | .isTrue h => some (h ▸ xs) | .isFalse _ => none
  | _ => none
theorem bL_eq {τ : Ty} {a : List (DC Un)} {l : List (Den τ)} (h : bL τ a = some l) : a = [.v (.dat (U := Un) τ l)] := by
  unfold bL at h; split at h
  · split at h
    · rename_i hh _; subst hh; simp at h; subst h; rfl
    · simp at h
  · simp at h
instance {k : IntKind} {n : Int} : WArg (.box [.v (.s (.int k n))]) (WK k n) := ⟨fun h => by cases h _ (by simp : DC.v (.s (.int k n)) ∈ _) with | s _ h => exact of_decide_eq_true h⟩
instance {s : ByteArray} : WArg (.box [.v (cs s)]) (WStr s) := ⟨fun h => (vwf_cs s).1 (h _ (by simp : DC.v (cs s) ∈ _))⟩
instance {τ : Ty} {l : List (Den τ)} : WArg (.box [.v (.dat (U := Un) τ l)]) (WL τ l) := ⟨fun h => h _ (by simp : DC.v (V.dat (U := Un) τ l) ∈ _)⟩
instance {τ : Ty} {x : Den τ} : WArg (.box ((enc τ x).map .v)) (WS τ x) := ⟨fun h d hd => h _ (List.mem_map_of_mem hd : DC.v d ∈ _)⟩
class WArgA (a : A Un) (P : outParam Prop) : Prop where
  of : AWf En a → P
instance {k : IntKind} {n : Int} : WArgA (.c (.s (.int k n))) (WK k n) := ⟨fun h => of_decide_eq_true h⟩
instance {s : ByteArray} : WArgA (.c (.s (.string s))) (WStr s) := ⟨fun h => of_decide_eq_true h⟩
instance {τ : Ty} {l : List (Den τ)} {f : Bool} : WArgA (.c (.sl (U := Un) τ l f)) (WL τ l) := ⟨fun h => h⟩
instance {τ : Ty} {x : Den τ} : WArgA (.agg (encC τ x)) (WS τ x) := ⟨fun h d hd => by
  have := h (C.ofV d) (List.mem_map_of_mem hd)
  cases d with
  | s y => exact .s _ this
  | dat τ' xs => exact this⟩
def frz (fr : Option Nat) (n : Nat) : Nat := match fr with | none => n | some j => j
theorem All2.weak {g : G} {ob : List (Option (Ob Un))} {w : World} : ∀ {vs : List Value} {cs : List (C Un)}, All2 (CRel Tryd.prog En g ob w) vs cs → All2 (CRel Tryd.prog En g ob w) vs (cs.map C.weak)
  | [], [], _ => trivial
  | v :: vs, c :: cs, h => ⟨by
      have h0 := h.1
      cases c with
      | sl τ xs f => exact ⟨h0.1, fun hf => by simp at hf⟩
      | _ => exact h0, All2.weak h.2⟩
theorem GContract.weak {f : FuncId} {args rs : List (A Un)} {bs bs' : List (Bool × List (C Un))} {os os' : List (Ob Un)} (h : GContract Tryd.prog En f args (bs.map fun b => (b.1, b.2.map C.weak)) os rs bs' os') : GContract Tryd.prog En f args bs os rs bs' os' := by
  intro w g vs hp hvs
  refine h w g vs ⟨fun k fz cells hk => ?_, fun k hk => by simpa using hp.lbs k hk, hp.obs, hp.own, hp.laid, hp.nlb⟩ hvs
  rw [List.getElem?_map] at hk
  cases hb : bs[k]? with
  | none => rw [hb] at hk; simp at hk
  | some b =>
    rw [hb] at hk; simp at hk; obtain ⟨rfl, rfl⟩ := hk
    obtain ⟨h1, us, h2, h3⟩ := hp.bxs k b.1 b.2 hb
    exact ⟨h1, us, h2.weak, h3⟩
theorem itersK_mk {U : Uni} {n : NS} {body : S U → (Exit → S U → Prop) → Prop} {Q : Exit → S U → Prop} {s : S U} (k : Nat) (h : iterK n body Q k s) : itersK n body Q s := ⟨k, h⟩
theorem itersK_get {U : Uni} {n : NS} {body : S U → (Exit → S U → Prop) → Prop} {Q : Exit → S U → Prop} {s : S U} (h : itersK n body Q s) : ∃ k, iterK n body Q k s := h
theorem mpr {a b : Prop} (h : a = b) (x : b) : a := h ▸ x
theorem ite_some {α : Type} {c : Prop} [Decidable c] {x y : Option α} {r : α} (h : (if c then x else y) = some r) : (c ∧ x = some r) ∨ (¬ c ∧ y = some r) := by
  split at h
  · exact .inl ⟨by assumption, h⟩
  · exact .inr ⟨by assumption, h⟩
theorem ob_some {α : Type} {c : Prop} [Decidable c] {x : Option α} {r : α} (h : (if c then x else none) = some r) : c ∧ x = some r := by
  split at h
  · exact ⟨by assumption, h⟩
  · simp at h
theorem bind_some {α β : Type} {x : Option α} {f : α → Option β} {r : β} (h : (x >>= f) = some r) : ∃ o, x = some o ∧ f o = some r := by
  cases x with
  | none => simp at h
  | some o => exact ⟨o, rfl, h⟩
theorem bfalse {b : Bool} (h : ¬ b = true) : b = false := by cases b <;> simp_all
theorem cnd_t {b : Bool} {X Y : Prop} (h : b = true) (x : X) : cnd b X Y := by subst h; exact x
theorem cnd_f {b : Bool} {X Y : Prop} (h : b = false) (y : Y) : cnd b X Y := by subst h; exact y
theorem wrap_id {n : Int} (h : -9223372036854775808 ≤ n ∧ n ≤ 9223372036854775807) : IntKind.i64.wrap n = n := IntWalk.i64_in n h
theorem wrap_succ {i n : Nat} (h : i < n) (hn : n ≤ 9223372036854775807) : IntKind.i64.wrap ((i : Int) + 1) = ((i + 1 : Nat) : Int) := by
  rw [wrap_id (by omega)]; omega
theorem drop_nil {α : Type} {l : List α} {i : Nat} (h : l.drop i = []) : l.length ≤ i := List.drop_eq_nil_iff.1 h
theorem drop_cons {α : Type} {l r : List α} {x : α} {i : Nat} (h : l.drop i = x :: r) : i < l.length ∧ (∀ d, l.getD i d = x) ∧ l.drop (i + 1) = r ∧ x ∈ l := by
  have hi : i < l.length := by
    rcases Nat.lt_or_ge i l.length with h1 | h1
    · exact h1
    · rw [List.drop_of_length_le h1] at h; simp at h
  rw [List.drop_eq_getElem_cons hi] at h
  simp only [List.cons.injEq] at h
  obtain ⟨rfl, rfl⟩ := h
  exact ⟨hi, fun d => by rw [List.getD_eq_getElem?_getD, List.getElem?_eq_getElem hi]; rfl, rfl, List.getElem_mem hi⟩
def iterS {V R : Type} (step : V → Option (V ⊕ R)) : Nat → V → Option R
  | 0, _ => none
  | n + 1, v => match step v with
    | none => none
    | some (.inl v') => iterS step n v'
    | some (.inr r) => some r
open Classical in
noncomputable def loopO {V R : Type} (step : V → Option (V ⊕ R)) (v : V) : Option R :=
  if h : ∃ n r, iterS step n v = some r then some (Classical.choose (Classical.choose_spec h)) else none
theorem iterS_more {V R : Type} {step : V → Option (V ⊕ R)} : ∀ {n : Nat} {v : V} {r : R}, iterS step n v = some r → ∀ m, n ≤ m → iterS step m v = some r
  | 0, v, r, h, _, _ => by simp [iterS] at h
  | n + 1, v, r, h, m, hm => by
    obtain ⟨m', rfl⟩ : ∃ m', m = m' + 1 := ⟨m - 1, by omega⟩
    simp only [iterS] at h ⊢
    cases hs : step v with
    | none => rw [hs] at h; simp at h
    | some o =>
      rw [hs] at h
      cases o with
      | inl v' => exact iterS_more (n := n) h m' (by omega)
      | inr r' => exact h
theorem loopO_iff {V R : Type} {step : V → Option (V ⊕ R)} {v : V} {r : R} : loopO step v = some r ↔ ∃ n, iterS step n v = some r := by
  constructor
  · intro h
    unfold loopO at h
    split at h
    · rename_i hh
      have := Classical.choose_spec (Classical.choose_spec hh)
      simp only [Option.some.injEq] at h
      rw [h] at this
      exact ⟨_, this⟩
    · simp at h
  · rintro ⟨n, hn⟩
    have hh : ∃ n r, iterS step n v = some r := ⟨n, r, hn⟩
    unfold loopO
    rw [dif_pos hh]
    have h1 := Classical.choose_spec (Classical.choose_spec hh)
    have h2 := iterS_more h1 (max (Classical.choose hh) n) (Nat.le_max_left _ _)
    have h3 := iterS_more hn (max (Classical.choose hh) n) (Nat.le_max_right _ _)
    rw [h2] at h3
    exact h3
def stepB {V R : Type} (f : V → Option R) : Option (V ⊕ R) → Option R
  | none => none
  | some (.inl v) => f v
  | some (.inr r) => some r
@[simp] theorem stepB_none {V R : Type} (f : V → Option R) : stepB f (none : Option (V ⊕ R)) = none := rfl
@[simp] theorem stepB_inl {V R : Type} (f : V → Option R) (v : V) : stepB f (some (.inl v) : Option (V ⊕ R)) = f v := rfl
@[simp] theorem stepB_inr {V R : Type} (f : V → Option R) (r : R) : stepB f (some (.inr r) : Option (V ⊕ R)) = some r := rfl
theorem loopO_eq {V R : Type} (step : V → Option (V ⊕ R)) (v : V) : loopO step v = stepB (loopO step) (step v) := by
  have key : ∀ r, loopO step v = some r ↔ stepB (loopO step) (step v) = some r := by
    intro r
    rw [loopO_iff]
    cases hs : step v with
    | none =>
      refine ⟨fun ⟨n, hn⟩ => ?_, fun h => by simp at h⟩
      cases n with
      | zero => simp [iterS] at hn
      | succ n => simp [iterS, hs] at hn
    | some o =>
      cases o with
      | inl v' =>
        rw [stepB_inl, loopO_iff]
        refine ⟨fun ⟨n, hn⟩ => ?_, fun ⟨n, hn⟩ => ⟨n + 1, by simp only [iterS, hs]; exact hn⟩⟩
        cases n with
        | zero => simp [iterS] at hn
        | succ n => exact ⟨n, by simpa only [iterS, hs] using hn⟩
      | inr r' =>
        rw [stepB_inr]
        refine ⟨fun ⟨n, hn⟩ => ?_, fun h => ⟨1, by simp only [iterS, hs]; exact h⟩⟩
        cases n with
        | zero => simp [iterS] at hn
        | succ n => simpa only [iterS, hs] using hn
  cases h : loopO step v with
  | some r => exact ((key r).1 h).symm
  | none =>
    cases h2 : stepB (loopO step) (step v) with
    | none => rfl
    | some r => rw [(key r).2 h2] at h; simp at h
theorem loop_run {V R : Type} {step : V → Option (V ⊕ R)} {I : V → Prop} {J : R → Prop} (hstep : ∀ v o, step v = some o → (match o with | .inl v' => I v' | .inr r => J r) → I v) {v : V} {r : R} (h : loopO step v = some r) (hJ : J r) : I v := by
  obtain ⟨n, hn⟩ := loopO_iff.1 h
  clear h
  induction n generalizing v with
  | zero => simp [iterS] at hn
  | succ n ih =>
    simp only [iterS] at hn
    cases hs : step v with
    | none => rw [hs] at hn; simp at hn
    | some o =>
      rw [hs] at hn
      cases o with
      | inl v' => exact hstep v _ hs (ih hn)
      | inr r' => simp at hn; subst hn; exact hstep v _ hs hJ
end Go.Proofs.YtcmfdbjdbbpomaaDoor.B
namespace Go.Proofs.YtcmfdbjdbbpomaaDoor
open Go.RowKit Go.ChangeShapes
theorem trodAll_ext {H : Type} {enc : TypeId × Value → H} {P : Program} (hl : laidOutB P = true) {W W' : World} (hb : Ext W W') :
    ∀ {ts : List TypeId} {vs : List Value} {ds : List (DataW H)} {ps : List MemPlace}, (∀ t ∈ ts, P.readableRec t = true ∧ t < P.types.size) →
      DataW.TrodAll enc P W 0 (fun _ => true) true ts vs ds ps → (∀ x ∈ ps, x.block < W.heap.size) →
      DataW.TrodAll enc P W' 0 (fun b => decide (b < W.heap.size)) true ts vs ds ps := by
  intro ts
  induction ts with
  | nil =>
    intro vs ds ps _ h _
    cases vs <;> cases ds <;> first | exact h | exact h.elim
  | cons t ts ih =>
    intro vs ds ps hr h hlt
    cases vs with
    | nil => cases ds <;> exact h.elim
    | cons v vs =>
      cases ds with
      | nil => exact h.elim
      | cons d ds =>
        obtain ⟨p, q, hd, hrest, rfl⟩ := h
        have h0 := hr t (by simp)
        refine ⟨p, q, Below.trod hl h0.1 h0.2 hd hb (fun x hx => hlt x (by simp [hx])), ih (fun t ht => hr t (by simp [ht])) hrest (fun x hx => hlt x (by simp [hx])), rfl⟩
theorem trodAll_length {H : Type} {enc : TypeId × Value → H} {P : Program} {W : World} {b : Nat} {sp : Nat → Bool} {hd : Bool} :
    ∀ {ts : List TypeId} {vs : List Value} {ds : List (DataW H)} {ps : List MemPlace}, DataW.TrodAll enc P W b sp hd ts vs ds ps → ds.length = ts.length ∧ vs.length = ts.length := by
  intro ts
  induction ts with
  | nil => intro vs ds ps h; cases vs <;> cases ds <;> first | exact h.elim | simp
  | cons t ts ih =>
    intro vs ds ps h
    cases vs with
    | nil => cases ds <;> exact h.elim
    | cons v vs =>
      cases ds with
      | nil => exact h.elim
      | cons d ds => obtain ⟨p, q, _, hrest, _⟩ := h; have := ih hrest; simp [this]
theorem law_post {H : Type} {enc : TypeId × Value → H} {P : Program} {f : Func} {s : ChangeSpec} {tb : TypeId} {W W' : World} {args : Array Value} {ds gs : List (DataW H)} {before : List MemPlace}
    (hl : laidOutB P = true) (hr : f.params.toList.all (fun t => P.readableRec t && decide (t < P.types.size)) = true)
    (hres : f.resultTypes = #[tb]) (hub : P.underlying tb = some .bool) (hvars : s.vars = [])
    (hspec : ∀ l : List (DataW H), l.length = f.params.toList.length → (s.fn H l).results = [.lit (.bool true)] ∧ (s.fn H l).args = l ∧ (s.fn H l).vars = [])
    (hW : DataW.Whole enc P f.params.toList s.vars false W args.toList ds gs before) (hb : Ext W W') :
    s.post enc P f false true false false W args (.bool true) W' := by
  have hW0 := hW
  obtain ⟨p, q, hA, hV, rfl, hfz, hnd⟩ := hW
  rw [hvars] at hV
  have hgs : gs = [] ∧ q = [] := by
    cases gs with
    | nil => exact ⟨rfl, hV⟩
    | cons g gs => exact hV.elim
  obtain ⟨rfl, rfl⟩ := hgs
  have hlen := (trodAll_length hA).1
  obtain ⟨e1, e2, e3⟩ := hspec (ds ++ []) (by simpa using hlen)
  have hr' : ∀ t ∈ f.params.toList, P.readableRec t = true ∧ t < P.types.size := by
    intro t ht
    have := List.all_eq_true.1 hr t ht
    simpa using this
  refine ⟨ds, [], p ++ [], [], p, [], hW0, ?_, ?_, ?_, Below.frame hb _, fun h => by cases h⟩
  · rw [e1, hres]; exact trodAll_cons_mk (shut_bool hub _) trodAll_mk0
  · rw [e2, List.append_nil]; exact trodAll_ext hl hb hr' hA (fun x hx => by simpa using hW0.lt x (by simpa using hx))
  · rw [hvars, e3]; rfl
end Go.Proofs.YtcmfdbjdbbpomaaDoor
namespace Go.Proofs.YtcmfdbjdbbpomaaDoor.B
open Go Go.RowKit
inductive Fl
  | int | bool | str
  | num (k : IntKind)
  | sl (τ : Ty)
  deriving DecidableEq
def flOf : V Un → Option Fl
  | .s (.int .i64 _) => some .int
  | .s (.int k _) => some (.num k)
  | .s (.bool _) => some .bool
  | .s (.string _) => some .str
  | .dat τ _ => some (.sl τ)
  | _ => none
def fls (τ : Ty) : List Fl := (enc τ (dflt τ)).filterMap flOf
theorem fl_cons {vs : List (V Un)} {f : Fl} {fs : List Fl} (h : vs.map flOf = (f :: fs).map some) : ∃ v r, vs = v :: r ∧ flOf v = some f ∧ r.map flOf = fs.map some := by
  cases vs with
  | nil => simp at h
  | cons v r => simp at h; exact ⟨v, r, rfl, h.1, by simpa using h.2⟩
theorem fl_nil {vs : List (V Un)} (h : vs.map flOf = ([] : List Fl).map some) : vs = [] := by simpa using h
theorem fl_int {vs : List (V Un)} {fs : List Fl} (h : vs.map flOf = (Fl.int :: fs).map some) : ∃ n r, vs = ci n :: r ∧ r.map flOf = fs.map some := by
  obtain ⟨v, r, rfl, h1, h2⟩ := fl_cons h
  unfold flOf at h1; split at h1 <;> simp at h1
  exact ⟨_, r, rfl, h2⟩
theorem fl_num {vs : List (V Un)} {k : IntKind} {fs : List Fl} (h : vs.map flOf = (Fl.num k :: fs).map some) : ∃ n r, vs = .s (.int k n) :: r ∧ r.map flOf = fs.map some := by
  obtain ⟨v, r, rfl, h1, h2⟩ := fl_cons h
  unfold flOf at h1; split at h1 <;> simp at h1
  subst h1
  exact ⟨_, r, rfl, h2⟩
theorem fl_bool {vs : List (V Un)} {fs : List Fl} (h : vs.map flOf = (Fl.bool :: fs).map some) : ∃ n r, vs = cb n :: r ∧ r.map flOf = fs.map some := by
  obtain ⟨v, r, rfl, h1, h2⟩ := fl_cons h
  unfold flOf at h1; split at h1 <;> simp at h1
  exact ⟨_, r, rfl, h2⟩
theorem fl_str {vs : List (V Un)} {fs : List Fl} (h : vs.map flOf = (Fl.str :: fs).map some) : ∃ n r, vs = cs n :: r ∧ r.map flOf = fs.map some := by
  obtain ⟨v, r, rfl, h1, h2⟩ := fl_cons h
  unfold flOf at h1; split at h1 <;> simp at h1
  exact ⟨_, r, rfl, h2⟩
theorem fl_sl {vs : List (V Un)} {τ : Ty} {fs : List Fl} (h : vs.map flOf = (Fl.sl τ :: fs).map some) : ∃ (l : List (Den τ)) (r : List (V Un)), vs = .dat (U := Un) τ l :: r ∧ r.map flOf = fs.map some := by
  obtain ⟨v, r, rfl, h1, h2⟩ := fl_cons h
  unfold flOf at h1; split at h1 <;> simp at h1
  subst h1
  exact ⟨_, r, rfl, h2⟩
section
variable {H : Type} {enc' : TypeId × Value → H} {P : Program} {w : World} {spare : Nat → Bool} {held : Bool}
def layFs (P : Program) (lay : TypeId → Option (List Fl)) : List Field → Nat → Option (List Fl)
  | [], _ => some []
  | f :: r, off => match lay f.type with
    | some l => if f.offset = off ∧ l.length = P.cellsOf f.type then (layFs P lay r (off + l.length)).map (l ++ ·) else none
    | none => none
def lay (P : Program) (tab : TypeId → TI Un) : Nat → TypeId → Option (List Fl)
  | 0, _ => none
  | k + 1, t => match P.underlying t with
    | some (.int .i64) => some [.int]
    | some (.int k) => some [.num k]
    | some (.array n e) => match lay P tab k e with
      | some l => if l.length = P.cellsOf e ∧ n * l.length = P.cellsOf t then some ((List.replicate n l).flatten) else none
      | none => none
    | some .bool => some [.bool]
    | some .string => some [.str]
    | some (.slice e) => match tab t with
      | .sl e' τ _ => if e' = e then some [.sl τ] else none
      | _ => none
    | some (.struct fs) => match layFs P (lay P tab k) fs.toList 0 with
      | some l => if l.length = P.cellsOf t then some l else none
      | none => none
    | _ => none
inductive VB (byt : Ty → Nat) : V Un → Prop
  | s (x : Value) : VB byt (.s x)
  | dat (τ : Ty) (xs : List (Den τ)) (h : xs.length * byt τ ≤ reachBytes) (h2 : ∀ x ∈ xs, ∀ d ∈ enc τ x, VB byt d) : VB byt (.dat (U := Un) τ xs)
mutual
inductive BK : V Un → Nat → Prop
  | s (x : Value) (n : Nat) (h : ∀ b, x = .string b → b.size ≤ n) : BK (.s x) n
  | dat (τ : Ty) (xs : List (Den τ)) (n : Nat) (h : BKL τ xs n) : BK (.dat (U := Un) τ xs) n
inductive BKL : (τ : Ty) → List (Den τ) → Nat → Prop
  | nil (τ : Ty) (n : Nat) : BKL τ [] n
  | cons (τ : Ty) (x : Den τ) (xs : List (Den τ)) (a b n : Nat) (h1 : BKS (enc τ x) a) (h2 : BKL τ xs b) (hn : a + 1 + b ≤ n) : BKL τ (x :: xs) n
inductive BKS : List (V Un) → Nat → Prop
  | nil (n : Nat) : BKS [] n
  | cons (v : V Un) (vs : List (V Un)) (a b n : Nat) (h1 : BK v a) (h2 : BKS vs b) (hn : a + b ≤ n) : BKS (v :: vs) n
end
theorem BKS.mono {vs : List (V Un)} {n m : Nat} (h : BKS vs n) (hm : n ≤ m) : BKS vs m := by
  cases h with
  | nil _ => exact .nil _
  | cons v vs a b _ h1 h2 hn => exact .cons v vs a b _ h1 h2 (by omega)
theorem BKL.mono {τ : Ty} {xs : List (Den τ)} {n m : Nat} (h : BKL τ xs n) (hm : n ≤ m) : BKL τ xs m := by
  cases h with
  | nil _ _ => exact .nil _ _
  | cons _ x xs a b _ h1 h2 hn => exact .cons _ x xs a b _ h1 h2 (by omega)
theorem BKS.append {us : List (V Un)} {n : Nat} (h : BKS us n) {vs : List (V Un)} {m : Nat} (h2 : BKS vs m) : BKS (us ++ vs) (n + m) := by
  induction us generalizing n with
  | nil => exact h2.mono (by omega)
  | cons u us ih =>
    cases h with
    | cons _ _ a b _ g1 g2 hn => exact .cons u _ a (b + m) _ g1 (ih g2) (by omega)
theorem BKS.one (x : Value) (n : Nat) (h : ∀ b, x = .string b → b.size ≤ n) : BKS [.s x] n := .cons _ _ n 0 _ (.s _ _ h) (.nil _) (by omega)
theorem BKS.none (τ : Ty) (n : Nat) : BKS [.dat (U := Un) τ []] n := .cons _ _ 0 0 _ (.dat _ _ _ (.nil _ _)) (.nil _) (by omega)
theorem bulk_pos (d : DataW H) : 1 ≤ Rows.uptoBulk d := by
  cases d with
  | lit l => cases l <;> simp [Rows.uptoBulk]
  | nil => simp [Rows.uptoBulk]
  | ptr d => simp [Rows.uptoBulk]
  | slice elems spare => simp [Rows.uptoBulk]
  | agg parts => simp [Rows.uptoBulk]
  | iface t d => simp [Rows.uptoBulk]
  | map entries => simp [Rows.uptoBulk]
  | held h => simp [Rows.uptoBulk]
theorem BKL_of {τ : Ty} : ∀ (xs : List (Den τ)) (es : List (DataW H)), xs.length = es.length → (∀ (i : Nat) x e, xs[i]? = some x → es[i]? = some e → BKS (enc τ x) (Rows.uptoBulk e - 1)) → BKL τ xs (Rows.uptoBulkAll es)
  | [], [], _, _ => .nil _ _
  | x :: xs, e :: es, h, hh => .cons _ _ _ _ _ _ (hh 0 x e rfl rfl) (BKL_of xs es (by simpa using h) fun i x e hx he => hh (i + 1) x e (by simpa using hx) (by simpa using he)) (by have := bulk_pos e; simp only [Rows.uptoBulkAll]; omega)
  | [], _ :: _, h, _ => by simp at h
  | _ :: _, [], h, _ => by simp at h
theorem weightsAll_mem {d : DataW H} {e : TypeId} {k : Nat} : ∀ {l : List (DataW H)}, d ∈ l → k ∈ d.weights P e → k ∈ DataW.weightsAll P e l
  | x :: l, hd, hk => by
    rw [DataW.weightsAll]
    rcases List.mem_cons.1 hd with rfl | hd
    · exact List.mem_append.2 (.inl hk)
    · exact List.mem_append.2 (.inr (weightsAll_mem hd hk))
theorem all2_of_get {α β : Type} {R : α → β → Prop} : ∀ {l : List α} {r : List β}, l.length = r.length → (∀ (i : Nat) (x : α) (y : β), l[i]? = some x → r[i]? = some y → R x y) → All2 R l r
  | [], [], _, _ => trivial
  | x :: l, y :: r, h, hh => ⟨hh 0 x y rfl rfl, all2_of_get (by simpa using h) fun i a b ha hb => hh (i + 1) a b (by simpa using ha) (by simpa using hb)⟩
  | [], _ :: _, h, _ => by simp at h
  | _ :: _, [], h, _ => by simp at h
def StA (w : World) (b _o : Nat) : Prop := b < w.heap.size
def LayOK (P : Program) (tab : TypeId → TI Un) : Prop := ∀ t e τ b, tab t = .sl e τ b → ∃ k, lay P tab k e = some (fls τ)
def DecTot : Prop := ∀ (τ : Ty) (vs : List (V Un)), vs.map flOf = (fls τ).map some → ∃ x, dec τ vs = some x
theorem All2.at {α β : Type} {R : α → β → Prop} : ∀ {l : List α} {r : List β}, All2 R l r → ∀ (i : Nat) (x : α) (y : β), l[i]? = some x → r[i]? = some y → R x y
  | [], [], _, i, x, y, hx, _ => by simp at hx
  | a :: l, b :: r, h, i, x, y, hx, hy => by
    cases i with
    | zero => simp at hx hy; subst hx; subst hy; exact h.1
    | succ i => simp at hx hy; exact All2.at h.2 i x y hx hy
theorem fields_data {tab : TypeId → TI Un} {byt : Ty → Nat} {k n : Nat} {cs : List Value}
    (IH : ∀ t cs (x : DataW H × List MemPlace) fl, DataW.trod enc' P w 0 spare held n t cs = some x → lay P tab k t = some fl → ∃ vs, All2 (VRel En (StA w) w) cs vs ∧ vs.map flOf = fl.map some ∧ ((∀ q ∈ x.1.weights P t, q ≤ reachBytes) → ∀ v ∈ vs, VB byt v) ∧ BKS vs (Rows.uptoBulk x.1 - 1)) :
    ∀ (fs : List Field) (ys : List (DataW H × List MemPlace)) (off : Nat) (fl : List Fl), layFs P (lay P tab k) fs off = some fl → All2 (fun f y => DataW.trod enc' P w 0 spare held n f.type ((cs.drop f.offset).take (P.cellsOf f.type)) = some y) fs ys →
      off + fl.length = cs.length → ∃ vs, All2 (VRel En (StA w) w) (cs.drop off) vs ∧ vs.map flOf = fl.map some ∧ ((∀ q ∈ DataW.weightsEach P (fs.map (·.type)) (ys.map (·.1)), q ≤ reachBytes) → ∀ v ∈ vs, VB byt v) ∧ BKS vs (Rows.uptoBulkAll (ys.map (·.1)))
  | [], ys, off, fl, h, _, hl => by
    simp [layFs] at h; subst h
    refine ⟨[], ?_, rfl, fun _ v hv => by simp at hv, .nil _⟩
    rw [List.drop_of_length_le (by simp at hl; omega)]; trivial
  | f :: r, [], off, fl, h, hf, hl => hf.elim
  | f :: r, y :: ys, off, fl, h, hf, hl => by
    simp only [layFs] at h
    split at h
    · rename_i l hlf
      split at h
      · rename_i hc
        rw [Option.map_eq_some_iff] at h
        obtain ⟨fl', h1, rfl⟩ := h
        obtain ⟨hy, hf2⟩ := hf
        rw [hc.1, ← hc.2] at hy
        obtain ⟨vs1, a1, a2, a3, a4⟩ := IH _ _ _ _ hy hlf
        obtain ⟨vs2, b1, b2, b3, b4⟩ := fields_data IH r ys (off + l.length) fl' h1 hf2 (by simp at hl; omega)
        refine ⟨vs1 ++ vs2, ?_, by simp [a2, b2], fun hq v hv => ?_, (a4.append b4).mono (by simp only [List.map_cons, Rows.uptoBulkAll]; omega)⟩
        · rw [← List.take_append_drop l.length (cs.drop off), List.drop_drop]
          exact a1.append b1
        · simp only [List.map_cons] at hq
          rw [DataW.weightsEach] at hq
          rcases List.mem_append.1 hv with hv | hv
          · exact a3 (fun q hh => hq q (List.mem_append.2 (.inl hh))) v hv
          · exact b3 (fun q hh => hq q (List.mem_append.2 (.inr hh))) v hv
      · simp at h
    · simp at h
theorem array_data {byt : Ty → Nat} {n : Nat} {cs : List Value} {e : TypeId} {l : List Fl}
    (IH : ∀ cs (x : DataW H × List MemPlace), DataW.trod enc' P w 0 spare held n e cs = some x → ∃ vs, All2 (VRel En (StA w) w) cs vs ∧ vs.map flOf = l.map some ∧ ((∀ q ∈ x.1.weights P e, q ≤ reachBytes) → ∀ v ∈ vs, VB byt v) ∧ BKS vs (Rows.uptoBulk x.1 - 1)) (hle : l.length = P.cellsOf e) :
    ∀ (m : Nat) (ys : List (DataW H × List MemPlace)) (off : Nat), ys.length = m → (∀ i, i < m → DataW.trod enc' P w 0 spare held n e ((cs.drop (off + i * P.cellsOf e)).take (P.cellsOf e)) = ys[i]?) →
      off + m * l.length = cs.length → ∃ vs, All2 (VRel En (StA w) w) (cs.drop off) vs ∧ vs.map flOf = ((List.replicate m l).flatten).map some ∧ ((∀ q ∈ DataW.weightsAll P e (ys.map (·.1)), q ≤ reachBytes) → ∀ v ∈ vs, VB byt v) ∧ BKS vs (Rows.uptoBulkAll (ys.map (·.1)))
  | 0, ys, off, _, _, hl => by
    refine ⟨[], ?_, rfl, fun _ v hv => by simp at hv, .nil _⟩
    rw [List.drop_of_length_le (by omega)]; trivial
  | m + 1, [], off, h, _, _ => by simp at h
  | m + 1, y :: ys, off, hlen, hf, hl => by
    have h0 := hf 0 (by omega)
    simp only [Nat.zero_mul, Nat.add_zero, List.getElem?_cons_zero] at h0
    obtain ⟨vs1, a1, a2, a3, a4⟩ := IH _ _ h0
    obtain ⟨vs2, b1, b2, b3, b4⟩ := array_data IH hle m ys (off + l.length) (by simpa using hlen) (fun i hi => by
      have := hf (i + 1) (by omega)
      rw [List.getElem?_cons_succ] at this
      rw [← this, hle]; congr 3; rw [Nat.add_mul, Nat.one_mul]; omega) (by rw [Nat.add_mul, Nat.one_mul] at hl; omega)
    refine ⟨vs1 ++ vs2, ?_, by rw [List.replicate_succ, List.flatten_cons]; simp [a2, b2], fun hq v hv => ?_, (a4.append b4).mono (by simp only [List.map_cons, Rows.uptoBulkAll]; omega)⟩
    · have e1 := List.take_append_drop l.length (cs.drop off)
      rw [List.drop_drop] at e1
      rw [← e1]
      have a1' : All2 (VRel En (StA w) w) ((cs.drop off).take l.length) vs1 := by rw [hle]; exact a1
      exact a1'.append b1
    · simp only [List.map_cons] at hq
      rw [DataW.weightsAll] at hq
      rcases List.mem_append.1 hv with hv | hv
      · exact a3 (fun q hh => hq q (List.mem_append.2 (.inl hh))) v hv
      · exact b3 (fun q hh => hq q (List.mem_append.2 (.inr hh))) v hv
theorem cells_get {a : Addr} {n : Nat} {cs : List Value} (h : w.cells? 0 a n = some cs) : cs.length = n ∧ ∀ j, j < n → w.cell? (a.add j) = cs[j]? := by
  unfold World.cells? at h
  rw [if_pos (Nat.zero_le _)] at h
  refine ⟨by simpa using mapM_some_length h, fun j hj => ?_⟩
  exact mapM_some_get h j j (by simp [hj])
theorem trod_data {tab : TypeId → TI Un} {byt : Ty → Nat} (hbyt : ∀ t e τ b, tab t = .sl e τ b → P.bytesOf e = byt τ) (hlay : LayOK P tab) (hdec : DecTot) (hsz : ∀ τ, 0 < sz τ) (hcell : ∀ t e τ b, tab t = .sl e τ b → P.cellsOf e = sz τ) :
    ∀ (n : Nat) (t : TypeId) (cs : List Value) (x : DataW H × List MemPlace) (k : Nat) (fl : List Fl), DataW.trod enc' P w 0 spare held n t cs = some x → lay P tab k t = some fl →
      ∃ vs, All2 (VRel En (StA w) w) cs vs ∧ vs.map flOf = fl.map some ∧ ((∀ q ∈ x.1.weights P t, q ≤ reachBytes) → ∀ v ∈ vs, VB byt v) ∧ BKS vs (Rows.uptoBulk x.1 - 1) := by
  intro n
  induction n with
  | zero => intro t cs x k fl h; simp [DataW.trod] at h
  | succ n IH =>
    intro t cs x k fl h hl
    cases k with
    | zero => simp [lay] at hl
    | succ k =>
      simp only [lay] at hl
      split at hl
      · rename_i hu
        obtain ⟨m, rfl, -, hw⟩ := DataW.trod_int hu h
        simp at hl; subst hl
        refine ⟨[ci m], ⟨.s _ ?_, trivial⟩, rfl, fun _ v hv => by rw [List.mem_singleton] at hv; subst hv; exact .s _, .one _ _ (fun _ e => by cases e)⟩
        simpa [Lit.wf, oneC] using hw
      · rename_i kd hne hu
        obtain ⟨m, rfl, -, hw⟩ := DataW.trod_int hu h
        simp at hl; subst hl
        refine ⟨[.s (.int kd m)], ⟨.s _ ?_, trivial⟩, ?_, fun _ v hv => by rw [List.mem_singleton] at hv; subst hv; exact .s _, .one _ _ (fun _ e => by cases e)⟩
        · simpa [Lit.wf, oneC] using hw
        · cases kd <;> first | rfl | exact (hne rfl).elim
      · rename_i m e hu
        split at hl
        · rename_i l hle
          split at hl
          · rename_i hc
            simp only [Option.some.injEq] at hl; subst hl
            obtain ⟨xs, n', hn', hx0, g1, g2, g3⟩ := DataW.trod_array hu h
            obtain rfl : n' = n := by omega
            obtain ⟨vs, b1, b2, b3, b4⟩ := array_data (byt := byt) (cs := cs) (e := e) (l := l) (fun cs x hx => IH _ _ _ _ _ hx hle) hc.1 m xs 0 g2 (fun i hi => by rw [Nat.zero_add]; exact g3 i hi) (by rw [g1, ← hc.2]; omega)
            refine ⟨vs, by simpa using b1, b2, fun hq => b3 (fun q hh => hq q ?_), b4.mono (by rw [hx0]; simp only [Rows.uptoBulk]; omega)⟩
            rw [hx0]
            simp only [DataW.weights, hu]
            exact hh
          · simp at hl
        · simp at hl
      · rename_i hu
        simp at hl; subst hl
        obtain ⟨b, rfl⟩ : ∃ b, cs = [.bool b] := by
          unfold DataW.trod at h; rw [hu] at h
          split at h <;> first | exact ⟨_, rfl⟩ | simp_all
        exact ⟨[cb b], ⟨.s _ rfl, trivial⟩, rfl, fun _ v hv => by rw [List.mem_singleton] at hv; subst hv; exact .s _, .one _ _ (fun _ e => by cases e)⟩
      · rename_i hu
        simp at hl; subst hl
        obtain ⟨s, rfl, hs, hbk⟩ : ∃ s : ByteArray, cs = [.string s] ∧ s.size ≤ maxLen ∧ s.size ≤ Rows.uptoBulk x.1 - 1 := by
          unfold DataW.trod at h; rw [hu] at h
          split at h <;> first | (rename_i s _; simp at h; exact ⟨_, rfl, h.1, by rw [← h.2]; simp only [Rows.uptoBulk]; first | (rw [toList_size]; omega) | simp | (trace_state; omega)⟩) | simp_all
        exact ⟨[B.cs s], ⟨.s _ (decide_eq_true hs), trivial⟩, rfl, fun _ v hv => by rw [List.mem_singleton] at hv; subst hv; exact .s _, .one _ _ (fun b e => by cases e; exact hbk)⟩
      · rename_i e hu
        split at hl
        · rename_i e' τ b ht
          split at hl
          · rename_i he; subst he
            simp at hl; subst hl
            rcases DataW.trod_slice hu h with ⟨rfl, -⟩ | ⟨a, len, cap, elems, rest, m, hm, rfl, hx0, -, h1, h2, h3, h4, -, -⟩
            · exact ⟨[.dat (U := Un) τ []], ⟨.nil _ _ _, trivial⟩, rfl, fun _ v hv => by rw [List.mem_singleton] at hv; subst hv; exact .dat τ [] (by simp) (by simp), .none _ _⟩
            · obtain rfl : m = n := by omega
              obtain ⟨ke, hke⟩ := hlay t e' τ b ht
              have hc := hcell t e' τ b ht
              have hz := hsz τ
              have key : ∀ i, i < len → ∃ (x' : Den τ) (cs : List Value), All2 (VRel En (StA w) w) cs (enc τ x') ∧ cs.length = sz τ ∧ (∀ j, j < sz τ → w.cell? ((a.add (i * sz τ)).add j) = cs[j]?) ∧ ((∀ q ∈ x.1.weights P t, q ≤ reachBytes) → ∀ d ∈ enc τ x', VB byt d) ∧ (∀ e, elems[i]? = some e → BKS (enc τ x') (Rows.uptoBulk e.1 - 1)) := by
                intro i hi
                have := h4 i hi
                rw [hc] at this
                have he : elems[i]? = some elems[i] := List.getElem?_eq_getElem (by omega)
                rw [he, Option.bind_eq_some_iff] at this
                obtain ⟨ci, g1, g2⟩ := this
                obtain ⟨vs, g3, g4, g8, g9⟩ := IH _ _ _ _ _ g2 hke
                obtain ⟨x', hx⟩ := hdec τ vs g4
                obtain ⟨g5, g6⟩ := cells_get g1
                have hbk := enc_back τ vs x' hx
                refine ⟨x', ci, by rw [hbk]; exact g3, g5, g6, fun hq d hd => ?_, fun e' he' => by rw [he] at he'; injection he' with he'; subst he'; rw [hbk]; exact g9⟩
                rw [hbk] at hd
                refine g8 (fun q hh => hq q ?_) d hd
                rw [hx0]
                simp only [DataW.weights, hu]
                refine List.mem_cons_of_mem _ (List.mem_append.2 (.inl (weightsAll_mem (List.mem_map.2 ⟨_, List.getElem_mem (by omega : i < elems.length), rfl⟩) hh)))
              cases len with
              | zero => exact ⟨[.dat (U := Un) τ []], ⟨.nil _ _ _, trivial⟩, rfl, fun _ v hv => by rw [List.mem_singleton] at hv; subst hv; exact .dat τ [] (by simp) (by simp), .none _ _⟩
              | succ len =>
                obtain ⟨blk, off, spot⟩ := a
                have hspot : spot = none := by
                  obtain ⟨x', cs, -, g1, g2, -, -⟩ := key 0 (by omega)
                  have := g2 0 hz
                  rw [List.getElem?_eq_getElem (by omega)] at this
                  simp [Addr.add, World.cell?] at this
                  split at this
                  · cases spot with
                    | none => rfl
                    | some _ => simp at this
                  · simp at this
                subst hspot
                have hadd : ∀ p q : Nat, ((⟨blk, off, none⟩ : Addr).add p).add q = ⟨blk, off + p + q, none⟩ := by
                  intro p q; unfold Addr.add
                  by_cases hp : p = 0 <;> by_cases hq : q = 0 <;> simp [hp, hq]
                let f : Nat → Den τ := fun i => if hi : i < len + 1 then Classical.choose (key i hi) else dflt τ
                let xs : List (Den τ) := (List.range (len + 1)).map f
                have hxl : xs.length = len + 1 := by simp [xs]
                have hVB : (∀ q ∈ x.1.weights P t, q ≤ reachBytes) → VB byt (.dat (U := Un) τ xs) := by
                  intro hq
                  refine .dat τ xs ?_ ?_
                  · have := hq ((elems.length + rest.length) * P.bytesOf e') (by rw [hx0]; simp only [DataW.weights, hu, List.length_map]; exact List.mem_cons_self)
                    rw [hbyt t e' τ b ht] at this
                    rw [hxl]
                    exact Nat.le_trans (Nat.mul_le_mul_right _ (by omega)) this
                  · intro y hy d hd
                    obtain ⟨i, hi, rfl⟩ := List.getElem_of_mem hy
                    have hi' : i < len + 1 := by omega
                    have hxi : xs[i] = Classical.choose (key i hi') := by
                      simp only [xs, List.getElem_map, List.getElem_range, f]
                      rw [dif_pos hi']
                    obtain ⟨cs, -, -, -, g3, -⟩ := Classical.choose_spec (key i hi')
                    rw [hxi] at hd
                    exact g3 hq d hd
                have hBK : BKL τ xs (Rows.uptoBulkAll (elems.map (·.1))) := by
                  refine BKL_of xs _ (by rw [hxl, List.length_map]; omega) fun i x' e hx' he => ?_
                  have hi' : i < len + 1 := by rw [← hxl]; exact (List.getElem?_eq_some_iff.1 hx').1
                  obtain ⟨cs, -, -, -, -, g4⟩ := Classical.choose_spec (key i hi')
                  have hxi : x' = Classical.choose (key i hi') := by
                    rw [List.getElem?_eq_getElem (by omega)] at hx'
                    injection hx' with hx'
                    rw [← hx']
                    simp only [xs, List.getElem_map, List.getElem_range, f]
                    rw [dif_pos hi']
                  rw [List.getElem?_map, Option.map_eq_some_iff] at he
                  obtain ⟨e0, h5, rfl⟩ := he
                  rw [hxi]
                  exact g4 e0 h5
                refine ⟨[.dat (U := Un) τ xs], ⟨?_, trivial⟩, rfl, fun hq v hv => by rw [List.mem_singleton] at hv; subst hv; exact hVB hq, .cons _ _ (Rows.uptoBulkAll (elems.map (·.1))) 0 _ (.dat _ _ _ hBK) (.nil _) (by rw [hx0]; simp only [Rows.uptoBulk]; omega)⟩
                have hrel : VRel En (StA w) w (.slice (some ⟨blk, off, none⟩) xs.length cap) (.dat (U := Un) τ xs) := by
                  refine .dat (U := Un) τ xs blk off cap (fun i j => (w.cell? ⟨blk, off + i * sz τ + j, none⟩).getD .nilIface) ⟨by omega, by rw [hxl]; exact Nat.le_trans h1 h2⟩ ?_ ?_
                  · intro i j hi hj
                    obtain ⟨cs, -, g1, g2, -, -⟩ := Classical.choose_spec (key i (by omega))
                    obtain ⟨v, hv⟩ : ∃ v, cs[j]? = some v := ⟨_, List.getElem?_eq_getElem (by rw [g1]; exact hj)⟩
                    have := g2 j hj
                    rw [hadd, hv] at this
                    have this' : w.cell? ⟨blk, off + i * sz τ + j, none⟩ = some v := this
                    refine ⟨?_, ?_⟩
                    · exact lt_of_cell this'
                    · show w.cell? ⟨blk, off + i * sz τ + j, none⟩ = some ((w.cell? ⟨blk, off + i * sz τ + j, none⟩).getD .nilIface)
                      rw [this']; rfl
                  · intro i hi j d hd
                    have hi' : i < len + 1 := by omega
                    have hxi : xs[i] = Classical.choose (key i hi') := by
                      simp only [xs, List.getElem_map, List.getElem_range, f]
                      rw [dif_pos hi']
                    obtain ⟨cs, g0, g1, g2, -, -⟩ := Classical.choose_spec (key i hi')
                    rw [hxi] at hd
                    have hj : j < sz τ := by
                      have := (List.getElem?_eq_some_iff.1 hd).1
                      have hh := enc_len τ (Classical.choose (key i hi'))
                      exact hh ▸ this
                    obtain ⟨v, hv⟩ : ∃ v, cs[j]? = some v := ⟨_, List.getElem?_eq_getElem (by rw [g1]; exact hj)⟩
                    have := g2 j hj
                    rw [hadd, hv] at this
                    have this' : w.cell? ⟨blk, off + i * sz τ + j, none⟩ = some v := this
                    show VRel En (StA w) w ((w.cell? ⟨blk, off + i * sz τ + j, none⟩).getD .nilIface) d
                    rw [this']
                    exact All2.at g0 j _ _ hv hd
                rw [hxl] at hrel
                exact hrel
          · simp at hl
        · simp at hl
      · rename_i fs hu
        split at hl
        · rename_i l hfs
          split at hl
          · rename_i hlen
            simp at hl; subst hl
            obtain ⟨xs, m, hm, hx0, g1, g2, g3⟩ := DataW.trod_struct hu h
            obtain rfl : m = n := by omega
            have := fields_data (tab := tab) (byt := byt) (k := k) (n := m) (cs := cs) (fun t cs x fl hx hy => IH t cs x k fl hx hy) fs.toList xs 0 l hfs (all2_of_get (by simpa using g2.symm) (fun i f y hi hy => by
              have := g3 i f (by simpa using hi)
              rw [hy] at this; exact this)) (by omega)
            obtain ⟨vs, b1, b2, b3, b4⟩ := this
            refine ⟨vs, by simpa using b1, b2, fun hq => b3 (fun q hh => hq q ?_), b4.mono (by rw [hx0]; simp only [Rows.uptoBulk]; omega)⟩
            rw [hx0]
            simp only [DataW.weights, hu]
            exact hh
          · simp at hl
        · simp at hl
      · simp at hl
end
end Go.Proofs.YtcmfdbjdbbpomaaDoor.B
