/- What the texts of all functions share: tables of callees, readers of arguments, rules for plain forms. -/
import Derived.Test.YtaepcbdcjbfgjaaBTabs
import Derived.Test.YtaepcbdcjbfgjaaBEntryG
namespace Go.Proofs.Ytaepcbdcjbfgjaa.B
open Go Go.RowKit

/-! ### tables -/
def FnOK (f : FuncId) (F : FnC Un) : Prop := ∀ args ob rs os, F args = some (ob, rs, os) → (∀ p ∈ ob, p) → Contract Try.prog En f args rs os ∧ HasBody Try.prog f
def FvOK (f : FuncId) (φ : FV Un) : Prop := HasBody Try.prog f ∧ ∀ args ob rs, φ args = some (ob, rs) → (∀ p ∈ ob, p) → Contract0 Try.prog En f (args.map .d) rs
def ClOK (f : FuncId) (F : List (List (DC Un)) → Option (FV Un)) : Prop := HasBody Try.prog f ∧ ∀ dl φ args ob rs, F dl = some φ → φ args = some (ob, rs) → (∀ p ∈ ob, p) → Contract0 Try.prog En f (args.map .d ++ dl.map .box) rs
def GnOK (f : FuncId) (F : List Bool × FnG Un) : Prop := ∀ args bxs obs ob rs bxs' obs', F.2 args bxs obs = some (ob, rs, bxs', obs') → (∀ p ∈ ob, p) → GContract Try.prog En f args bxs obs rs bxs' obs' ∧ HasBody Try.prog f
def UpOK (f : FuncId) (F : FnU Un) : Prop := ∀ τ xs ds ob ys, F τ xs ds = some (ob, ys) → (∀ p ∈ ob, p) → UContract Try.prog En f τ xs ds ys ∧ HasBody Try.prog f
def AllL {α : Type} (R : Nat → α → Prop) : List (Nat × α) → Prop
  | [] => True
  | p :: r => R p.1 p.2 ∧ AllL R r
def tbl {α : Type} (l : List (Nat × α)) (f : Nat) : Option α := look f l
theorem AllL.look {α : Type} {R : Nat → α → Prop} {f : Nat} {x : α} : ∀ {l : List (Nat × α)}, AllL R l → tbl l f = some x → R f x
  | [], _, h => by simp [tbl, B.look] at h
  | (k, y) :: r, hl, h => by
    simp only [tbl, B.look] at h
    split at h
    · rename_i hb
      have := Nat.eq_of_beq_eq_true hb
      simp at h; subst this; subst h; exact hl.1
    · exact AllL.look hl.2 h
theorem tbl_ok {l1 : List (Nat × FnC Un)} {l2 : List (Nat × FV Un)} {l3 : List (Nat × (List (List (DC Un)) → Option (FV Un)))} {l4 : List (Nat × (List Bool × FnG Un))} {l5 : List (Nat × FnU Un)}
    (h1 : AllL FnOK l1) (h2 : AllL FvOK l2) (h3 : AllL ClOK l3) (h4 : AllL GnOK l4) (h5 : AllL UpOK l5) : FnsOK Try.prog (mach (tbl l1) (tbl l2) (tbl l3) (tbl l4) (tbl l5)) where
  ups := fun f F τ xs ds ob ys hf hF hob => h5.look hf τ xs ds ob ys hF hob
  gns := fun f ms F args bxs obs ob rs bxs' obs' hf hF hob => h4.look hf args bxs obs ob rs bxs' obs' hF hob
  fns := fun f F args ob rs os hf hF hob => h1.look hf args ob rs os hF hob
  fvb := fun f φ hf => (h2.look hf).1
  fvs := fun f φ args ob rs hf hF hob => (h2.look hf).2 args ob rs hF hob
  clb := fun f F hf => (h3.look hf).1
  clo := fun f F dl φ args ob rs hf hF hφ hob => (h3.look hf).2 dl φ args ob rs hF hφ hob

theorem hasBody_of {f : FuncId} {fn : Func} (hf : Try.prog.funcs[f]? = some fn) (hb : fn.body = some (bodyOf fn)) (hn : (fn.name == "runtime.NumGoroutine") = false) : HasBody Try.prog f := ⟨fn, _, hf, hb, hn⟩
/-- A run, behind a name of its own: its kind is not looked into. -/
structure Runs (p : Prop) : Prop where
  out : p
theorem fn_contract {M : Mc Un} {fns : FuncId → Option (FnC Un)} {fvs : FuncId → Option (FV Un)} {clo : FuncId → Option (List (List (DC Un)) → Option (FV Un))} {gns : FuncId → Option (List Bool × FnG Un)} {ups : FuncId → Option (FnU Un)} (hM : M = mach fns fvs clo gns ups) (hF : FnsOK Try.prog (mach fns fvs clo gns ups))
    {f : FuncId} {fn : Func} (hf : Try.prog.funcs[f]? = some fn) (hb : fn.body = some (bodyOf fn)) (N : Nat → NS) (x : Nat) (fm : List Kind) {args : List (D Un)} {rs : List (A Un)} {os : List (Ob Un)}
    (h : (∀ a ∈ args, DWf En a) → Runs (awp M N (bodyOf fn) (entry fn.ntmps x args) (retQ M fn.results.toList fm fun rs' os' => rs' = rs ∧ os' = os))) : Contract Try.prog En f args rs os := by
  subst hM
  exact contract_of (M := mach fns fvs clo gns ups) (tabOK fns fvs clo gns ups) hF mixed hf hb N x fm fun ha => (h ha).out

/-! ### readers -/
def dI (k : IntKind) : D Un → Option Int
  | .d (.v (.s (.int k' n))) => match decEq k' k with | .isTrue _ => some n | .isFalse _ => none
  | _ => none
def dB : D Un → Option Bool
  | .d (.v (.s (.bool b))) => some b
  | _ => none
def dStr : D Un → Option ByteArray
  | .d (.v (.s (.string b))) => some b
  | _ => none
def dL (τ : Ty) : D Un → Option (List (Den τ))
  | .d (.v (.dat τ' xs)) => match instDecidableEqTy τ' τ with | .isTrue h => some (h ▸ xs) | .isFalse _ => none
  | _ => none
def dS (τ : Ty) : D Un → Option (Den τ)
  | .d (.agg vs) => dec τ vs
  | _ => none
def dF : D Un → Option (FV Un)
  | .fn φ => some φ
  | _ => none
/-! ### signatures of function values -/
def fv_i_i64_to_b (p : Int → Bool) : FV Un := fun args => match args with
  | [x0] => (dI .i64 (.d x0)).bind fun a0 => some ([], [.v (cb (p a0))])
  | _ => none
def fvo_i_i64_to_b (o : Int → Prop) (p : Int → Bool) : FV Un := fun args => match args with
  | [x0] => (dI .i64 (.d x0)).bind fun a0 => some ([o a0], [.v (cb (p a0))])
  | _ => none
def po_i_i64_to_b (φ : FV Un) : Int → Prop := fun a0 => match φ [.v (.s (.int .i64 a0))] with
  | some ([q], _) => q
  | _ => False
def pf_i_i64_to_b (φ : FV Un) : Int → Bool := fun a0 => match φ [.v (.s (.int .i64 a0))] with
  | some (_, [.v (.s (.bool b))]) => b
  | _ => false
def fv_S_val_to_b (p : Val → Bool) : FV Un := fun args => match args with
  | [x0] => (dS .val (.d x0)).bind fun a0 => some ([], [.v (cb (p a0))])
  | _ => none
def fvo_S_val_to_b (o : Val → Prop) (p : Val → Bool) : FV Un := fun args => match args with
  | [x0] => (dS .val (.d x0)).bind fun a0 => some ([o a0], [.v (cb (p a0))])
  | _ => none
def po_S_val_to_b (φ : FV Un) : Val → Prop := fun a0 => match φ [.agg (enc Ty.val a0)] with
  | some ([q], _) => q
  | _ => False
def pf_S_val_to_b (φ : FV Un) : Val → Bool := fun a0 => match φ [.agg (enc Ty.val a0)] with
  | some (_, [.v (.s (.bool b))]) => b
  | _ => false
def fv_S_val_S_val_to_i_i64 (p : Val → Val → Int) : FV Un := fun args => match args with
  | [x0, x1] => (dS .val (.d x0)).bind fun a0 => (dS .val (.d x1)).bind fun a1 => some ([], [.v (.s (.int .i64 (p a0 a1)))])
  | _ => none
def fvo_S_val_S_val_to_i_i64 (o : Val → Val → Prop) (p : Val → Val → Int) : FV Un := fun args => match args with
  | [x0, x1] => (dS .val (.d x0)).bind fun a0 => (dS .val (.d x1)).bind fun a1 => some ([o a0 a1], [.v (.s (.int .i64 (p a0 a1)))])
  | _ => none
def po_S_val_S_val_to_i_i64 (φ : FV Un) : Val → Val → Prop := fun a0 a1 => match φ [.agg (enc Ty.val a0), .agg (enc Ty.val a1)] with
  | some ([q], _) => q
  | _ => False
def pf_S_val_S_val_to_i_i64 (φ : FV Un) : Val → Val → Int := fun a0 a1 => match φ [.agg (enc Ty.val a0), .agg (enc Ty.val a1)] with
  | some (_, [.v (.s (.int _ b))]) => b
  | _ => 0
def fv_L_val_L_val_to_i_i64 (p : (List Val) → (List Val) → Int) : FV Un := fun args => match args with
  | [x0, x1] => (dL .val (.d x0)).bind fun a0 => (dL .val (.d x1)).bind fun a1 => some ([], [.v (.s (.int .i64 (p a0 a1)))])
  | _ => none
def fvo_L_val_L_val_to_i_i64 (o : (List Val) → (List Val) → Prop) (p : (List Val) → (List Val) → Int) : FV Un := fun args => match args with
  | [x0, x1] => (dL .val (.d x0)).bind fun a0 => (dL .val (.d x1)).bind fun a1 => some ([o a0 a1], [.v (.s (.int .i64 (p a0 a1)))])
  | _ => none
def po_L_val_L_val_to_i_i64 (φ : FV Un) : (List Val) → (List Val) → Prop := fun a0 a1 => match φ [.v (.dat (U := Un) Ty.val a0), .v (.dat (U := Un) Ty.val a1)] with
  | some ([q], _) => q
  | _ => False
def pf_L_val_L_val_to_i_i64 (φ : FV Un) : (List Val) → (List Val) → Int := fun a0 a1 => match φ [.v (.dat (U := Un) Ty.val a0), .v (.dat (U := Un) Ty.val a1)] with
  | some (_, [.v (.s (.int _ b))]) => b
  | _ => 0
def fv_L_val_L_val_to_b (p : (List Val) → (List Val) → Bool) : FV Un := fun args => match args with
  | [x0, x1] => (dL .val (.d x0)).bind fun a0 => (dL .val (.d x1)).bind fun a1 => some ([], [.v (cb (p a0 a1))])
  | _ => none
def fvo_L_val_L_val_to_b (o : (List Val) → (List Val) → Prop) (p : (List Val) → (List Val) → Bool) : FV Un := fun args => match args with
  | [x0, x1] => (dL .val (.d x0)).bind fun a0 => (dL .val (.d x1)).bind fun a1 => some ([o a0 a1], [.v (cb (p a0 a1))])
  | _ => none
def po_L_val_L_val_to_b (φ : FV Un) : (List Val) → (List Val) → Prop := fun a0 a1 => match φ [.v (.dat (U := Un) Ty.val a0), .v (.dat (U := Un) Ty.val a1)] with
  | some ([q], _) => q
  | _ => False
def pf_L_val_L_val_to_b (φ : FV Un) : (List Val) → (List Val) → Bool := fun a0 a1 => match φ [.v (.dat (U := Un) Ty.val a0), .v (.dat (U := Un) Ty.val a1)] with
  | some (_, [.v (.s (.bool b))]) => b
  | _ => false
def fv_i_i64_to_i_i64 (p : Int → Int) : FV Un := fun args => match args with
  | [x0] => (dI .i64 (.d x0)).bind fun a0 => some ([], [.v (.s (.int .i64 (p a0)))])
  | _ => none
def fvo_i_i64_to_i_i64 (o : Int → Prop) (p : Int → Int) : FV Un := fun args => match args with
  | [x0] => (dI .i64 (.d x0)).bind fun a0 => some ([o a0], [.v (.s (.int .i64 (p a0)))])
  | _ => none
def po_i_i64_to_i_i64 (φ : FV Un) : Int → Prop := fun a0 => match φ [.v (.s (.int .i64 a0))] with
  | some ([q], _) => q
  | _ => False
def pf_i_i64_to_i_i64 (φ : FV Un) : Int → Int := fun a0 => match φ [.v (.s (.int .i64 a0))] with
  | some (_, [.v (.s (.int _ b))]) => b
  | _ => 0
def fv_S_term_to_b (p : Term → Bool) : FV Un := fun args => match args with
  | [x0] => (dS .term (.d x0)).bind fun a0 => some ([], [.v (cb (p a0))])
  | _ => none
def fvo_S_term_to_b (o : Term → Prop) (p : Term → Bool) : FV Un := fun args => match args with
  | [x0] => (dS .term (.d x0)).bind fun a0 => some ([o a0], [.v (cb (p a0))])
  | _ => none
def po_S_term_to_b (φ : FV Un) : Term → Prop := fun a0 => match φ [.agg (enc Ty.term a0)] with
  | some ([q], _) => q
  | _ => False
def pf_S_term_to_b (φ : FV Un) : Term → Bool := fun a0 => match φ [.agg (enc Ty.term a0)] with
  | some (_, [.v (.s (.bool b))]) => b
  | _ => false
def fv_i_i64_i_i64_to_i_i64 (p : Int → Int → Int) : FV Un := fun args => match args with
  | [x0, x1] => (dI .i64 (.d x0)).bind fun a0 => (dI .i64 (.d x1)).bind fun a1 => some ([], [.v (.s (.int .i64 (p a0 a1)))])
  | _ => none
def fvo_i_i64_i_i64_to_i_i64 (o : Int → Int → Prop) (p : Int → Int → Int) : FV Un := fun args => match args with
  | [x0, x1] => (dI .i64 (.d x0)).bind fun a0 => (dI .i64 (.d x1)).bind fun a1 => some ([o a0 a1], [.v (.s (.int .i64 (p a0 a1)))])
  | _ => none
def po_i_i64_i_i64_to_i_i64 (φ : FV Un) : Int → Int → Prop := fun a0 a1 => match φ [.v (.s (.int .i64 a0)), .v (.s (.int .i64 a1))] with
  | some ([q], _) => q
  | _ => False
def pf_i_i64_i_i64_to_i_i64 (φ : FV Un) : Int → Int → Int := fun a0 a1 => match φ [.v (.s (.int .i64 a0)), .v (.s (.int .i64 a1))] with
  | some (_, [.v (.s (.int _ b))]) => b
  | _ => 0
def fv_s_to_b (p : ByteArray → Bool) : FV Un := fun args => match args with
  | [x0] => (dStr (.d x0)).bind fun a0 => some ([], [.v (cb (p a0))])
  | _ => none
def fvo_s_to_b (o : ByteArray → Prop) (p : ByteArray → Bool) : FV Un := fun args => match args with
  | [x0] => (dStr (.d x0)).bind fun a0 => some ([o a0], [.v (cb (p a0))])
  | _ => none
def po_s_to_b (φ : FV Un) : ByteArray → Prop := fun a0 => match φ [.v (cs a0)] with
  | some ([q], _) => q
  | _ => False
def pf_s_to_b (φ : FV Un) : ByteArray → Bool := fun a0 => match φ [.v (cs a0)] with
  | some (_, [.v (.s (.bool b))]) => b
  | _ => false
def fv_S_col_to_b (p : Col → Bool) : FV Un := fun args => match args with
  | [x0] => (dS .col (.d x0)).bind fun a0 => some ([], [.v (cb (p a0))])
  | _ => none
def fvo_S_col_to_b (o : Col → Prop) (p : Col → Bool) : FV Un := fun args => match args with
  | [x0] => (dS .col (.d x0)).bind fun a0 => some ([o a0], [.v (cb (p a0))])
  | _ => none
def po_S_col_to_b (φ : FV Un) : Col → Prop := fun a0 => match φ [.agg (enc Ty.col a0)] with
  | some ([q], _) => q
  | _ => False
def pf_S_col_to_b (φ : FV Un) : Col → Bool := fun a0 => match φ [.agg (enc Ty.col a0)] with
  | some (_, [.v (.s (.bool b))]) => b
  | _ => false
def fv_S_term_i_i64_to_S_term (p : Term → Int → Term) : FV Un := fun args => match args with
  | [x0, x1] => (dS .term (.d x0)).bind fun a0 => (dI .i64 (.d x1)).bind fun a1 => some ([], [.agg (enc Ty.term (p a0 a1))])
  | _ => none
def fvo_S_term_i_i64_to_S_term (o : Term → Int → Prop) (p : Term → Int → Term) : FV Un := fun args => match args with
  | [x0, x1] => (dS .term (.d x0)).bind fun a0 => (dI .i64 (.d x1)).bind fun a1 => some ([o a0 a1], [.agg (enc Ty.term (p a0 a1))])
  | _ => none
def po_S_term_i_i64_to_S_term (φ : FV Un) : Term → Int → Prop := fun a0 a1 => match φ [.agg (enc Ty.term a0), .v (.s (.int .i64 a1))] with
  | some ([q], _) => q
  | _ => False
def pf_S_term_i_i64_to_S_term (φ : FV Un) : Term → Int → Term := fun a0 a1 => match φ [.agg (enc Ty.term a0), .v (.s (.int .i64 a1))] with
  | some (_, [.agg b]) => ((dec .term b).getD (dflt .term))
  | _ => (dflt .term)
def fv_S_term_S_term_to_b (p : Term → Term → Bool) : FV Un := fun args => match args with
  | [x0, x1] => (dS .term (.d x0)).bind fun a0 => (dS .term (.d x1)).bind fun a1 => some ([], [.v (cb (p a0 a1))])
  | _ => none
def fvo_S_term_S_term_to_b (o : Term → Term → Prop) (p : Term → Term → Bool) : FV Un := fun args => match args with
  | [x0, x1] => (dS .term (.d x0)).bind fun a0 => (dS .term (.d x1)).bind fun a1 => some ([o a0 a1], [.v (cb (p a0 a1))])
  | _ => none
def po_S_term_S_term_to_b (φ : FV Un) : Term → Term → Prop := fun a0 a1 => match φ [.agg (enc Ty.term a0), .agg (enc Ty.term a1)] with
  | some ([q], _) => q
  | _ => False
def pf_S_term_S_term_to_b (φ : FV Un) : Term → Term → Bool := fun a0 a1 => match φ [.agg (enc Ty.term a0), .agg (enc Ty.term a1)] with
  | some (_, [.v (.s (.bool b))]) => b
  | _ => false
def fv_S_rel_S_rel_to_b (p : Rel → Rel → Bool) : FV Un := fun args => match args with
  | [x0, x1] => (dS .rel (.d x0)).bind fun a0 => (dS .rel (.d x1)).bind fun a1 => some ([], [.v (cb (p a0 a1))])
  | _ => none
def fvo_S_rel_S_rel_to_b (o : Rel → Rel → Prop) (p : Rel → Rel → Bool) : FV Un := fun args => match args with
  | [x0, x1] => (dS .rel (.d x0)).bind fun a0 => (dS .rel (.d x1)).bind fun a1 => some ([o a0 a1], [.v (cb (p a0 a1))])
  | _ => none
def po_S_rel_S_rel_to_b (φ : FV Un) : Rel → Rel → Prop := fun a0 a1 => match φ [.agg (enc Ty.rel a0), .agg (enc Ty.rel a1)] with
  | some ([q], _) => q
  | _ => False
def pf_S_rel_S_rel_to_b (φ : FV Un) : Rel → Rel → Bool := fun a0 a1 => match φ [.agg (enc Ty.rel a0), .agg (enc Ty.rel a1)] with
  | some (_, [.v (.s (.bool b))]) => b
  | _ => false
def fv_S_agg_S_agg_to_b (p : Agg → Agg → Bool) : FV Un := fun args => match args with
  | [x0, x1] => (dS .agg (.d x0)).bind fun a0 => (dS .agg (.d x1)).bind fun a1 => some ([], [.v (cb (p a0 a1))])
  | _ => none
def fvo_S_agg_S_agg_to_b (o : Agg → Agg → Prop) (p : Agg → Agg → Bool) : FV Un := fun args => match args with
  | [x0, x1] => (dS .agg (.d x0)).bind fun a0 => (dS .agg (.d x1)).bind fun a1 => some ([o a0 a1], [.v (cb (p a0 a1))])
  | _ => none
def po_S_agg_S_agg_to_b (φ : FV Un) : Agg → Agg → Prop := fun a0 a1 => match φ [.agg (enc Ty.agg a0), .agg (enc Ty.agg a1)] with
  | some ([q], _) => q
  | _ => False
def pf_S_agg_S_agg_to_b (φ : FV Un) : Agg → Agg → Bool := fun a0 a1 => match φ [.agg (enc Ty.agg a0), .agg (enc Ty.agg a1)] with
  | some (_, [.v (.s (.bool b))]) => b
  | _ => false
def fv_i_i32_to_b (p : Int → Bool) : FV Un := fun args => match args with
  | [x0] => (dI .i32 (.d x0)).bind fun a0 => some ([], [.v (cb (p a0))])
  | _ => none
def fvo_i_i32_to_b (o : Int → Prop) (p : Int → Bool) : FV Un := fun args => match args with
  | [x0] => (dI .i32 (.d x0)).bind fun a0 => some ([o a0], [.v (cb (p a0))])
  | _ => none
def po_i_i32_to_b (φ : FV Un) : Int → Prop := fun a0 => match φ [.v (.s (.int .i32 a0))] with
  | some ([q], _) => q
  | _ => False
def pf_i_i32_to_b (φ : FV Un) : Int → Bool := fun a0 => match φ [.v (.s (.int .i32 a0))] with
  | some (_, [.v (.s (.bool b))]) => b
  | _ => false
def fv_S_rel_to_b (p : Rel → Bool) : FV Un := fun args => match args with
  | [x0] => (dS .rel (.d x0)).bind fun a0 => some ([], [.v (cb (p a0))])
  | _ => none
def fvo_S_rel_to_b (o : Rel → Prop) (p : Rel → Bool) : FV Un := fun args => match args with
  | [x0] => (dS .rel (.d x0)).bind fun a0 => some ([o a0], [.v (cb (p a0))])
  | _ => none
def po_S_rel_to_b (φ : FV Un) : Rel → Prop := fun a0 => match φ [.agg (enc Ty.rel a0)] with
  | some ([q], _) => q
  | _ => False
def pf_S_rel_to_b (φ : FV Un) : Rel → Bool := fun a0 => match φ [.agg (enc Ty.rel a0)] with
  | some (_, [.v (.s (.bool b))]) => b
  | _ => false
def fv_S_agg_to_b (p : Agg → Bool) : FV Un := fun args => match args with
  | [x0] => (dS .agg (.d x0)).bind fun a0 => some ([], [.v (cb (p a0))])
  | _ => none
def fvo_S_agg_to_b (o : Agg → Prop) (p : Agg → Bool) : FV Un := fun args => match args with
  | [x0] => (dS .agg (.d x0)).bind fun a0 => some ([o a0], [.v (cb (p a0))])
  | _ => none
def po_S_agg_to_b (φ : FV Un) : Agg → Prop := fun a0 => match φ [.agg (enc Ty.agg a0)] with
  | some ([q], _) => q
  | _ => False
def pf_S_agg_to_b (φ : FV Un) : Agg → Bool := fun a0 => match φ [.agg (enc Ty.agg a0)] with
  | some (_, [.v (.s (.bool b))]) => b
  | _ => false
def fv_S_by__to_b (p : By → Bool) : FV Un := fun args => match args with
  | [x0] => (dS .by_ (.d x0)).bind fun a0 => some ([], [.v (cb (p a0))])
  | _ => none
def fvo_S_by__to_b (o : By → Prop) (p : By → Bool) : FV Un := fun args => match args with
  | [x0] => (dS .by_ (.d x0)).bind fun a0 => some ([o a0], [.v (cb (p a0))])
  | _ => none
def po_S_by__to_b (φ : FV Un) : By → Prop := fun a0 => match φ [.agg (enc Ty.by_ a0)] with
  | some ([q], _) => q
  | _ => False
def pf_S_by__to_b (φ : FV Un) : By → Bool := fun a0 => match φ [.agg (enc Ty.by_ a0)] with
  | some (_, [.v (.s (.bool b))]) => b
  | _ => false
def fv_S_by__S_by__to_b (p : By → By → Bool) : FV Un := fun args => match args with
  | [x0, x1] => (dS .by_ (.d x0)).bind fun a0 => (dS .by_ (.d x1)).bind fun a1 => some ([], [.v (cb (p a0 a1))])
  | _ => none
def fvo_S_by__S_by__to_b (o : By → By → Prop) (p : By → By → Bool) : FV Un := fun args => match args with
  | [x0, x1] => (dS .by_ (.d x0)).bind fun a0 => (dS .by_ (.d x1)).bind fun a1 => some ([o a0 a1], [.v (cb (p a0 a1))])
  | _ => none
def po_S_by__S_by__to_b (φ : FV Un) : By → By → Prop := fun a0 a1 => match φ [.agg (enc Ty.by_ a0), .agg (enc Ty.by_ a1)] with
  | some ([q], _) => q
  | _ => False
def pf_S_by__S_by__to_b (φ : FV Un) : By → By → Bool := fun a0 a1 => match φ [.agg (enc Ty.by_ a0), .agg (enc Ty.by_ a1)] with
  | some (_, [.v (.s (.bool b))]) => b
  | _ => false
def fv_S_col_S_col_to_b (p : Col → Col → Bool) : FV Un := fun args => match args with
  | [x0, x1] => (dS .col (.d x0)).bind fun a0 => (dS .col (.d x1)).bind fun a1 => some ([], [.v (cb (p a0 a1))])
  | _ => none
def fvo_S_col_S_col_to_b (o : Col → Col → Prop) (p : Col → Col → Bool) : FV Un := fun args => match args with
  | [x0, x1] => (dS .col (.d x0)).bind fun a0 => (dS .col (.d x1)).bind fun a1 => some ([o a0 a1], [.v (cb (p a0 a1))])
  | _ => none
def po_S_col_S_col_to_b (φ : FV Un) : Col → Col → Prop := fun a0 a1 => match φ [.agg (enc Ty.col a0), .agg (enc Ty.col a1)] with
  | some ([q], _) => q
  | _ => False
def pf_S_col_S_col_to_b (φ : FV Un) : Col → Col → Bool := fun a0 a1 => match φ [.agg (enc Ty.col a0), .agg (enc Ty.col a1)] with
  | some (_, [.v (.s (.bool b))]) => b
  | _ => false
def fv_L_val_to_b (p : (List Val) → Bool) : FV Un := fun args => match args with
  | [x0] => (dL .val (.d x0)).bind fun a0 => some ([], [.v (cb (p a0))])
  | _ => none
def fvo_L_val_to_b (o : (List Val) → Prop) (p : (List Val) → Bool) : FV Un := fun args => match args with
  | [x0] => (dL .val (.d x0)).bind fun a0 => some ([o a0], [.v (cb (p a0))])
  | _ => none
def po_L_val_to_b (φ : FV Un) : (List Val) → Prop := fun a0 => match φ [.v (.dat (U := Un) Ty.val a0)] with
  | some ([q], _) => q
  | _ => False
def pf_L_val_to_b (φ : FV Un) : (List Val) → Bool := fun a0 => match φ [.v (.dat (U := Un) Ty.val a0)] with
  | some (_, [.v (.s (.bool b))]) => b
  | _ => false
def fv_S_term_i_i64_to_b (p : Term → Int → Bool) : FV Un := fun args => match args with
  | [x0, x1] => (dS .term (.d x0)).bind fun a0 => (dI .i64 (.d x1)).bind fun a1 => some ([], [.v (cb (p a0 a1))])
  | _ => none
def fvo_S_term_i_i64_to_b (o : Term → Int → Prop) (p : Term → Int → Bool) : FV Un := fun args => match args with
  | [x0, x1] => (dS .term (.d x0)).bind fun a0 => (dI .i64 (.d x1)).bind fun a1 => some ([o a0 a1], [.v (cb (p a0 a1))])
  | _ => none
def po_S_term_i_i64_to_b (φ : FV Un) : Term → Int → Prop := fun a0 a1 => match φ [.agg (enc Ty.term a0), .v (.s (.int .i64 a1))] with
  | some ([q], _) => q
  | _ => False
def pf_S_term_i_i64_to_b (φ : FV Un) : Term → Int → Bool := fun a0 a1 => match φ [.agg (enc Ty.term a0), .v (.s (.int .i64 a1))] with
  | some (_, [.v (.s (.bool b))]) => b
  | _ => false
def fv_S_term_to_i_i64 (p : Term → Int) : FV Un := fun args => match args with
  | [x0] => (dS .term (.d x0)).bind fun a0 => some ([], [.v (.s (.int .i64 (p a0)))])
  | _ => none
def fvo_S_term_to_i_i64 (o : Term → Prop) (p : Term → Int) : FV Un := fun args => match args with
  | [x0] => (dS .term (.d x0)).bind fun a0 => some ([o a0], [.v (.s (.int .i64 (p a0)))])
  | _ => none
def po_S_term_to_i_i64 (φ : FV Un) : Term → Prop := fun a0 => match φ [.agg (enc Ty.term a0)] with
  | some ([q], _) => q
  | _ => False
def pf_S_term_to_i_i64 (φ : FV Un) : Term → Int := fun a0 => match φ [.agg (enc Ty.term a0)] with
  | some (_, [.v (.s (.int _ b))]) => b
  | _ => 0
def fv_S_rel_to_i_i64 (p : Rel → Int) : FV Un := fun args => match args with
  | [x0] => (dS .rel (.d x0)).bind fun a0 => some ([], [.v (.s (.int .i64 (p a0)))])
  | _ => none
def fvo_S_rel_to_i_i64 (o : Rel → Prop) (p : Rel → Int) : FV Un := fun args => match args with
  | [x0] => (dS .rel (.d x0)).bind fun a0 => some ([o a0], [.v (.s (.int .i64 (p a0)))])
  | _ => none
def po_S_rel_to_i_i64 (φ : FV Un) : Rel → Prop := fun a0 => match φ [.agg (enc Ty.rel a0)] with
  | some ([q], _) => q
  | _ => False
def pf_S_rel_to_i_i64 (φ : FV Un) : Rel → Int := fun a0 => match φ [.agg (enc Ty.rel a0)] with
  | some (_, [.v (.s (.int _ b))]) => b
  | _ => 0
def fv_L_val_to_i_i64 (p : (List Val) → Int) : FV Un := fun args => match args with
  | [x0] => (dL .val (.d x0)).bind fun a0 => some ([], [.v (.s (.int .i64 (p a0)))])
  | _ => none
def fvo_L_val_to_i_i64 (o : (List Val) → Prop) (p : (List Val) → Int) : FV Un := fun args => match args with
  | [x0] => (dL .val (.d x0)).bind fun a0 => some ([o a0], [.v (.s (.int .i64 (p a0)))])
  | _ => none
def po_L_val_to_i_i64 (φ : FV Un) : (List Val) → Prop := fun a0 => match φ [.v (.dat (U := Un) Ty.val a0)] with
  | some ([q], _) => q
  | _ => False
def pf_L_val_to_i_i64 (φ : FV Un) : (List Val) → Int := fun a0 => match φ [.v (.dat (U := Un) Ty.val a0)] with
  | some (_, [.v (.s (.int _ b))]) => b
  | _ => 0
/-! ### end of signatures -/
theorem dI_eq {k : IntKind} {a : D Un} {n : Int} (h : dI k a = some n) : a = .d (.v (.s (.int k n))) := by
  unfold dI at h; split at h
  · split at h
    · rename_i hh _; subst hh; simp at h; subst h; rfl
    · simp at h
  · simp at h
theorem dB_eq {a : D Un} {n : Bool} (h : dB a = some n) : a = .d (.v (cb n)) := by
  unfold dB at h; split at h
  · simp at h; subst h; rfl
  · simp at h
theorem dStr_eq {a : D Un} {n : ByteArray} (h : dStr a = some n) : a = .d (.v (cs n)) := by
  unfold dStr at h; split at h
  · simp at h; subst h; rfl
  · simp at h
theorem dL_eq {τ : Ty} {a : D Un} {l : List (Den τ)} (h : dL τ a = some l) : a = .d (.v (.dat (U := Un) τ l)) := by
  unfold dL at h; split at h
  · split at h
    · rename_i hh _; subst hh; simp at h; subst h; rfl
    · simp at h
  · simp at h
theorem dS_eq {τ : Ty} {a : D Un} {x : Den τ} (h : dS τ a = some x) : a = .d (.agg (enc τ x)) := by
  unfold dS at h; split at h
  · rw [enc_back _ _ _ h]
  · simp at h
theorem dF_eq {a : D Un} {φ : FV Un} (h : dF a = some φ) : a = .fn φ := by
  unfold dF at h; split at h
  · simp at h; subst h; rfl
  · simp at h
theorem dI_mk (k : IntKind) (n : Int) : dI k (.d (.v (.s (.int k n)))) = some n := by
  unfold dI; dsimp only; split
  · rfl
  · rename_i h _; exact absurd rfl h
theorem dB_mk (b : Bool) : dB (.d (.v (cb b))) = some b := rfl
theorem dStr_mk (b : ByteArray) : dStr (.d (.v (cs b))) = some b := rfl
theorem dL_mk (τ : Ty) (l : List (Den τ)) : dL τ (.d (.v (.dat (U := Un) τ l))) = some l := by
  unfold dL; dsimp only; split
  · rfl
  · rename_i h _; exact absurd rfl h
/-! ### readers of signatures -/
theorem dec_enc : ∀ (τ : Ty) (x : Den τ), dec τ (enc τ x) = some x := by
  intro τ x
  cases τ <;> first | rfl | (cases x; rfl)
theorem dSk_mk (τ : Ty) (x : Den τ) : dS τ (.d (.agg (enc τ x))) = some x := dec_enc τ x
theorem pfv_i_i64_to_b (p : Int → Bool) : pf_i_i64_to_b (fv_i_i64_to_b p) = p := by
  funext a0
  unfold pf_i_i64_to_b fv_i_i64_to_b
  simp only [dI_mk, Option.bind_some] <;> rfl
theorem pfv_S_val_to_b (p : Val → Bool) : pf_S_val_to_b (fv_S_val_to_b p) = p := by
  funext a0
  unfold pf_S_val_to_b fv_S_val_to_b
  simp only [dSk_mk, Option.bind_some] <;> rfl
theorem pfv_S_val_S_val_to_i_i64 (p : Val → Val → Int) : pf_S_val_S_val_to_i_i64 (fv_S_val_S_val_to_i_i64 p) = p := by
  funext a0 a1
  unfold pf_S_val_S_val_to_i_i64 fv_S_val_S_val_to_i_i64
  simp only [dSk_mk, Option.bind_some] <;> rfl
theorem pfv_L_val_L_val_to_i_i64 (p : (List Val) → (List Val) → Int) : pf_L_val_L_val_to_i_i64 (fv_L_val_L_val_to_i_i64 p) = p := by
  funext a0 a1
  unfold pf_L_val_L_val_to_i_i64 fv_L_val_L_val_to_i_i64
  simp only [dL_mk, Option.bind_some] <;> rfl
theorem pfv_L_val_L_val_to_b (p : (List Val) → (List Val) → Bool) : pf_L_val_L_val_to_b (fv_L_val_L_val_to_b p) = p := by
  funext a0 a1
  unfold pf_L_val_L_val_to_b fv_L_val_L_val_to_b
  simp only [dL_mk, Option.bind_some] <;> rfl
theorem pfv_i_i64_to_i_i64 (p : Int → Int) : pf_i_i64_to_i_i64 (fv_i_i64_to_i_i64 p) = p := by
  funext a0
  unfold pf_i_i64_to_i_i64 fv_i_i64_to_i_i64
  simp only [dI_mk, Option.bind_some] <;> rfl
theorem pfv_S_term_to_b (p : Term → Bool) : pf_S_term_to_b (fv_S_term_to_b p) = p := by
  funext a0
  unfold pf_S_term_to_b fv_S_term_to_b
  simp only [dSk_mk, Option.bind_some] <;> rfl
theorem pfv_i_i64_i_i64_to_i_i64 (p : Int → Int → Int) : pf_i_i64_i_i64_to_i_i64 (fv_i_i64_i_i64_to_i_i64 p) = p := by
  funext a0 a1
  unfold pf_i_i64_i_i64_to_i_i64 fv_i_i64_i_i64_to_i_i64
  simp only [dI_mk, Option.bind_some] <;> rfl
theorem pfv_s_to_b (p : ByteArray → Bool) : pf_s_to_b (fv_s_to_b p) = p := by
  funext a0
  unfold pf_s_to_b fv_s_to_b
  simp only [dStr_mk, Option.bind_some] <;> rfl
theorem pfv_S_col_to_b (p : Col → Bool) : pf_S_col_to_b (fv_S_col_to_b p) = p := by
  funext a0
  unfold pf_S_col_to_b fv_S_col_to_b
  simp only [dSk_mk, Option.bind_some] <;> rfl
theorem pfv_S_term_i_i64_to_S_term (p : Term → Int → Term) : pf_S_term_i_i64_to_S_term (fv_S_term_i_i64_to_S_term p) = p := by
  funext a0 a1
  unfold pf_S_term_i_i64_to_S_term fv_S_term_i_i64_to_S_term
  simp only [dI_mk, dSk_mk, Option.bind_some, dec_enc, Option.getD_some] <;> rfl
theorem pfv_S_term_S_term_to_b (p : Term → Term → Bool) : pf_S_term_S_term_to_b (fv_S_term_S_term_to_b p) = p := by
  funext a0 a1
  unfold pf_S_term_S_term_to_b fv_S_term_S_term_to_b
  simp only [dSk_mk, Option.bind_some] <;> rfl
theorem pfv_S_rel_S_rel_to_b (p : Rel → Rel → Bool) : pf_S_rel_S_rel_to_b (fv_S_rel_S_rel_to_b p) = p := by
  funext a0 a1
  unfold pf_S_rel_S_rel_to_b fv_S_rel_S_rel_to_b
  simp only [dSk_mk, Option.bind_some] <;> rfl
theorem pfv_S_agg_S_agg_to_b (p : Agg → Agg → Bool) : pf_S_agg_S_agg_to_b (fv_S_agg_S_agg_to_b p) = p := by
  funext a0 a1
  unfold pf_S_agg_S_agg_to_b fv_S_agg_S_agg_to_b
  simp only [dSk_mk, Option.bind_some] <;> rfl
theorem pfv_i_i32_to_b (p : Int → Bool) : pf_i_i32_to_b (fv_i_i32_to_b p) = p := by
  funext a0
  unfold pf_i_i32_to_b fv_i_i32_to_b
  simp only [dI_mk, Option.bind_some] <;> rfl
theorem pfv_S_rel_to_b (p : Rel → Bool) : pf_S_rel_to_b (fv_S_rel_to_b p) = p := by
  funext a0
  unfold pf_S_rel_to_b fv_S_rel_to_b
  simp only [dSk_mk, Option.bind_some] <;> rfl
theorem pfv_S_agg_to_b (p : Agg → Bool) : pf_S_agg_to_b (fv_S_agg_to_b p) = p := by
  funext a0
  unfold pf_S_agg_to_b fv_S_agg_to_b
  simp only [dSk_mk, Option.bind_some] <;> rfl
theorem pfv_S_by__to_b (p : By → Bool) : pf_S_by__to_b (fv_S_by__to_b p) = p := by
  funext a0
  unfold pf_S_by__to_b fv_S_by__to_b
  simp only [dSk_mk, Option.bind_some] <;> rfl
theorem pfv_S_by__S_by__to_b (p : By → By → Bool) : pf_S_by__S_by__to_b (fv_S_by__S_by__to_b p) = p := by
  funext a0 a1
  unfold pf_S_by__S_by__to_b fv_S_by__S_by__to_b
  simp only [dSk_mk, Option.bind_some] <;> rfl
theorem pfv_S_col_S_col_to_b (p : Col → Col → Bool) : pf_S_col_S_col_to_b (fv_S_col_S_col_to_b p) = p := by
  funext a0 a1
  unfold pf_S_col_S_col_to_b fv_S_col_S_col_to_b
  simp only [dSk_mk, Option.bind_some] <;> rfl
theorem pfv_L_val_to_b (p : (List Val) → Bool) : pf_L_val_to_b (fv_L_val_to_b p) = p := by
  funext a0
  unfold pf_L_val_to_b fv_L_val_to_b
  simp only [dL_mk, Option.bind_some] <;> rfl
theorem pfv_S_term_i_i64_to_b (p : Term → Int → Bool) : pf_S_term_i_i64_to_b (fv_S_term_i_i64_to_b p) = p := by
  funext a0 a1
  unfold pf_S_term_i_i64_to_b fv_S_term_i_i64_to_b
  simp only [dI_mk, dSk_mk, Option.bind_some] <;> rfl
theorem pfv_S_term_to_i_i64 (p : Term → Int) : pf_S_term_to_i_i64 (fv_S_term_to_i_i64 p) = p := by
  funext a0
  unfold pf_S_term_to_i_i64 fv_S_term_to_i_i64
  simp only [dSk_mk, Option.bind_some] <;> rfl
theorem pfv_S_rel_to_i_i64 (p : Rel → Int) : pf_S_rel_to_i_i64 (fv_S_rel_to_i_i64 p) = p := by
  funext a0
  unfold pf_S_rel_to_i_i64 fv_S_rel_to_i_i64
  simp only [dSk_mk, Option.bind_some] <;> rfl
theorem pfv_L_val_to_i_i64 (p : (List Val) → Int) : pf_L_val_to_i_i64 (fv_L_val_to_i_i64 p) = p := by
  funext a0
  unfold pf_L_val_to_i_i64 fv_L_val_to_i_i64
  simp only [dL_mk, Option.bind_some] <;> rfl
theorem pffvo_i_i64_to_b (o : Int → Prop) (p : Int → Bool) : pf_i_i64_to_b (fvo_i_i64_to_b o p) = p := by
  funext a0
  unfold pf_i_i64_to_b fvo_i_i64_to_b
  simp only [dI_mk, Option.bind_some] <;> rfl
theorem pofvo_i_i64_to_b (o : Int → Prop) (p : Int → Bool) : po_i_i64_to_b (fvo_i_i64_to_b o p) = o := by
  funext a0
  unfold po_i_i64_to_b fvo_i_i64_to_b
  simp only [dI_mk, Option.bind_some] <;> rfl
theorem pffvo_S_val_to_b (o : Val → Prop) (p : Val → Bool) : pf_S_val_to_b (fvo_S_val_to_b o p) = p := by
  funext a0
  unfold pf_S_val_to_b fvo_S_val_to_b
  simp only [dSk_mk, Option.bind_some] <;> rfl
theorem pofvo_S_val_to_b (o : Val → Prop) (p : Val → Bool) : po_S_val_to_b (fvo_S_val_to_b o p) = o := by
  funext a0
  unfold po_S_val_to_b fvo_S_val_to_b
  simp only [dSk_mk, Option.bind_some] <;> rfl
theorem pffvo_S_val_S_val_to_i_i64 (o : Val → Val → Prop) (p : Val → Val → Int) : pf_S_val_S_val_to_i_i64 (fvo_S_val_S_val_to_i_i64 o p) = p := by
  funext a0 a1
  unfold pf_S_val_S_val_to_i_i64 fvo_S_val_S_val_to_i_i64
  simp only [dSk_mk, Option.bind_some] <;> rfl
theorem pofvo_S_val_S_val_to_i_i64 (o : Val → Val → Prop) (p : Val → Val → Int) : po_S_val_S_val_to_i_i64 (fvo_S_val_S_val_to_i_i64 o p) = o := by
  funext a0 a1
  unfold po_S_val_S_val_to_i_i64 fvo_S_val_S_val_to_i_i64
  simp only [dSk_mk, Option.bind_some] <;> rfl
theorem pffvo_L_val_L_val_to_i_i64 (o : (List Val) → (List Val) → Prop) (p : (List Val) → (List Val) → Int) : pf_L_val_L_val_to_i_i64 (fvo_L_val_L_val_to_i_i64 o p) = p := by
  funext a0 a1
  unfold pf_L_val_L_val_to_i_i64 fvo_L_val_L_val_to_i_i64
  simp only [dL_mk, Option.bind_some] <;> rfl
theorem pofvo_L_val_L_val_to_i_i64 (o : (List Val) → (List Val) → Prop) (p : (List Val) → (List Val) → Int) : po_L_val_L_val_to_i_i64 (fvo_L_val_L_val_to_i_i64 o p) = o := by
  funext a0 a1
  unfold po_L_val_L_val_to_i_i64 fvo_L_val_L_val_to_i_i64
  simp only [dL_mk, Option.bind_some] <;> rfl
theorem pffvo_L_val_L_val_to_b (o : (List Val) → (List Val) → Prop) (p : (List Val) → (List Val) → Bool) : pf_L_val_L_val_to_b (fvo_L_val_L_val_to_b o p) = p := by
  funext a0 a1
  unfold pf_L_val_L_val_to_b fvo_L_val_L_val_to_b
  simp only [dL_mk, Option.bind_some] <;> rfl
theorem pofvo_L_val_L_val_to_b (o : (List Val) → (List Val) → Prop) (p : (List Val) → (List Val) → Bool) : po_L_val_L_val_to_b (fvo_L_val_L_val_to_b o p) = o := by
  funext a0 a1
  unfold po_L_val_L_val_to_b fvo_L_val_L_val_to_b
  simp only [dL_mk, Option.bind_some] <;> rfl
theorem pffvo_i_i64_to_i_i64 (o : Int → Prop) (p : Int → Int) : pf_i_i64_to_i_i64 (fvo_i_i64_to_i_i64 o p) = p := by
  funext a0
  unfold pf_i_i64_to_i_i64 fvo_i_i64_to_i_i64
  simp only [dI_mk, Option.bind_some] <;> rfl
theorem pofvo_i_i64_to_i_i64 (o : Int → Prop) (p : Int → Int) : po_i_i64_to_i_i64 (fvo_i_i64_to_i_i64 o p) = o := by
  funext a0
  unfold po_i_i64_to_i_i64 fvo_i_i64_to_i_i64
  simp only [dI_mk, Option.bind_some] <;> rfl
theorem pffvo_S_term_to_b (o : Term → Prop) (p : Term → Bool) : pf_S_term_to_b (fvo_S_term_to_b o p) = p := by
  funext a0
  unfold pf_S_term_to_b fvo_S_term_to_b
  simp only [dSk_mk, Option.bind_some] <;> rfl
theorem pofvo_S_term_to_b (o : Term → Prop) (p : Term → Bool) : po_S_term_to_b (fvo_S_term_to_b o p) = o := by
  funext a0
  unfold po_S_term_to_b fvo_S_term_to_b
  simp only [dSk_mk, Option.bind_some] <;> rfl
theorem pffvo_i_i64_i_i64_to_i_i64 (o : Int → Int → Prop) (p : Int → Int → Int) : pf_i_i64_i_i64_to_i_i64 (fvo_i_i64_i_i64_to_i_i64 o p) = p := by
  funext a0 a1
  unfold pf_i_i64_i_i64_to_i_i64 fvo_i_i64_i_i64_to_i_i64
  simp only [dI_mk, Option.bind_some] <;> rfl
theorem pofvo_i_i64_i_i64_to_i_i64 (o : Int → Int → Prop) (p : Int → Int → Int) : po_i_i64_i_i64_to_i_i64 (fvo_i_i64_i_i64_to_i_i64 o p) = o := by
  funext a0 a1
  unfold po_i_i64_i_i64_to_i_i64 fvo_i_i64_i_i64_to_i_i64
  simp only [dI_mk, Option.bind_some] <;> rfl
theorem pffvo_s_to_b (o : ByteArray → Prop) (p : ByteArray → Bool) : pf_s_to_b (fvo_s_to_b o p) = p := by
  funext a0
  unfold pf_s_to_b fvo_s_to_b
  simp only [dStr_mk, Option.bind_some] <;> rfl
theorem pofvo_s_to_b (o : ByteArray → Prop) (p : ByteArray → Bool) : po_s_to_b (fvo_s_to_b o p) = o := by
  funext a0
  unfold po_s_to_b fvo_s_to_b
  simp only [dStr_mk, Option.bind_some] <;> rfl
theorem pffvo_S_col_to_b (o : Col → Prop) (p : Col → Bool) : pf_S_col_to_b (fvo_S_col_to_b o p) = p := by
  funext a0
  unfold pf_S_col_to_b fvo_S_col_to_b
  simp only [dSk_mk, Option.bind_some] <;> rfl
theorem pofvo_S_col_to_b (o : Col → Prop) (p : Col → Bool) : po_S_col_to_b (fvo_S_col_to_b o p) = o := by
  funext a0
  unfold po_S_col_to_b fvo_S_col_to_b
  simp only [dSk_mk, Option.bind_some] <;> rfl
theorem pffvo_S_term_i_i64_to_S_term (o : Term → Int → Prop) (p : Term → Int → Term) : pf_S_term_i_i64_to_S_term (fvo_S_term_i_i64_to_S_term o p) = p := by
  funext a0 a1
  unfold pf_S_term_i_i64_to_S_term fvo_S_term_i_i64_to_S_term
  simp only [dI_mk, dSk_mk, Option.bind_some, dec_enc, Option.getD_some] <;> rfl
theorem pofvo_S_term_i_i64_to_S_term (o : Term → Int → Prop) (p : Term → Int → Term) : po_S_term_i_i64_to_S_term (fvo_S_term_i_i64_to_S_term o p) = o := by
  funext a0 a1
  unfold po_S_term_i_i64_to_S_term fvo_S_term_i_i64_to_S_term
  simp only [dI_mk, dSk_mk, Option.bind_some] <;> rfl
theorem pffvo_S_term_S_term_to_b (o : Term → Term → Prop) (p : Term → Term → Bool) : pf_S_term_S_term_to_b (fvo_S_term_S_term_to_b o p) = p := by
  funext a0 a1
  unfold pf_S_term_S_term_to_b fvo_S_term_S_term_to_b
  simp only [dSk_mk, Option.bind_some] <;> rfl
theorem pofvo_S_term_S_term_to_b (o : Term → Term → Prop) (p : Term → Term → Bool) : po_S_term_S_term_to_b (fvo_S_term_S_term_to_b o p) = o := by
  funext a0 a1
  unfold po_S_term_S_term_to_b fvo_S_term_S_term_to_b
  simp only [dSk_mk, Option.bind_some] <;> rfl
theorem pffvo_S_rel_S_rel_to_b (o : Rel → Rel → Prop) (p : Rel → Rel → Bool) : pf_S_rel_S_rel_to_b (fvo_S_rel_S_rel_to_b o p) = p := by
  funext a0 a1
  unfold pf_S_rel_S_rel_to_b fvo_S_rel_S_rel_to_b
  simp only [dSk_mk, Option.bind_some] <;> rfl
theorem pofvo_S_rel_S_rel_to_b (o : Rel → Rel → Prop) (p : Rel → Rel → Bool) : po_S_rel_S_rel_to_b (fvo_S_rel_S_rel_to_b o p) = o := by
  funext a0 a1
  unfold po_S_rel_S_rel_to_b fvo_S_rel_S_rel_to_b
  simp only [dSk_mk, Option.bind_some] <;> rfl
theorem pffvo_S_agg_S_agg_to_b (o : Agg → Agg → Prop) (p : Agg → Agg → Bool) : pf_S_agg_S_agg_to_b (fvo_S_agg_S_agg_to_b o p) = p := by
  funext a0 a1
  unfold pf_S_agg_S_agg_to_b fvo_S_agg_S_agg_to_b
  simp only [dSk_mk, Option.bind_some] <;> rfl
theorem pofvo_S_agg_S_agg_to_b (o : Agg → Agg → Prop) (p : Agg → Agg → Bool) : po_S_agg_S_agg_to_b (fvo_S_agg_S_agg_to_b o p) = o := by
  funext a0 a1
  unfold po_S_agg_S_agg_to_b fvo_S_agg_S_agg_to_b
  simp only [dSk_mk, Option.bind_some] <;> rfl
theorem pffvo_i_i32_to_b (o : Int → Prop) (p : Int → Bool) : pf_i_i32_to_b (fvo_i_i32_to_b o p) = p := by
  funext a0
  unfold pf_i_i32_to_b fvo_i_i32_to_b
  simp only [dI_mk, Option.bind_some] <;> rfl
theorem pofvo_i_i32_to_b (o : Int → Prop) (p : Int → Bool) : po_i_i32_to_b (fvo_i_i32_to_b o p) = o := by
  funext a0
  unfold po_i_i32_to_b fvo_i_i32_to_b
  simp only [dI_mk, Option.bind_some] <;> rfl
theorem pffvo_S_rel_to_b (o : Rel → Prop) (p : Rel → Bool) : pf_S_rel_to_b (fvo_S_rel_to_b o p) = p := by
  funext a0
  unfold pf_S_rel_to_b fvo_S_rel_to_b
  simp only [dSk_mk, Option.bind_some] <;> rfl
theorem pofvo_S_rel_to_b (o : Rel → Prop) (p : Rel → Bool) : po_S_rel_to_b (fvo_S_rel_to_b o p) = o := by
  funext a0
  unfold po_S_rel_to_b fvo_S_rel_to_b
  simp only [dSk_mk, Option.bind_some] <;> rfl
theorem pffvo_S_agg_to_b (o : Agg → Prop) (p : Agg → Bool) : pf_S_agg_to_b (fvo_S_agg_to_b o p) = p := by
  funext a0
  unfold pf_S_agg_to_b fvo_S_agg_to_b
  simp only [dSk_mk, Option.bind_some] <;> rfl
theorem pofvo_S_agg_to_b (o : Agg → Prop) (p : Agg → Bool) : po_S_agg_to_b (fvo_S_agg_to_b o p) = o := by
  funext a0
  unfold po_S_agg_to_b fvo_S_agg_to_b
  simp only [dSk_mk, Option.bind_some] <;> rfl
theorem pffvo_S_by__to_b (o : By → Prop) (p : By → Bool) : pf_S_by__to_b (fvo_S_by__to_b o p) = p := by
  funext a0
  unfold pf_S_by__to_b fvo_S_by__to_b
  simp only [dSk_mk, Option.bind_some] <;> rfl
theorem pofvo_S_by__to_b (o : By → Prop) (p : By → Bool) : po_S_by__to_b (fvo_S_by__to_b o p) = o := by
  funext a0
  unfold po_S_by__to_b fvo_S_by__to_b
  simp only [dSk_mk, Option.bind_some] <;> rfl
theorem pffvo_S_by__S_by__to_b (o : By → By → Prop) (p : By → By → Bool) : pf_S_by__S_by__to_b (fvo_S_by__S_by__to_b o p) = p := by
  funext a0 a1
  unfold pf_S_by__S_by__to_b fvo_S_by__S_by__to_b
  simp only [dSk_mk, Option.bind_some] <;> rfl
theorem pofvo_S_by__S_by__to_b (o : By → By → Prop) (p : By → By → Bool) : po_S_by__S_by__to_b (fvo_S_by__S_by__to_b o p) = o := by
  funext a0 a1
  unfold po_S_by__S_by__to_b fvo_S_by__S_by__to_b
  simp only [dSk_mk, Option.bind_some] <;> rfl
theorem pffvo_S_col_S_col_to_b (o : Col → Col → Prop) (p : Col → Col → Bool) : pf_S_col_S_col_to_b (fvo_S_col_S_col_to_b o p) = p := by
  funext a0 a1
  unfold pf_S_col_S_col_to_b fvo_S_col_S_col_to_b
  simp only [dSk_mk, Option.bind_some] <;> rfl
theorem pofvo_S_col_S_col_to_b (o : Col → Col → Prop) (p : Col → Col → Bool) : po_S_col_S_col_to_b (fvo_S_col_S_col_to_b o p) = o := by
  funext a0 a1
  unfold po_S_col_S_col_to_b fvo_S_col_S_col_to_b
  simp only [dSk_mk, Option.bind_some] <;> rfl
theorem pffvo_L_val_to_b (o : (List Val) → Prop) (p : (List Val) → Bool) : pf_L_val_to_b (fvo_L_val_to_b o p) = p := by
  funext a0
  unfold pf_L_val_to_b fvo_L_val_to_b
  simp only [dL_mk, Option.bind_some] <;> rfl
theorem pofvo_L_val_to_b (o : (List Val) → Prop) (p : (List Val) → Bool) : po_L_val_to_b (fvo_L_val_to_b o p) = o := by
  funext a0
  unfold po_L_val_to_b fvo_L_val_to_b
  simp only [dL_mk, Option.bind_some] <;> rfl
theorem pffvo_S_term_i_i64_to_b (o : Term → Int → Prop) (p : Term → Int → Bool) : pf_S_term_i_i64_to_b (fvo_S_term_i_i64_to_b o p) = p := by
  funext a0 a1
  unfold pf_S_term_i_i64_to_b fvo_S_term_i_i64_to_b
  simp only [dI_mk, dSk_mk, Option.bind_some] <;> rfl
theorem pofvo_S_term_i_i64_to_b (o : Term → Int → Prop) (p : Term → Int → Bool) : po_S_term_i_i64_to_b (fvo_S_term_i_i64_to_b o p) = o := by
  funext a0 a1
  unfold po_S_term_i_i64_to_b fvo_S_term_i_i64_to_b
  simp only [dI_mk, dSk_mk, Option.bind_some] <;> rfl
theorem pffvo_S_term_to_i_i64 (o : Term → Prop) (p : Term → Int) : pf_S_term_to_i_i64 (fvo_S_term_to_i_i64 o p) = p := by
  funext a0
  unfold pf_S_term_to_i_i64 fvo_S_term_to_i_i64
  simp only [dSk_mk, Option.bind_some] <;> rfl
theorem pofvo_S_term_to_i_i64 (o : Term → Prop) (p : Term → Int) : po_S_term_to_i_i64 (fvo_S_term_to_i_i64 o p) = o := by
  funext a0
  unfold po_S_term_to_i_i64 fvo_S_term_to_i_i64
  simp only [dSk_mk, Option.bind_some] <;> rfl
theorem pffvo_S_rel_to_i_i64 (o : Rel → Prop) (p : Rel → Int) : pf_S_rel_to_i_i64 (fvo_S_rel_to_i_i64 o p) = p := by
  funext a0
  unfold pf_S_rel_to_i_i64 fvo_S_rel_to_i_i64
  simp only [dSk_mk, Option.bind_some] <;> rfl
theorem pofvo_S_rel_to_i_i64 (o : Rel → Prop) (p : Rel → Int) : po_S_rel_to_i_i64 (fvo_S_rel_to_i_i64 o p) = o := by
  funext a0
  unfold po_S_rel_to_i_i64 fvo_S_rel_to_i_i64
  simp only [dSk_mk, Option.bind_some] <;> rfl
theorem pffvo_L_val_to_i_i64 (o : (List Val) → Prop) (p : (List Val) → Int) : pf_L_val_to_i_i64 (fvo_L_val_to_i_i64 o p) = p := by
  funext a0
  unfold pf_L_val_to_i_i64 fvo_L_val_to_i_i64
  simp only [dL_mk, Option.bind_some] <;> rfl
theorem pofvo_L_val_to_i_i64 (o : (List Val) → Prop) (p : (List Val) → Int) : po_L_val_to_i_i64 (fvo_L_val_to_i_i64 o p) = o := by
  funext a0
  unfold po_L_val_to_i_i64 fvo_L_val_to_i_i64
  simp only [dL_mk, Option.bind_some] <;> rfl
/-! ### end of readers -/
/-- The bounds of an argument. -/
class WArg (a : D Un) (P : outParam Prop) : Prop where
  of : DWf En a → P
instance {k : IntKind} {n : Int} : WArg (.d (.v (.s (.int k n)))) (WK k n) := ⟨fun h => by cases h with | s _ h => exact of_decide_eq_true h⟩
instance {s : ByteArray} : WArg (.d (.v (cs s))) (WStr s) := ⟨fun h => (vwf_cs s).1 h⟩
instance {τ : Ty} {l : List (Den τ)} : WArg (.d (.v (.dat (U := Un) τ l))) (WL τ l) := ⟨fun h => h⟩
instance {τ : Ty} {x : Den τ} : WArg (.d (.agg (enc τ x))) (WS τ x) := ⟨fun h => h⟩
theorem WK_i64 {n : Int} : WK .i64 n ↔ WI n := Iff.rfl
theorem wfArg {args : List (D Un)} (h : ∀ a ∈ args, DWf En a) {a : D Un} {P : Prop} [w : WArg a P] (ha : a ∈ args) : P := w.of (h a ha)

theorem wfArr {args : List (D Un)} (h : ∀ a ∈ args, DWf En a) {cs : List (V Un)} (ha : (.d (.agg cs) : D Un) ∈ args) {k : IntKind} {n : Int} (hc : (.s (.int k n) : V Un) ∈ cs) : WK k n := by
  have h0 : ∀ c ∈ cs, VWf En c := h _ ha
  have := h0 _ hc
  cases this with | s _ h => exact of_decide_eq_true h
noncomputable instance : DecidableEq (FV Un) := fun _ _ => Classical.propDecidable _
/-! ### readers of what a closure has captured -/
def bI (k : IntKind) : List (DC Un) → Option Int
  | [.v (.s (.int k' n))] => match decEq k' k with | .isTrue _ => some n | .isFalse _ => none
  | _ => none
def bB : List (DC Un) → Option Bool
  | [.v (.s (.bool b))] => some b
  | _ => none
def bStr : List (DC Un) → Option ByteArray
  | [.v (.s (.string b))] => some b
  | _ => none
def bL (τ : Ty) : List (DC Un) → Option (List (Den τ))
  | [.v (.dat τ' xs)] => match instDecidableEqTy τ' τ with | .isTrue h => some (h ▸ xs) | .isFalse _ => none
  | _ => none
def bVs : List (DC Un) → Option (List (V Un))
  | [] => some []
  | .v x :: r => match bVs r with | some l => some (x :: l) | none => none
  | _ => none
def bS (τ : Ty) (cs : List (DC Un)) : Option (Den τ) := (bVs cs).bind (dec τ)
def bF : List (DC Un) → Option (FV Un)
  | [.fn φ] => some φ
  | _ => none
theorem bI_eq {k : IntKind} {a : List (DC Un)} {n : Int} (h : bI k a = some n) : a = [.v (.s (.int k n))] := by
  unfold bI at h; split at h
  · split at h
    · rename_i hh _; subst hh; simp at h; subst h; rfl
    · simp at h
  · simp at h
theorem bB_eq {a : List (DC Un)} {n : Bool} (h : bB a = some n) : a = [.v (cb n)] := by
  unfold bB at h; split at h
  · simp at h; subst h; rfl
  · simp at h
theorem bStr_eq {a : List (DC Un)} {n : ByteArray} (h : bStr a = some n) : a = [.v (cs n)] := by
  unfold bStr at h; split at h
  · simp at h; subst h; rfl
  · simp at h
theorem bL_eq {τ : Ty} {a : List (DC Un)} {l : List (Den τ)} (h : bL τ a = some l) : a = [.v (.dat (U := Un) τ l)] := by
  unfold bL at h; split at h
  · split at h
    · rename_i hh _; subst hh; simp at h; subst h; rfl
    · simp at h
  · simp at h
theorem bVs_eq : ∀ {cs : List (DC Un)} {vs : List (V Un)}, bVs cs = some vs → cs = vs.map .v
  | [], vs, h => by simp [bVs] at h; subst h; rfl
  | .v x :: r, vs, h => by
    simp only [bVs] at h
    split at h
    · rename_i l hl; simp at h; subst h; rw [bVs_eq hl]; rfl
    · simp at h
  | .fn _ :: _, vs, h => by simp [bVs] at h
theorem bS_eq {τ : Ty} {a : List (DC Un)} {x : Den τ} (h : bS τ a = some x) : a = (enc τ x).map .v := by
  unfold bS at h
  rw [Option.bind_eq_some_iff] at h
  obtain ⟨vs, h1, h2⟩ := h
  rw [bVs_eq h1, enc_back _ _ _ h2]
theorem bF_eq {a : List (DC Un)} {φ : FV Un} (h : bF a = some φ) : a = [.fn φ] := by
  unfold bF at h; split at h
  · simp at h; subst h; rfl
  · simp at h
instance {k : IntKind} {n : Int} : WArg (.box [.v (.s (.int k n))]) (WK k n) := ⟨fun h => by cases h _ (by simp : DC.v (.s (.int k n)) ∈ _) with | s _ h => exact of_decide_eq_true h⟩
instance {s : ByteArray} : WArg (.box [.v (cs s)]) (WStr s) := ⟨fun h => (vwf_cs s).1 (h _ (by simp : DC.v (cs s) ∈ _))⟩
instance {τ : Ty} {l : List (Den τ)} : WArg (.box [.v (.dat (U := Un) τ l)]) (WL τ l) := ⟨fun h => h _ (by simp : DC.v (V.dat (U := Un) τ l) ∈ _)⟩
instance {τ : Ty} {x : Den τ} : WArg (.box ((enc τ x).map .v)) (WS τ x) := ⟨fun h d hd => h _ (List.mem_map_of_mem hd : DC.v d ∈ _)⟩

/-! ### readers of what is handed over: arguments, cells, objects -/
def aI (k : IntKind) : A Un → Option Int
  | .c (.s (.int k' n)) => match decEq k' k with | .isTrue _ => some n | .isFalse _ => none
  | _ => none
def aB : A Un → Option Bool
  | .c (.s (.bool b)) => some b
  | _ => none
def aStr : A Un → Option ByteArray
  | .c (.s (.string b)) => some b
  | _ => none
def aL (τ : Ty) : A Un → Option (List (Den τ))
  | .c (.sl τ' xs false) => match instDecidableEqTy τ' τ with | .isTrue h => some (h ▸ xs) | .isFalse _ => none
  | _ => none
def cV0 : C Un → Option (V Un)
  | .s x => some (.s x)
  | .sl τ xs false => some (.dat τ xs)
  | _ => none
def cVs : List (C Un) → Option (List (V Un))
  | [] => some []
  | c :: cs => match cV0 c, cVs cs with | some v, some vs => some (v :: vs) | _, _ => none
def aS (τ : Ty) : A Un → Option (Den τ)
  | .agg cs => (cVs cs).bind (dec τ)
  | _ => none
def aF : A Un → Option (FV Un)
  | .c (.fv φ) => some φ
  | _ => none
/-- An object of a kind. -/
def oL (τ : Ty) (o : Ob Un) : Option (List (Den τ)) :=
  match Nat.beq o.ver 0, o.live with
  | true, true => match instDecidableEqTy o.τ τ with | .isTrue h => some (h ▸ o.xs) | .isFalse _ => none
  | _, _ => none
def oM (τ : Ty) (o : Ob Un) : Option (List (Den τ)) :=
  match o.fr with
  | some 0 => oL τ o
  | _ => none
theorem aI_eq {k : IntKind} {a : A Un} {n : Int} (h : aI k a = some n) : a = .c (.s (.int k n)) := by
  unfold aI at h; split at h
  · split at h
    · rename_i hh _; subst hh; simp at h; subst h; rfl
    · simp at h
  · simp at h
theorem aB_eq {a : A Un} {n : Bool} (h : aB a = some n) : a = .c (.s (.bool n)) := by
  unfold aB at h; split at h
  · simp at h; subst h; rfl
  · simp at h
theorem aStr_eq {a : A Un} {n : ByteArray} (h : aStr a = some n) : a = .c (.s (.string n)) := by
  unfold aStr at h; split at h
  · simp at h; subst h; rfl
  · simp at h
theorem aL_eq {τ : Ty} {a : A Un} {l : List (Den τ)} (h : aL τ a = some l) : a = .c (.sl (U := Un) τ l false) := by
  unfold aL at h; split at h
  · split at h
    · rename_i hh _; subst hh; simp at h; subst h; rfl
    · simp at h
  · simp at h
theorem cVs_eq : ∀ {cs : List (C Un)} {vs : List (V Un)}, cVs cs = some vs → cs = vs.map C.ofV
  | [], vs, h => by simp [cVs] at h; subst h; rfl
  | c :: cs, vs, h => by
    simp only [cVs] at h
    split at h
    · rename_i v r h1 h2
      simp at h; subst h
      rw [cVs_eq h2]
      unfold cV0 at h1
      split at h1
      · simp at h1; subst h1; rfl
      · simp at h1; subst h1; rfl
      · simp at h1
    · simp at h
theorem aS_eq {τ : Ty} {a : A Un} {x : Den τ} (h : aS τ a = some x) : a = .agg (encC τ x) := by
  unfold aS at h; split at h
  · rw [Option.bind_eq_some_iff] at h
    obtain ⟨vs, h1, h2⟩ := h
    rw [cVs_eq h1, encC, enc_back _ _ _ h2]
  · simp at h
theorem aF_eq {a : A Un} {φ : FV Un} (h : aF a = some φ) : a = .c (.fv φ) := by
  unfold aF at h; split at h
  · simp at h; subst h; rfl
  · simp at h
theorem oL_eq {τ : Ty} {o : Ob Un} {l : List (Den τ)} (h : oL τ o = some l) : o = ⟨0, τ, l, o.fr, true⟩ := by
  obtain ⟨ver, τ', xs, fr, live⟩ := o
  cases hv : Nat.beq ver 0 with
  | false => simp [oL, hv] at h
  | true =>
    cases live with
    | false => simp [oL, hv] at h
    | true =>
      simp only [oL, hv] at h
      have := Nat.eq_of_beq_eq_true hv
      subst this
      split at h
      · rename_i hh _; subst hh; simp at h; subst h; rfl
      · simp at h
theorem oM_eq {τ : Ty} {o : Ob Un} {l : List (Den τ)} (h : oM τ o = some l) : o = ⟨0, τ, l, some 0, true⟩ := by
  unfold oM at h
  split at h
  · rename_i hf
    have := oL_eq h
    rw [hf] at this; exact this
  · simp at h
class WArgA (a : A Un) (P : outParam Prop) : Prop where
  of : AWf En a → P
instance {k : IntKind} {n : Int} : WArgA (.c (.s (.int k n))) (WK k n) := ⟨fun h => of_decide_eq_true h⟩
instance {s : ByteArray} : WArgA (.c (.s (.string s))) (WStr s) := ⟨fun h => of_decide_eq_true h⟩
instance {τ : Ty} {l : List (Den τ)} {f : Bool} : WArgA (.c (.sl (U := Un) τ l f)) (WL τ l) := ⟨fun h => h⟩
instance {τ : Ty} {x : Den τ} : WArgA (.agg (encC τ x)) (WS τ x) := ⟨fun h d hd => by
  have := h (C.ofV d) (List.mem_map_of_mem hd)
  cases d with
  | s y => exact .s _ this
  | dat τ' xs => exact this⟩
theorem wfArgA {args : List (A Un)} (h : ∀ a ∈ args, AWf En a) {a : A Un} {P : Prop} [w : WArgA a P] (ha : a ∈ args) : P := w.of (h a ha)
def frz (fr : Option Nat) (n : Nat) : Nat := match fr with | none => n | some j => j
theorem frObs {os : List (Ob Un)} (h : ∀ o ∈ os, VWf En (.dat o.τ o.xs) ∧ o.frozen ≤ o.xs.length) {τ : Ty} {l : List (Den τ)} {fr : Option Nat} (ho : (⟨0, τ, l, fr, true⟩ : Ob Un) ∈ os) : frz fr l.length ≤ l.length := (h _ ho).2
theorem wfObs {os : List (Ob Un)} (h : ∀ o ∈ os, VWf En (.dat o.τ o.xs) ∧ o.frozen ≤ o.xs.length) {τ : Ty} {l : List (Den τ)} {fr : Option Nat} (ho : (⟨0, τ, l, fr, true⟩ : Ob Un) ∈ os) : WL τ l := (h _ ho).1
theorem gn_contract {M : Mc Un} {fns : FuncId → Option (FnC Un)} {fvs : FuncId → Option (FV Un)} {clo : FuncId → Option (List (List (DC Un)) → Option (FV Un))} {gns : FuncId → Option (List Bool × FnG Un)} {ups : FuncId → Option (FnU Un)} (hM : M = mach fns fvs clo gns ups) {nb : Nat} {bs : List (Bool × List (C Un))} (hn : nb = bs.length) (hF : FnsOK Try.prog (mach fns fvs clo gns ups))
    {f : FuncId} {fn : Func} (hf : Try.prog.funcs[f]? = some fn) (hb : fn.body = some (bodyOf fn)) (N : Nat → NS) (x : Nat) (fm : List Kind) {args rs : List (A Un)} {bs' : List (Bool × List (C Un))} {os os' : List (Ob Un)}
    (h : (∀ a ∈ args, AWf En a) → (∀ b ∈ bs, ∀ c ∈ b.2, CWf En c) → (∀ o ∈ os, VWf En (.dat o.τ o.xs) ∧ o.frozen ≤ o.xs.length) → Runs (awp M N (bodyOf fn) (entryG fn.ntmps x args bs os) (retGQ M nb fn.results.toList fm fun r b o => r = rs ∧ b = bs' ∧ o = os'))) : GContract Try.prog En f args bs os rs bs' os' := by
  subst hM; subst hn
  exact contract_ofG (M := mach fns fvs clo gns ups) (tabOK fns fvs clo gns ups) hF mixed hf hb N x fm fun h1 h2 h3 => (h h1 h2 h3).out

theorem All2.weak {g : G} {ob : List (Option (Ob Un))} {w : World} : ∀ {vs : List Value} {cs : List (C Un)}, All2 (CRel Try.prog En g ob w) vs cs → All2 (CRel Try.prog En g ob w) vs (cs.map C.weak)
  | [], [], _ => trivial
  | v :: vs, c :: cs, h => ⟨by
      have h0 := h.1
      cases c with
      | sl τ xs f => exact ⟨h0.1, fun hf => by simp at hf⟩
      | _ => exact h0, All2.weak h.2⟩
/-- Whether slices in boxes have room does not matter. -/
theorem GContract.weak {f : FuncId} {args rs : List (A Un)} {bs bs' : List (Bool × List (C Un))} {os os' : List (Ob Un)} (h : GContract Try.prog En f args (bs.map fun b => (b.1, b.2.map C.weak)) os rs bs' os') : GContract Try.prog En f args bs os rs bs' os' := by
  intro w g vs hp hvs
  refine h w g vs ⟨fun k fz cells hk => ?_, fun k hk => by simpa using hp.lbs k hk, hp.obs, hp.own⟩ hvs
  rw [List.getElem?_map] at hk
  cases hb : bs[k]? with
  | none => rw [hb] at hk; simp at hk
  | some b =>
    rw [hb] at hk; simp at hk; obtain ⟨rfl, rfl⟩ := hk
    obtain ⟨h1, us, h2, h3⟩ := hp.bxs k b.1 b.2 hb
    exact ⟨h1, us, h2.weak, h3⟩

/-! ### plain forms -/
/-- There is room for so many elements of so many bytes. -/
theorem room_ok {n b : Nat} (hn : n ≤ 1000000) (hb : b ≤ 10000 := by decide) : n * b ≤ roomB := Nat.le_trans (Nat.mul_le_mul hn hb) (by decide)
theorem itersK_mk {U : Uni} {n : NS} {body : S U → (Exit → S U → Prop) → Prop} {Q : Exit → S U → Prop} {s : S U} (k : Nat) (h : iterK n body Q k s) : itersK n body Q s := ⟨k, h⟩
theorem itersK_get {U : Uni} {n : NS} {body : S U → (Exit → S U → Prop) → Prop} {Q : Exit → S U → Prop} {s : S U} (h : itersK n body Q s) : ∃ k, iterK n body Q k s := h
theorem mpr {a b : Prop} (h : a = b) (x : b) : a := h ▸ x
theorem ite_some {α : Type} {c : Prop} [Decidable c] {x y : Option α} {r : α} (h : (if c then x else y) = some r) : (c ∧ x = some r) ∨ (¬ c ∧ y = some r) := by
  split at h
  · exact .inl ⟨by assumption, h⟩
  · exact .inr ⟨by assumption, h⟩
theorem ob_some {α : Type} {c : Prop} [Decidable c] {x : Option α} {r : α} (h : (if c then x else none) = some r) : c ∧ x = some r := by
  split at h
  · exact ⟨by assumption, h⟩
  · simp at h
theorem bind_some {α β : Type} {x : Option α} {f : α → Option β} {r : β} (h : (x >>= f) = some r) : ∃ o, x = some o ∧ f o = some r := by
  cases x with
  | none => simp at h
  | some o => exact ⟨o, rfl, h⟩
theorem bfalse {b : Bool} (h : ¬ b = true) : b = false := by cases b <;> simp_all
theorem cnd_t {b : Bool} {X Y : Prop} (h : b = true) (x : X) : cnd b X Y := by subst h; exact x
theorem cnd_f {b : Bool} {X Y : Prop} (h : b = false) (y : Y) : cnd b X Y := by subst h; exact y
theorem wrap_id {n : Int} (h : -9223372036854775808 ≤ n ∧ n ≤ 9223372036854775807) : IntKind.i64.wrap n = n := IntWalk.i64_in n h
theorem wrap_succ {i n : Nat} (h : i < n) (hn : n ≤ 9223372036854775807) : IntKind.i64.wrap ((i : Int) + 1) = ((i + 1 : Nat) : Int) := by
  rw [wrap_id (by omega)]; omega
theorem wrap_nat {n : Nat} (hn : n ≤ 9223372036854775807) : IntKind.i64.wrap (n : Int) = (n : Int) := wrap_id (by omega)
theorem drop_nil {α : Type} {l : List α} {i : Nat} (h : l.drop i = []) : l.length ≤ i := List.drop_eq_nil_iff.1 h
theorem drop_cons {α : Type} {l r : List α} {x : α} {i : Nat} (h : l.drop i = x :: r) : i < l.length ∧ (∀ d, l.getD i d = x) ∧ l.drop (i + 1) = r ∧ x ∈ l := by
  have hi : i < l.length := by
    rcases Nat.lt_or_ge i l.length with h1 | h1
    · exact h1
    · rw [List.drop_of_length_le h1] at h; simp at h
  rw [List.drop_eq_getElem_cons hi] at h
  simp only [List.cons.injEq] at h
  obtain ⟨rfl, rfl⟩ := h
  exact ⟨hi, fun d => by rw [List.getD_eq_getElem?_getD, List.getElem?_eq_getElem hi]; rfl, rfl, List.getElem_mem hi⟩
theorem drop_len {α : Type} {l r : List α} {i : Nat} (h : l.drop i = r) : r.length = l.length - i := by rw [← h]; simp
/-! ### loops as plain functions -/
def iterS {V R : Type} (step : V → Option (V ⊕ R)) : Nat → V → Option R
  | 0, _ => none
  | n + 1, v => match step v with
    | none => none
    | some (.inl v') => iterS step n v'
    | some (.inr r) => some r
open Classical in
/-- What comes out of a loop, if it ends. -/
noncomputable def loopO {V R : Type} (step : V → Option (V ⊕ R)) (v : V) : Option R :=
  if h : ∃ n r, iterS step n v = some r then some (Classical.choose (Classical.choose_spec h)) else none
theorem iterS_more {V R : Type} {step : V → Option (V ⊕ R)} : ∀ {n : Nat} {v : V} {r : R}, iterS step n v = some r → ∀ m, n ≤ m → iterS step m v = some r
  | 0, v, r, h, _, _ => by simp [iterS] at h
  | n + 1, v, r, h, m, hm => by
    obtain ⟨m', rfl⟩ : ∃ m', m = m' + 1 := ⟨m - 1, by omega⟩
    simp only [iterS] at h ⊢
    cases hs : step v with
    | none => rw [hs] at h; simp at h
    | some o =>
      rw [hs] at h
      cases o with
      | inl v' => exact iterS_more (n := n) h m' (by omega)
      | inr r' => exact h
theorem loopO_iff {V R : Type} {step : V → Option (V ⊕ R)} {v : V} {r : R} : loopO step v = some r ↔ ∃ n, iterS step n v = some r := by
  constructor
  · intro h
    unfold loopO at h
    split at h
    · rename_i hh
      have := Classical.choose_spec (Classical.choose_spec hh)
      simp only [Option.some.injEq] at h
      rw [h] at this
      exact ⟨_, this⟩
    · simp at h
  · rintro ⟨n, hn⟩
    have hh : ∃ n r, iterS step n v = some r := ⟨n, r, hn⟩
    unfold loopO
    rw [dif_pos hh]
    have h1 := Classical.choose_spec (Classical.choose_spec hh)
    have h2 := iterS_more h1 (max (Classical.choose hh) n) (Nat.le_max_left _ _)
    have h3 := iterS_more hn (max (Classical.choose hh) n) (Nat.le_max_right _ _)
    rw [h2] at h3
    exact h3
/-- Behind one round. -/
def stepB {V R : Type} (f : V → Option R) : Option (V ⊕ R) → Option R
  | none => none
  | some (.inl v) => f v
  | some (.inr r) => some r
@[simp] theorem stepB_none {V R : Type} (f : V → Option R) : stepB f (none : Option (V ⊕ R)) = none := rfl
@[simp] theorem stepB_inl {V R : Type} (f : V → Option R) (v : V) : stepB f (some (.inl v) : Option (V ⊕ R)) = f v := rfl
@[simp] theorem stepB_inr {V R : Type} (f : V → Option R) (r : R) : stepB f (some (.inr r) : Option (V ⊕ R)) = some r := rfl
theorem loopO_eq {V R : Type} (step : V → Option (V ⊕ R)) (v : V) : loopO step v = stepB (loopO step) (step v) := by
  have key : ∀ r, loopO step v = some r ↔ stepB (loopO step) (step v) = some r := by
    intro r
    rw [loopO_iff]
    cases hs : step v with
    | none =>
      refine ⟨fun ⟨n, hn⟩ => ?_, fun h => by simp at h⟩
      cases n with
      | zero => simp [iterS] at hn
      | succ n => simp [iterS, hs] at hn
    | some o =>
      cases o with
      | inl v' =>
        rw [stepB_inl, loopO_iff]
        refine ⟨fun ⟨n, hn⟩ => ?_, fun ⟨n, hn⟩ => ⟨n + 1, by simp only [iterS, hs]; exact hn⟩⟩
        cases n with
        | zero => simp [iterS] at hn
        | succ n => exact ⟨n, by simpa only [iterS, hs] using hn⟩
      | inr r' =>
        rw [stepB_inr]
        refine ⟨fun ⟨n, hn⟩ => ?_, fun h => ⟨1, by simp only [iterS, hs]; exact h⟩⟩
        cases n with
        | zero => simp [iterS] at hn
        | succ n => simpa only [iterS, hs] using hn
  cases h : loopO step v with
  | some r => exact ((key r).1 h).symm
  | none =>
    cases h2 : stepB (loopO step) (step v) with
    | none => rfl
    | some r => rw [(key r).2 h2] at h; simp at h
/-- A loop's rule: what is so at its end is so at its beginning, if each round hands it back. -/
theorem loop_run {V R : Type} {step : V → Option (V ⊕ R)} {I : V → Prop} {J : R → Prop} (hstep : ∀ v o, step v = some o → (match o with | .inl v' => I v' | .inr r => J r) → I v) {v : V} {r : R} (h : loopO step v = some r) (hJ : J r) : I v := by
  obtain ⟨n, hn⟩ := loopO_iff.1 h
  clear h
  induction n generalizing v with
  | zero => simp [iterS] at hn
  | succ n ih =>
    simp only [iterS] at hn
    cases hs : step v with
    | none => rw [hs] at hn; simp at hn
    | some o =>
      rw [hs] at hn
      cases o with
      | inl v' => exact hstep v _ hs (ih hn)
      | inr r' => simp at hn; subst hn; exact hstep v _ hs hJ
end Go.Proofs.Ytaepcbdcjbfgjaa.B
