/- The tables of types against the program's own; contracts of functions. -/
import Derived.Test.YtaepcbdcjbfgjaaBSim
namespace Go.Proofs.Ytaepcbdcjbfgjaa.B
open Go Go.RowKit
variable {U : Uni}

def aggD : TypeDesc → Bool
  | .struct _ => true
  | .array _ _ => true
  | _ => false

/-- A type's cells. -/
def Shp (P : Program) (t : TypeId) (agg : Bool) (n : Nat) : Prop := ∃ d i, P.underlying t = some d ∧ aggD d = agg ∧ P.info? t = some i ∧ i.size = n

def TIOK (P : Program) (t : TypeId) (x : TI U) : Prop :=
  (∀ agg n, x.shape = some (agg, n) → Shp P t agg n) ∧
  match x with
  | .int k => P.underlying t = some (.int k)
  | .bool => P.underlying t = some .bool
  | .str => P.underlying t = some .string
  | .sl e τ bytes => P.underlying t = some (.slice e) ∧ (0 < U.sz τ ∧ 0 < bytes) ∧ ∃ i z, P.info? e = some i ∧ i.size = U.sz τ ∧ i.bytes = bytes ∧ i.zero = some z ∧ z.cells.size = U.sz τ
  | .st fs _ => ∃ fl, P.underlying t = some (.struct fl) ∧ fl.size = fs.length ∧ ∀ (f : Nat) d, fs[f]? = some d → ∃ fd, fl[f]? = some fd ∧ fd.offset = d.1 ∧ 0 < d.2.1 ∧ Shp P fd.type d.2.2 d.2.1
  | .ar len esz eagg => ∃ e, P.underlying t = some (.array len e) ∧ Shp P e eagg esz
  | .one => True
  | .oth => True

/-- A zero that stands for itself in every world. -/
def ZRel (v : Value) (c : C U) : Prop := ∀ (P : Program) (E : Enc U) (g : G) (ob : List (Option (Ob U))) (w : World), CRel P E g ob w v c

def EK.desc : EK → TypeDesc
  | .int k => .int k
  | .str => .string
  | .bool => .bool
def EqFs (P : Program) : Nat → List Field → List EK → Prop
  | _, [], [] => True
  | i, f :: fs, e :: es => (f.name ≠ "_" ∧ f.offset = i ∧ P.underlying f.type = some e.desc) ∧ EqFs P (i + 1) fs es
  | _, _, _ => False
/-- A type whose values may be held against one another, cell by cell. -/
def EqOK (P : Program) (t : TypeId) (es : List EK) : Prop :=
  P.eqGuardType P.depth t = false ∧
  ((∃ fl, P.underlying t = some (.struct fl) ∧ P.stoodInHeld t = false ∧ EqFs P 0 fl.toList es) ∨
   (∃ n e k, P.underlying t = some (.array n e) ∧ P.underlying e = some (EK.desc k) ∧ es = List.replicate n k ∧ P.cellsOf e = 1 ∧ ∃ i, P.info? e = some i))

structure TabOK (P : Program) (M : Mc U) : Prop where
  eqs : ∀ t es, look t M.eqs = some es → EqOK P t es
  ti : ∀ t, TIOK P t (M.ti t)
  zero : ∀ t cs, M.zero t = some cs → ∃ i z, P.info? t = some i ∧ i.zero = some z ∧ All2 ZRel z.cells.toList cs

def DCRel (P : Program) (E : Enc U) (St : Nat → Nat → Prop) (w : World) (v : Value) : DC U → Prop
  | .v x => VRel E St w v x
  | .fn φ => FunRel P E St w v φ
def DRel (P : Program) (E : Enc U) (St : Nat → Nat → Prop) (w : World) (v : Value) : D U → Prop
  | .d x => D0Rel E St w v x
  | .fn φ => FunRel P E St w v φ
  | .box cs => ∃ b, v = .pointer (some ⟨b, 0, none⟩) ∧ ∀ (i : Nat) c, cs[i]? = some c → St b i ∧ ∃ u, w.cell? ⟨b, i, none⟩ = some u ∧ DCRel P E St w u c

/-- What a call leaves: its results, in memory that is the caller's own from now on. -/
def Ret (P : Program) (E : Enc U) (St : Nat → Nat → Prop) (w w' : World) (v : Value) (rs : List (A U)) (os : List (Ob U)) : Prop :=
  Ext w w' ∧ ∃ g : G, (∀ k, ¬ g.lb k) ∧ (∀ b o x, b < w.heap.size → g.ω b o = some x → x = .st ∧ St b o) ∧ (∀ b o x, g.ω b o = some x → b < w'.heap.size) ∧
    RetRel (ARel P E g (os.map some) w') v rs ∧ ∀ k o, os[k]? = some o → ObRel E g w' k o ∧ o.ver = 0

/-- A function's contract at some arguments. -/
def Contract (P : Program) (E : Enc U) (f : FuncId) (args : List (D U)) (rs : List (A U)) (os : List (Ob U)) : Prop :=
  ∀ (w : World) (St : Nat → Nat → Prop) (vs : List Value), (∀ b o, St b o → b < w.heap.size) → All2 (DRel P E St w) vs args →
    Calls P f vs.toArray w fun e w' => ∃ v, e = .returned v ∧ Ret P E St w w' v rs os
/-- The same, where all results are data. -/
def Contract0 (P : Program) (E : Enc U) (f : FuncId) (args : List (D U)) (rs : List (D0 U)) : Prop :=
  ∀ (w : World) (St : Nat → Nat → Prop) (vs : List Value), (∀ b o, St b o → b < w.heap.size) → All2 (DRel P E St w) vs args →
    Calls P f vs.toArray w fun e w' => ∃ v, e = .returned v ∧ Ret0 E St w w' v rs

/-- Boxes and objects: all that a ghost knows of. -/
structure Part (P : Program) (E : Enc U) (g : G) (w : World) (bs : List (Bool × List (C U))) (os : List (Ob U)) : Prop where
  bxs : ∀ k fz cells, bs[k]? = some (fz, cells) → g.lb k ∧ BoxRel P E g (os.map some) w k fz cells
  lbs : ∀ k, g.lb k → k < bs.length
  obs : ∀ k o, os[k]? = some o → ObRel E g w k o ∧ o.ver = 0
  own : ∀ b o x, g.ω b o = some x → b < w.heap.size
/-- The cells that may be written. -/
def G.mine (g : G) (b o : Nat) : Prop := ∃ y, y ≠ Own.st ∧ g.ω b o = some y
/-- What a call leaves that has got boxes and objects. -/
def RetG (P : Program) (E : Enc U) (g : G) (w w' : World) (v : Value) (rs : List (A U)) (bxs' : List (Bool × List (C U))) (obs' : List (Ob U)) : Prop :=
  ∃ g' : G, FExt ⟨w, g.mine, g.St, bxs'.length, g.β⟩ w' ∧ Part P E g' w' bxs' obs' ∧ (∀ k, g.lb k → g'.β k = g.β k) ∧ (∀ b o x, b < w.heap.size → g'.ω b o = some x → g.mine b o ∨ (x = .st ∧ g.St b o)) ∧ RetRel (ARel P E g' (obs'.map some) w') v rs
/-- The contract of a function that gets boxes and objects. -/
def GContract (P : Program) (E : Enc U) (f : FuncId) (args : List (A U)) (bxs : List (Bool × List (C U))) (obs : List (Ob U)) (rs : List (A U)) (bxs' : List (Bool × List (C U))) (obs' : List (Ob U)) : Prop :=
  ∀ (w : World) (g : G) (vs : List Value), Part P E g w bxs obs → All2 (ARel P E g (obs.map some) w) vs args →
    Calls P f vs.toArray w fun e w' => ∃ v, e = .returned v ∧ RetG P E g w w' v rs bxs' obs'

/-- The contract of a function that writes into the slice that is its first argument, and does nothing else. -/
def UContract (P : Program) (E : Enc U) (f : FuncId) (τ : U.Ty) (xs : List (U.Den τ)) (ds : List (D U)) (ys : List (U.Den τ)) : Prop :=
  ∀ (w : World) (g : G) (k ver : Nat) (live : Bool) (vs : List Value), ObRel E g w k ⟨ver, τ, xs, some 0, live⟩ → (∀ b o x, g.ω b o = some x → b < w.heap.size) → All2 (DRel P E g.St w) vs ds →
    Calls P f (.slice (g.tk k).1 xs.length (g.tk k).2 :: vs).toArray w fun e w' => e = .returned (.tuple #[]) ∧ ys.length = xs.length ∧ FExt ⟨w, fun b i => g.ω b i = some (.obj k), g.St, 0, g.β⟩ w' ∧ ObRel E g w' k ⟨ver, τ, ys, some 0, live⟩

structure FnsOK (P : Program) (M : Mc U) : Prop where
  ups : ∀ f F τ xs ds ob ys, M.ups f = some F → F τ xs ds = some (ob, ys) → (∀ p ∈ ob, p) → UContract P M.E f τ xs ds ys ∧ HasBody P f
  gns : ∀ f ms F args bxs obs ob rs bxs' obs', M.gns f = some (ms, F) → F args bxs obs = some (ob, rs, bxs', obs') → (∀ p ∈ ob, p) → GContract P M.E f args bxs obs rs bxs' obs' ∧ HasBody P f
  fns : ∀ f F args ob rs os, M.fns f = some F → F args = some (ob, rs, os) → (∀ p ∈ ob, p) → Contract P M.E f args rs os ∧ HasBody P f
  fvb : ∀ f φ, M.fvs f = some φ → HasBody P f
  fvs : ∀ f φ args ob rs, M.fvs f = some φ → φ args = some (ob, rs) → (∀ p ∈ ob, p) → Contract0 P M.E f (args.map .d) rs
  clb : ∀ f F, M.clo f = some F → HasBody P f
  clo : ∀ f F dl φ args ob rs, M.clo f = some F → F dl = some φ → φ args = some (ob, rs) → (∀ p ∈ ob, p) → Contract0 P M.E f (args.map .d ++ dl.map .box) rs

/-! ### the tables, asked by program -/
def shpB (P : Program) (t : TypeId) (agg : Bool) (n : Nat) : Bool :=
  match P.underlying t, P.info? t with
  | some d, some i => aggD d == agg && i.size == n
  | _, _ => false
theorem shp_of {P : Program} {t : TypeId} {agg : Bool} {n : Nat} (h : shpB P t agg n = true) : Shp P t agg n := by
  unfold shpB at h
  split at h
  · rename_i d i h1 h2
    simp at h
    exact ⟨d, i, h1, h.1, h2, h.2⟩
  · simp at h

def fieldsB (P : Program) : List Field → List (Nat × Nat × Bool) → Bool
  | [], [] => true
  | [], _ :: _ => false
  | _ :: _, [] => false
  | fd :: fl, d :: ds => fd.offset == d.1 && decide (0 < d.2.1) && shpB P fd.type d.2.2 d.2.1 && fieldsB P fl ds
theorem fields_of {P : Program} : ∀ {fl : List Field} {ds : List (Nat × Nat × Bool)}, fieldsB P fl ds = true → ∀ (f : Nat) d, ds[f]? = some d → ∃ fd, fl[f]? = some fd ∧ fd.offset = d.1 ∧ 0 < d.2.1 ∧ Shp P fd.type d.2.2 d.2.1
  | _, [], _, f, d, h => by simp at h
  | [], _ :: _, hb, _, _, _ => by simp [fieldsB] at hb
  | fd :: fl, d0 :: ds, hb, f, d, h => by
    simp only [fieldsB, Bool.and_eq_true, beq_iff_eq, decide_eq_true_eq] at hb
    obtain ⟨⟨⟨h1, h2⟩, h3⟩, h4⟩ := hb
    cases f with
    | zero => simp at h; subst h; exact ⟨fd, rfl, h1, h2, shp_of h3⟩
    | succ f => simp only [List.getElem?_cons_succ] at h ⊢; exact fields_of h4 f d h

theorem fields_len {P : Program} : ∀ {fl : List Field} {ds : List (Nat × Nat × Bool)}, fieldsB P fl ds = true → fl.length = ds.length
  | [], [], _ => rfl
  | [], _ :: _, h => by simp [fieldsB] at h
  | _ :: _, [], h => by simp [fieldsB] at h
  | _ :: _, _ :: _, h => by
    simp only [fieldsB, Bool.and_eq_true] at h
    simp [fields_len h.2]

def intB (k : IntKind) : TypeDesc → Bool | .int k' => decide (k' = k) | _ => false
def tiB (P : Program) (t : TypeId) (x : TI U) : Bool :=
  (match x.shape with | some (agg, n) => shpB P t agg n | none => true) &&
  match x with
  | .int k => (match P.underlying t with | some (.int k') => decide (k' = k) | _ => false)
  | .bool => (match P.underlying t with | some .bool => true | _ => false)
  | .str => (match P.underlying t with | some .string => true | _ => false)
  | .sl e τ bytes => (match P.underlying t, P.info? e with
    | some (.slice e'), some i => e' == e && decide (0 < U.sz τ ∧ 0 < bytes) && i.size == U.sz τ && i.bytes == bytes && (match i.zero with | some z => z.cells.size == U.sz τ | none => false)
    | _, _ => false)
  | .st fs _ => (match P.underlying t with | some (.struct fl) => fieldsB P fl.toList fs | _ => false)
  | .ar len esz eagg => (match P.underlying t with | some (.array len' e) => len' == len && shpB P e eagg esz | _ => false)
  | .one => true
  | .oth => true

theorem ti_of {P : Program} {t : TypeId} {x : TI U} (h : tiB P t x = true) : TIOK P t x := by
  simp only [tiB, Bool.and_eq_true] at h
  obtain ⟨h0, h1⟩ := h
  refine ⟨fun agg n hs => ?_, ?_⟩
  · rw [hs] at h0; exact shp_of h0
  · cases x with
    | int k => dsimp only at h1 ⊢; split at h1 <;> simp_all
    | bool => dsimp only at h1 ⊢; split at h1 <;> simp_all
    | str => dsimp only at h1 ⊢; split at h1 <;> simp_all
    | sl e τ bytes =>
      dsimp only at h1 ⊢
      split at h1
      · rename_i e' i h2 h3
        simp only [Bool.and_eq_true, beq_iff_eq, decide_eq_true_eq] at h1
        obtain ⟨⟨⟨⟨rfl, h5⟩, h6⟩, h7⟩, h8⟩ := h1
        split at h8
        · rename_i z hz
          exact ⟨h2, h5, i, z, h3, h6, h7, hz, by simpa using h8⟩
        · simp at h8
      · simp at h1
    | st fs n =>
      dsimp only at h1 ⊢
      split at h1
      · rename_i fl h2
        refine ⟨fl, h2, by rw [← fields_len h1]; simp, fun f d hd => ?_⟩
        obtain ⟨fd, i1, i2⟩ := fields_of h1 f d hd
        exact ⟨fd, by rw [Array.getElem?_toList] at i1; exact i1, i2⟩
      · simp at h1
    | ar len esz eagg =>
      dsimp only at h1 ⊢
      split at h1
      · rename_i len' e h2
        simp only [Bool.and_eq_true, beq_iff_eq] at h1
        obtain ⟨rfl, h3⟩ := h1
        exact ⟨e, h2, shp_of h3⟩
      · simp at h1
    | one => trivial
    | oth => trivial

theorem z_of {v : Value} {c : C U} (h : zB v c = true) : ZRel v c := by
  intro P E g ob w
  unfold zB at h
  split at h
  · simp at h; obtain ⟨⟨rfl, rfl⟩, h2⟩ := h; exact ⟨rfl, h2⟩
  · simp at h; subst h; exact ⟨rfl, rfl⟩
  · rename_i b b'
    cases b; cases b'; simp at h; obtain ⟨h1, h2⟩ := h; subst h1; exact ⟨rfl, h2⟩
  · exact ⟨rfl, rfl⟩
  · exact ⟨rfl, rfl⟩
  · exact ⟨.nil _ _ _, fun _ => ⟨_, _, rfl⟩⟩
  · simp at h
theorem zs_of : ∀ {vs : List Value} {cs : List (C U)}, zsB vs cs = true → All2 ZRel vs cs
  | [], [], _ => trivial
  | v :: vs, c :: cs, h => by
    simp only [zsB, Bool.and_eq_true] at h
    exact ⟨z_of h.1, zs_of h.2⟩
  | [], _ :: _, h => by simp [zsB] at h
  | _ :: _, [], h => by simp [zsB] at h

def descB : Option TypeDesc → EK → Bool
  | some (.int k), .int k' => decide (k = k')
  | some .string, .str => true
  | some .bool, .bool => true
  | _, _ => false
theorem desc_of {d : Option TypeDesc} {e : EK} (h : descB d e = true) : d = some e.desc := by
  unfold descB at h
  split at h
  · have := of_decide_eq_true h; subst this; rfl
  · rfl
  · rfl
  · simp at h
def eqFsB (P : Program) : Nat → List Field → List EK → Bool
  | _, [], [] => true
  | i, f :: fs, e :: es => (f.name != "_" && f.offset == i && descB (P.underlying f.type) e) && eqFsB P (i + 1) fs es
  | _, _, _ => false
theorem eqFs_of {P : Program} : ∀ {i : Nat} {fs : List Field} {es : List EK}, eqFsB P i fs es = true → EqFs P i fs es
  | _, [], [], _ => trivial
  | i, f :: fs, e :: es, h => by
    simp only [eqFsB, Bool.and_eq_true, bne_iff_ne, beq_iff_eq] at h
    exact ⟨⟨h.1.1.1, h.1.1.2, desc_of h.1.2⟩, eqFs_of h.2⟩
  | _, [], _ :: _, h => by simp [eqFsB] at h
  | _, _ :: _, [], h => by simp [eqFsB] at h
def eqB (P : Program) (t : TypeId) (es : List EK) : Bool :=
  !(P.eqGuardType P.depth t) && match P.underlying t with
  | some (.struct fl) => !(P.stoodInHeld t) && eqFsB P 0 fl.toList es
  | some (.array n e) => es.length == n && (match es with | k :: _ => es.all (fun x => descB (P.underlying e) x && match x, k with | .int a, .int b => decide (a = b) | .str, .str => true | .bool, .bool => true | _, _ => false) | [] => false) && P.cellsOf e == 1 && (P.info? e).isSome
  | _ => false
theorem eq_of {P : Program} {t : TypeId} {es : List EK} (h : eqB P t es = true) : EqOK P t es := by
  unfold eqB at h
  rw [Bool.and_eq_true] at h
  refine ⟨by simpa using h.1, ?_⟩
  have h2 := h.2
  split at h2
  · rename_i fl hu
    rw [Bool.and_eq_true] at h2
    exact .inl ⟨fl, hu, by simpa using h2.1, eqFs_of h2.2⟩
  · rename_i n e hu
    simp only [Bool.and_eq_true, beq_iff_eq] at h2
    obtain ⟨⟨⟨h3, h4⟩, h5⟩, h6⟩ := h2
    cases es with
    | nil => simp at h4
    | cons k r =>
      dsimp only at h4
      rw [List.all_eq_true] at h4
      have h7 := h4 k (by simp)
      rw [Bool.and_eq_true] at h7
      refine .inr ⟨n, e, k, hu, desc_of h7.1, ?_, h5, Option.isSome_iff_exists.1 h6⟩
      rw [List.eq_replicate_iff]
      refine ⟨h3, fun x hx => ?_⟩
      have := h4 x hx
      rw [Bool.and_eq_true] at this
      cases x <;> cases k <;> simp_all
  · simp at h2

def tabB (P : Program) (M : Mc U) : Bool :=
  M.eqs.all (fun x => eqB P x.1 x.2) && M.tab.all (fun x => tiB P x.1 x.2) && M.zeros.all (fun x => match P.info? x.1 with
    | some i => (match i.zero with | some z => zsB z.cells.toList x.2 | none => false)
    | none => false)
theorem look_mem {α : Type} {t : Nat} {x : α} : ∀ {l : List (Nat × α)}, look t l = some x → (t, x) ∈ l
  | [], h => by simp [look] at h
  | (k, y) :: r, h => by
    simp only [look] at h
    split at h
    · rename_i hb
      have := Nat.eq_of_beq_eq_true hb
      simp at h; subst this; subst h; simp
    · exact List.mem_cons_of_mem _ (look_mem h)
theorem tab_of {P : Program} {M : Mc U} (h : tabB P M = true) : TabOK P M := by
  simp only [tabB, Bool.and_eq_true, List.all_eq_true] at h
  obtain ⟨⟨h0, h1⟩, h2⟩ := h
  have h : (∀ x ∈ M.tab, tiB P x.1 x.2 = true) ∧ _ := ⟨h1, h2⟩
  refine ⟨fun t es he => eq_of (h0 (t, es) (look_mem he)), fun t => ?_, fun t cs hz => ?_⟩
  · unfold Mc.ti
    cases hl : look t M.tab with
    | none => exact ⟨fun _ _ hs => by simp [TI.shape] at hs, trivial⟩
    | some x => exact ti_of (h.1 (t, x) (look_mem hl))
  · have := h.2 (t, cs) (look_mem hz)
    dsimp only at this
    cases hi : P.info? t with
    | none => simp [hi] at this
    | some i =>
      cases hz' : i.zero with
      | none => simp [hi, hz'] at this
      | some z => simp [hi, hz'] at this; exact ⟨i, z, rfl, hz', zs_of this⟩
end Go.Proofs.Ytaepcbdcjbfgjaa.B
