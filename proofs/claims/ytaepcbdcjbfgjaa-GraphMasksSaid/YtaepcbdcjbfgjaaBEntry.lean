/- A function's beginning; contracts out of runs of the abstract machine. -/
import Derived.Test.YtaepcbdcjbfgjaaBFn
namespace Go.Proofs.Ytaepcbdcjbfgjaa.B
open Go Go.RowKit
variable {U : Uni} {P : Program} {M : Mc U}

/-- Where the captured variables lie. -/
def blks : List Value → List (D U) → List Nat
  | v :: vs, .box _ :: r => (match v with | .pointer (some a) => a.block | _ => 0) :: blks vs r
  | _ :: vs, _ :: r => blks vs r
  | _, _ => []

theorem dc_rel {E : Enc U} {g : G} {ob : List (Option (Ob U))} {w : World} {St : Nat → Nat → Prop} (hk : Keeps St w g.St w) {v : Value} {d : DC U} (h : DCRel P E St w v d) : CRel P E g ob w v d.toC := by
  cases d with
  | v x => exact vrel_c rfl (VRel.mono h hk)
  | fn φ => exact FunRel.mono hk h

theorem args_rel {E : Enc U} {g : G} {ob : List (Option (Ob U))} {w : World} {St : Nat → Nat → Prop} (hk : Keeps St w g.St w) :
    ∀ {vs : List Value} {args : List (D U)} {k : Nat}, All2 (DRel P E St w) vs args → (∀ i b, (blks vs args)[i]? = some b → g.lb (k + i) ∧ g.β (k + i) = b) → All2 (AVRel P E g ob w) vs (argAs k args)
  | [], [], k, _, _ => trivial
  | v :: vs, d :: r, k, h, hb => by
    cases d with
    | d x => exact ⟨d0_rel rfl (D0Rel.mono hk h.1), args_rel hk h.2 (fun i b hi => hb i b hi)⟩
    | fn φ => exact ⟨FunRel.mono hk h.1, args_rel hk h.2 (fun i b hi => hb i b hi)⟩
    | box cs =>
      obtain ⟨b, e, _⟩ := h.1
      have h0 := hb 0 b (by simp [blks, e])
      rw [Nat.add_zero] at h0
      refine ⟨⟨h0.1, by rw [h0.2]; exact e⟩, args_rel hk (k := k + 1) h.2 (fun i b hi => ?_)⟩
      have := hb (i + 1) b (by simpa [blks] using hi)
      rw [show k + 1 + i = k + (i + 1) from by omega]; exact this

theorem boxes_rel {E : Enc U} {w : World} {St : Nat → Nat → Prop} : ∀ {vs : List Value} {args : List (D U)}, All2 (DRel P E St w) vs args → (blks vs args).length = (argBx args).length ∧ ∀ (i : Nat) fz cells, (argBx args)[i]? = some (some (fz, cells)) → ∃ (b : Nat) (cs : List (DC U)), fz = true ∧ cells = cs.map DC.toC ∧ (blks vs args)[i]? = some b ∧
      ∀ (j : Nat) c, cs[j]? = some c → St b j ∧ ∃ u, w.cell? ⟨b, j, none⟩ = some u ∧ DCRel P E St w u c
  | [], [], _ => ⟨rfl, fun i fz cells h => by simp [argBx] at h⟩
  | v :: vs, d :: r, h => by
    obtain ⟨ih1, ih2⟩ := boxes_rel h.2
    cases d with
    | d x => exact ⟨ih1, ih2⟩
    | fn φ => exact ⟨ih1, ih2⟩
    | box cs =>
      obtain ⟨b, e, hb⟩ := h.1
      refine ⟨by simp [blks, argBx, ih1], fun i fz cells hi => ?_⟩
      cases i with
      | zero =>
        simp [argBx] at hi; obtain ⟨rfl, rfl⟩ := hi
        exact ⟨b, cs, rfl, rfl, by simp [blks, e], hb⟩
      | succ i => exact ih2 i fz cells (by simpa [argBx] using hi)

open Classical in
theorem entry_sim {E : Enc U} {n x : Nat} {w : World} {St : Nat → Nat → Prop} {vs : List Value} {args : List (D U)} (hbd : ∀ b o, St b o → b < w.heap.size) (hvs : All2 (DRel P E St w) vs args) :
    ∃ g, Sim P E ⟨w, fun _ _ => False, St, 0, fun _ => 0⟩ g (entry n x args) { tmps := vs.toArray ++ Array.replicate (n - vs.toArray.size) undef, defers := [] } w := by
  obtain ⟨hbl, hbx⟩ := boxes_rel hvs
  let g : G := { β := fun k => (blks vs args).getD k 0, lb := fun k => k < (blks vs args).length, ω := fun b o => if St b o then some .st else none, tk := fun _ => (none, 0) }
  have hst : ∀ b o, St b o ↔ g.St b o := fun b o => by
    show St b o ↔ (if St b o then some Own.st else none) = some .st
    by_cases h : St b o <;> simp [h]
  have hk : Keeps St w g.St w := fun b o h => ⟨(hst b o).1 h, rfl⟩
  have hβ : ∀ i b, (blks vs args)[i]? = some b → g.lb (0 + i) ∧ g.β (0 + i) = b := fun i b hi => by
    rw [Nat.zero_add]
    exact ⟨(List.getElem?_eq_some_iff.1 hi).1, by show (blks vs args).getD i 0 = b; rw [List.getD_eq_getElem?_getD, hi]; rfl⟩
  have hlen := hvs.length
  have hal : (argAs 0 args).length = args.length := by
    have : ∀ (k : Nat) (l : List (D U)), (argAs k l).length = l.length := by
      intro k l
      induction l generalizing k with
      | nil => rfl
      | cons d r ih => simp [argAs, ih]
    exact this 0 args
  refine ⟨g, { ext := ⟨rfl, rfl, rfl, Nat.le_refl _, fun _ _ _ => rfl, fun _ _ _ _ => rfl, fun _ _ _ _ => rfl⟩, tms := ?_, bxs := ?_, lbs := ?_, obs := ?_, own := ?_, dfr := rfl, fix := fun _ hk => absurd hk (Nat.not_lt_zero _), bas := Nat.zero_le _ }⟩
  · show All2 _ (vs.toArray ++ Array.replicate (n - vs.toArray.size) undef).toList (argAs 0 args ++ List.replicate (n - args.length) (.one .top))
    have e : (vs.toArray ++ Array.replicate (n - vs.toArray.size) undef).toList = vs ++ List.replicate (n - vs.length) undef := by simp
    rw [e, hlen]
    refine All2.append (args_rel hk hvs hβ) ?_
    generalize n - args.length = m
    induction m with
    | zero => trivial
    | succ m ih => exact ⟨trivial, ih⟩
  · intro k fz cells hkk
    have hkk' : (argBx args ++ List.replicate n (none : Option (Bool × List (C U))))[k]? = some (some (fz, cells)) := hkk
    rcases Nat.lt_or_ge k (argBx args).length with hlt | hge
    · rw [List.getElem?_append_left hlt] at hkk'
      obtain ⟨b, cs, rfl, rfl, hb, hc⟩ := hbx k fz cells hkk'
      obtain ⟨hl, hβk⟩ := hβ k b hb
      rw [Nat.zero_add] at hl hβk
      refine ⟨hl, (List.range cs.length).map (fun i => (w.cell? ⟨b, i, none⟩).getD undef), ?_, fun i v hv => ?_⟩
      · refine All2.of_get (by simp) fun i v c hv hcc => ?_
        obtain ⟨hi, rfl⟩ := get_map_range hv
        rw [List.getElem?_map] at hcc
        cases hci : cs[i]? with
        | none => rw [hci] at hcc; simp at hcc
        | some c0 =>
          rw [hci] at hcc; simp at hcc; subst hcc
          obtain ⟨_, u, hu, hur⟩ := hc i c0 hci
          rw [hu]; exact dc_rel hk hur
      · obtain ⟨hi, rfl⟩ := get_map_range hv
        obtain ⟨h1, u, hu, _⟩ := hc i _ (List.getElem?_eq_getElem hi)
        rw [hβk, hu]
        exact ⟨rfl, by simp, fun _ => (hst b i).1 h1⟩
    · rw [List.getElem?_append_right hge, List.getElem?_replicate] at hkk'
      split at hkk' <;> simp at hkk'
  · intro k hl
    have hl' : k < (argBx args).length := by rw [← hbl]; exact hl
    have : ∀ (l : List (D U)) (k : Nat), k < (argBx l).length → ∃ c, (argBx l)[k]? = some (some c) := by
      intro l
      induction l with
      | nil => intro k h; simp [argBx] at h
      | cons d r ih =>
        intro k h
        cases d with
        | d x => exact ih k h
        | fn φ => exact ih k h
        | box cs =>
          cases k with
          | zero => exact ⟨_, rfl⟩
          | succ k => obtain ⟨c, hc⟩ := ih k (by simpa [argBx] using h); exact ⟨c, by simpa [argBx] using hc⟩
    obtain ⟨c, hc⟩ := this args k hl'
    exact ⟨c, by show (argBx args ++ _)[k]? = _; rw [List.getElem?_append_left hl']; exact hc⟩
  · intro k o hko
    have hko' : (List.replicate (4 * ((argBx args).length + n) + x) (none : Option (Ob U)))[k]? = some (some o) := hko
    rw [List.getElem?_replicate] at hko'
    split at hko' <;> simp at hko'
  · intro b o y hy
    have hy' : (if St b o then some Own.st else none) = some y := hy
    split at hy'
    · rename_i h; simp at hy'; subst hy'; exact ⟨hbd b o h, .inr (.inr ⟨rfl, h⟩)⟩
    · simp at hy'

/-- Data within its bounds. -/
inductive VWf (E : Enc U) : V U → Prop
  | s (x : Value) (h : oneC x = true) : VWf E (.s x)
  | dat (τ : U.Ty) (xs : List (U.Den τ)) (hl : xs.length ≤ 9223372036854775807) (h2 : ∀ (i : Nat) (hi : i < xs.length) (j : Nat) (d : V U), (E.enc τ xs[i])[j]? = some d → VWf E d) : VWf E (.dat τ xs)
theorem VRel.wf {E : Enc U} {St : Nat → Nat → Prop} {w : World} {v : Value} {d : V U} (h : VRel E St w v d) : VWf E d := by
  induction h with
  | s x h => exact .s x h
  | nil τ a cap => exact .dat τ [] (by simp) (fun i hi => absurd hi (by simp))
  | dat τ xs b o cap cv hcap h1 h2 ih => exact .dat τ xs hcap.2 ih
def D0Wf (E : Enc U) : D0 U → Prop
  | .v x => VWf E x
  | .agg xs => ∀ x ∈ xs, VWf E x
def DCWf (E : Enc U) : DC U → Prop
  | .v x => VWf E x
  | .fn _ => True
def DWf (E : Enc U) : D U → Prop
  | .d x => D0Wf E x
  | .fn _ => True
  | .box cs => ∀ x ∈ cs, DCWf E x
theorem All2.mem {α β : Type} {R : α → β → Prop} {l : List α} {r : List β} (h : All2 R l r) (b : β) (hb : b ∈ r) : ∃ a, R a b := by
  obtain ⟨i, hi⟩ := List.getElem?_of_mem hb
  obtain ⟨a, _, ha⟩ := h.get i hi
  exact ⟨a, ha⟩
theorem D0Rel.wf {E : Enc U} {St : Nat → Nat → Prop} {w : World} {v : Value} {d : D0 U} (h : D0Rel E St w v d) : D0Wf E d := by
  cases d with
  | v x => exact VRel.wf h
  | agg xs => obtain ⟨arr, _, h2⟩ := h; exact fun x hx => (h2.mem x hx).elim fun _ hh => hh.wf
theorem DRel.wf {E : Enc U} {St : Nat → Nat → Prop} {w : World} {v : Value} {d : D U} (h : DRel P E St w v d) : DWf E d := by
  cases d with
  | d x => exact D0Rel.wf h
  | fn φ => trivial
  | box cs =>
    obtain ⟨b, _, h2⟩ := h
    intro x hx
    obtain ⟨i, hi⟩ := List.getElem?_of_mem hx
    obtain ⟨_, u, _, hu⟩ := h2 i x hi
    cases x with
    | v y => exact VRel.wf hu
    | fn φ => trivial

/-- A CONTRACT, out of what the abstract machine says of the body. -/
theorem contract_of (hT : TabOK P M) (hF : FnsOK P M) (hm : P.follows .mixedOrders = true) {f : FuncId} {fn : Func} {body : Code} (hf : P.funcs[f]? = some fn) (hb : fn.body = some body) (N : Nat → NS) (x : Nat) (fm : List Kind) {args : List (D U)} {rs : List (A U)} {os : List (Ob U)}
    (h0 : (∀ a ∈ args, DWf M.E a) → awp M N body (entry fn.ntmps x args) (retQ M fn.results.toList fm fun rs' os' => rs' = rs ∧ os' = os)) : Contract P M.E f args rs os := by
  intro w St vs hbd hvs
  have h := h0 fun a ha => (hvs.mem a ha).elim fun _ hh => hh.wf
  obtain ⟨g, hs⟩ := entry_sim (n := fn.ntmps) (x := x) hbd hvs
  refine calls_of_wp hf hb ?_
  refine awp_sound hT hF hm N body (Q := retQ M fn.results.toList fm fun rs' os' => rs' = rs ∧ os' = os) ?_ hs h
  have fin : ∀ s g a w', retK M fn.results.toList fm (fun rs' os' => rs' = rs ∧ os' = os) s → Sim P M.E ⟨w, fun _ _ => False, St, 0, fun _ => 0⟩ g s a w' → a.defers = [] ∧ ∃ v, (results fn a.tmps).run P w' = .ok v w' ∧ ∃ v', Ending.returned v = .returned v' ∧ Ret P M.E St w w' v' rs os := by
    intro s g a w' hq hs'
    unfold retK at hq
    split at hq
    · rename_i al hal
      split at hq
      · rename_i rs' os' hout
        obtain ⟨rfl, rfl⟩ := hq
        obtain ⟨v, hv, hvr⟩ := results_sound hT hs' hal
        have := out_sound hs' (fun _ _ hh => hh) hvr hout
        exact ⟨hs'.dfr, v, hv, v, rfl, this⟩
      · exact hq.elim
    · exact hq.elim
  intro e s g a w' hq hs'
  cases e with
  | normal => exact fin s g a w' hq hs'
  | ret => exact fin s g a w' hq hs'
  | _ => exact hq.elim

theorem toA_inv {E : Enc U} {g : G} {ob : List (Option (Ob U))} {w : World} {v : Value} {d : D0 U} (h : ARel P E g ob w v d.toA) : D0Rel E g.St w v d := by
  have hc : ∀ {u : Value} {x : V U}, CRel P E g ob w u (C.ofV x) → VRel E g.St w u x := by
    intro u x hu
    cases x with
    | s y => obtain ⟨rfl, h⟩ := hu; exact .s _ h
    | dat τ xs => exact hu.1
  cases d with
  | v x => exact hc h
  | agg xs =>
    obtain ⟨arr, e, h2⟩ := h
    refine ⟨arr, e, ?_⟩
    generalize arr.toList = us at h2
    induction xs generalizing us with
    | nil => cases us with | nil => trivial | cons _ _ => exact h2.elim
    | cons x xs ih =>
      cases us with
      | nil => exact h2.elim
      | cons u us => exact ⟨hc h2.1, ih us h2.2⟩

theorem Contract.data {E : Enc U} {f : FuncId} {args : List (D U)} {ds : List (D0 U)} (h : Contract P E f args (ds.map D0.toA) []) : Contract0 P E f args ds := by
  intro w St vs hbd hvs
  refine Calls.mono (h w St vs hbd hvs) ?_
  rintro e w' ⟨v, rfl, hext, g, _, h2, h3, h4, _⟩
  refine ⟨v, rfl, hext, g.St, fun b o hb hs => (h2 b o _ hb hs).2, fun b o hs => h3 b o _ hs, ?_⟩
  have hall : ∀ {us : List Value} {ds : List (D0 U)}, All2 (ARel P E g (([] : List (Ob U)).map some) w') us (ds.map D0.toA) → All2 (D0Rel E g.St w') us ds := by
    intro us ds
    induction ds generalizing us with
    | nil => intro hu; cases us with | nil => trivial | cons _ _ => exact hu.elim
    | cons d ds ih =>
      intro hu
      cases us with
      | nil => exact hu.elim
      | cons u us => exact ⟨toA_inv hu.1, ih hu.2⟩
  match ds, h4 with
  | [], h4 => obtain ⟨arr, e, hh⟩ := h4; exact ⟨arr, e, hall (ds := []) hh⟩
  | [d], h4 => exact toA_inv h4
  | d :: d' :: r, h4 => obtain ⟨arr, e, hh⟩ := h4; exact ⟨arr, e, hall (ds := d :: d' :: r) hh⟩
end Go.Proofs.Ytaepcbdcjbfgjaa.B
