/- The abstract machine as a function: what a piece of code gives, or nothing. -/
import Derived.Test.YtaepcbdcjbfgjaaBLib
namespace Go.Proofs.Ytaepcbdcjbfgjaa.B
open Go Go.RowKit
section
variable {U : Uni} {M : Mc U} {N : Nat → NS}

/-- What is asked ahead of a value. -/
noncomputable def obO {α : Type} (p : Prop) (x : Option α) : Option α := @ite _ p (Classical.propDecidable p) x none
noncomputable def obsO {α : Type} : List Prop → Option α → Option α
  | [], x => x
  | p :: ps, x => obO p (obsO ps x)
theorem obO_eq {α : Type} {p : Prop} [Decidable p] {x : Option α} : obO p x = if p then x else none := by
  unfold obO; split <;> rename_i h
  · simp [h]
  · simp [h]
theorem obO_pos {α : Type} {p : Prop} (h : p) {x : Option α} : obO p x = x := if_pos h
theorem obO_some {α : Type} {p : Prop} {x : Option α} {r : α} (h : obO p x = some r) : p ∧ x = some r := by
  unfold obO at h; split at h
  · exact ⟨by assumption, h⟩
  · simp at h
theorem obsO_some {α : Type} : ∀ {ps : List Prop} {x : Option α} {r : α}, obsO ps x = some r → (∀ p ∈ ps, p) ∧ x = some r
  | [], _, _, h => ⟨by simp, h⟩
  | p :: ps, x, r, h => by
    obtain ⟨h1, h2⟩ := obO_some h
    obtain ⟨h3, h4⟩ := obsO_some h2
    exact ⟨fun q hq => by rcases List.mem_cons.1 hq with rfl | hq; exact h1; exact h3 q hq, h4⟩
theorem obO_bind {α β : Type} {p : Prop} {x : Option α} {f : α → Option β} : (obO p x).bind f = obO p (x.bind f) := by
  unfold obO; split <;> rfl
theorem obsO_bind {α β : Type} {f : α → Option β} : ∀ {ps : List Prop} {x : Option α}, (obsO ps x).bind f = obsO ps (x.bind f)
  | [], _ => rfl
  | p :: ps, x => by simp only [obsO, obO_bind, obsO_bind]
def cndO {α : Type} (b : Bool) (x y : Option α) : Option α := match b with | true => x | false => y
theorem cndO_eq {α : Type} {b : Bool} {x y : Option α} : cndO b x y = if b = true then x else y := by cases b <;> rfl

noncomputable def execF {α : Type} (ops : List Oper) (i : Nat) (o : Oper) (s : S U) (r : Res U) (K : S U → Option α) : Option α :=
  obsO r.ob (match isGuard ops i, r.v with
    | true, .one (.c (.s (.bool x))) => cndO x (K (s.upd o.dst { r with v := .one (.c (.s (.bool true))) })) (K (s.upd o.dst { r with v := .one (.c (.s (.bool false))) }))
    | _, _ => K (s.upd o.dst r))
noncomputable def awfOps {α : Type} (M : Mc U) (ops : List Oper) : List Oper → Nat → S U → List Fp → (S U → List Fp → Option α) → Option α
  | [], _, s, fs, K => K s fs
  | o :: rest, i, s, fs, K =>
    match wantK ops s o with
    | some true => match eff M s o with
      | some r => execF ops i o s r fun s' => awfOps M ops rest (i + 1) s' (s.fp M ops o r :: fs) K
      | none => none
    | some false => awfOps M ops rest (i + 1) (s.upd o.dst undefR) (S.fp0 ops o :: fs) K
    | none => none
def ifO {α : Type} (b : Bool) (x : Option α) : Option α := match b with | true => x | false => none
noncomputable def awfReg {α : Type} (M : Mc U) (ops : Array Oper) (drawn : Bool) (s : S U) (K : S U → Option α) : Option α :=
  awfOps M ops.toList ops.toList 0 s [] fun s' fs => match drawn with
    | false => K s'
    | true => ifO (edgesOK 0 ops.toList && apartAll (befores ops.toList []) 0 [] fs.reverse) (K s')

/-- How some code ends. -/
abbrev EX (U : Uni) : Type := Exit × S U
def pureX (e : Exit) (s : S U) : Option (EX U) := some (e, s)
def normO {α : Type} (n : NS) (K : S U → Option α) (s : S U) : Option α := match s.norm n with | some s1 => K s1 | none => none
/-- A round, as a step. -/
def stepF (n : NS) (body : S U → (Exit → S U → Option (EX U)) → Option (EX U)) (s : S U) : Option (S U ⊕ EX U) :=
  (body s pureX).bind fun p => match p.1 with
    | .normal => (p.2.norm n).bind fun s1 => some (.inl s1)
    | e => (p.2.norm n).bind fun s1 => some (.inr (e, s1))
noncomputable def loopF (n : NS) (body : S U → (Exit → S U → Option (EX U)) → Option (EX U)) (s : S U) : Option (EX U) := loopO (stepF n body) s
/-- Behind a round: the next one, or out of the loop. -/
def roundF (n : NS) (I : S U → Option (EX U)) : Exit → S U → Option (EX U)
  | .normal, s => normO n I s
  | e, s => normO n (fun s1 => some (e, s1)) s
def thenF {α : Type} (next : S U → Option α) (Q : Exit → S U → Option α) : Exit → S U → Option α
  | .normal, s => next s
  | e, s => Q e s
def blockF {α : Type} (id : Nat) (Q : Exit → S U → Option α) : Exit → S U → Option α
  | .exit id', s => if id' = id then Q .normal s else Q (.exit id') s
  | e, s => Q e s
def thenX {α : Type} (Q : Exit → S U → Option α) (p : EX U) : Option α := Q p.1 p.2

noncomputable def awf (M : Mc U) (N : Nat → NS) : Code → {α : Type} → S U → (Exit → S U → Option α) → Option α
  | .skip, _, s, Q => Q .normal s
  | .region _ ops drawn, _, s, Q => awfReg M ops drawn s (Q .normal)
  | .seq a b, _, s, Q => awf M N a s (thenF (fun s' => awf M N b s' Q) Q)
  | .cond c a b, _, s, Q => match s.ev M c with
    | some (.one (.c (.s (.bool x)))) => cndO x (awf M N a s Q) (awf M N b s Q)
    | _ => none
  | .block id c, _, s, Q => awf M N c s (blockF id Q)
  | .loop c, _, s, Q => normO (N (lid c)) (fun s1 => (loopF (N (lid c)) (fun s' Q' => awf M N c s' Q') s1).bind (thenX Q)) s
  | .exit id, _, s, Q => Q (.exit id) s
  | .ret, _, s, Q => Q .ret s
  | _, _, _, _ => none

/-- What comes behind a part. -/
noncomputable def ctxF {α : Type} (M : Mc U) (N : Nat → NS) : Code → List Nat → (Exit → S U → Option α) → Exit → S U → Option α
  | .seq a b, k :: p, Q => match k with | 0 => ctxF M N a p (thenF (fun s' => awf M N b s' Q) Q) | _ => ctxF M N b p Q
  | .block id c, _ :: p, Q => ctxF M N c p (blockF id Q)
  | .cond _ a b, k :: p, Q => match k with | 3 => ctxF M N a p Q | _ => ctxF M N b p Q
  | _, _, Q => Q

/-! ### the same whatever comes behind -/
theorem awfOps_bind {α β : Type} {ops : List Oper} {f : α → Option β} : ∀ (l : List Oper) (i : Nat) (s : S U) (fs : List Fp) (K : S U → List Fp → Option α),
    (awfOps M ops l i s fs K).bind f = awfOps M ops l i s fs fun s' fs' => (K s' fs').bind f
  | [], _, _, _, _ => rfl
  | o :: rest, i, s, fs, K => by
    simp only [awfOps]
    split
    · split
      · rename_i r _
        unfold execF
        rw [obsO_bind]
        congr 1
        split
        · rename_i b _ _
          cases b
          · exact awfOps_bind rest _ _ _ K
          · exact awfOps_bind rest _ _ _ K
        · exact awfOps_bind rest _ _ _ K
      · rfl
    · exact awfOps_bind rest _ _ _ K
    · rfl
theorem awfReg_bind {α β : Type} {ops : Array Oper} {drawn : Bool} {s : S U} {K : S U → Option α} {f : α → Option β} : (awfReg M ops drawn s K).bind f = awfReg M ops drawn s fun s' => (K s').bind f := by
  unfold awfReg
  rw [awfOps_bind]
  congr 1
  funext s' fs
  cases drawn with
  | false => rfl
  | true => dsimp only; unfold ifO; split <;> rfl
theorem normO_bind {α β : Type} {n : NS} {K : S U → Option α} {s : S U} {f : α → Option β} : (normO n K s).bind f = normO n (fun s1 => (K s1).bind f) s := by
  unfold normO; split <;> rfl
theorem awf_bind {α β : Type} {f : α → Option β} : ∀ (c : Code) (s : S U) (Q : Exit → S U → Option α), (awf M N c s Q).bind f = awf M N c s fun e s' => (Q e s').bind f
  | .skip, _, _ => rfl
  | .region _ _ _, _, _ => awfReg_bind
  | .seq a b, s, Q => by
    simp only [awf]
    rw [awf_bind a]
    congr 1
    funext e s'
    cases e <;> first | rfl | exact awf_bind b s' Q
  | .cond c a b, s, Q => by
    simp only [awf]
    split
    · rename_i x _
      cases x
      · exact awf_bind b s Q
      · exact awf_bind a s Q
    · rfl
  | .block id c, s, Q => by
    simp only [awf]
    rw [awf_bind c]
    congr 1
    funext e s'
    cases e <;> first | rfl | (simp only [blockF]; split <;> rfl)
  | .loop c, s, Q => by
    simp only [awf]
    rw [normO_bind]
    congr 1
    funext s1
    rw [Option.bind_assoc]
    rfl
  | .exit _, _, _ => rfl
  | .ret, _, _ => rfl
  | .scope _, _, _ => rfl
  | .label _, _, _ => rfl
  | .goto _, _, _ => rfl
  | .refuse _, _, _ => rfl
  | .rangeFunc _ _ _ _, _, _ => rfl
theorem awf_pure {α : Type} (c : Code) (s : S U) (Q : Exit → S U → Option α) : awf M N c s Q = (awf M N c s pureX).bind (thenX Q) := by
  rw [awf_bind]; rfl
theorem loopF_eq (n : NS) (c : Code) (s : S U) : loopF n (fun s' Q' => awf M N c s' Q') s = awf M N c s (roundF n (loopF n (fun s' Q' => awf M N c s' Q'))) := by
  rw [awf_pure c s (roundF n _)]
  unfold loopF
  rw [loopO_eq]
  conv => lhs; arg 2; unfold stepF; dsimp only
  cases h : awf M N c s pureX with
  | none => simp only [Option.bind_none, stepB_none]
  | some p =>
    obtain ⟨e, s'⟩ := p
    simp only [Option.bind_some, thenX]
    cases e <;> simp only [roundF, normO] <;> cases s'.norm n <;> rfl

/-! ### what it gives is so -/
theorem awfOps_awp {α : Type} {ops : List Oper} {r : α} : ∀ (l : List Oper) (i : Nat) (s : S U) (fs : List Fp) {K : S U → List Fp → Option α} {K' : S U → List Fp → Prop}, (∀ s' fs', K s' fs' = some r → K' s' fs') →
    awfOps M ops l i s fs K = some r → awpOps M ops l i s fs K'
  | [], _, s, fs, _, _, hK, h => hK s fs h
  | o :: rest, i, s, fs, K, K', hK, h => by
    simp only [awfOps] at h
    simp only [awpOps]
    split at h
    · rename_i hw
      rw [hw]
      dsimp only
      split at h
      · rename_i x hx
        rw [hx]
        unfold execF at h
        unfold execK
        obtain ⟨h1, h2⟩ := obsO_some h
        refine obs_iff.2 ⟨h1, ?_⟩
        split at h2
        · rename_i b hg hv
          rw [hg, hv]
          dsimp only
          cases b
          · exact awfOps_awp rest _ _ _ hK h2
          · exact awfOps_awp rest _ _ _ hK h2
        · rename_i hno
          split
          · rename_i b hg hv; exact absurd hv (hno b hg)
          · exact awfOps_awp rest _ _ _ hK h2
      · simp at h
    · rename_i hw
      rw [hw]
      exact awfOps_awp rest _ _ _ hK h
    · simp at h
theorem awfReg_awp {α : Type} {ops : Array Oper} {drawn : Bool} {s : S U} {K : S U → Option α} {K' : S U → Prop} {r : α} (hK : ∀ s', K s' = some r → K' s') (h : awfReg M ops drawn s K = some r) : awpReg M ops drawn s K' := by
  unfold awfReg at h
  unfold awpReg
  refine awfOps_awp _ _ _ _ (fun s' fs h' => ?_) h
  cases drawn with
  | false => exact hK s' h'
  | true =>
    dsimp only at h' ⊢
    unfold ifO at h'
    unfold iff'
    split at h'
    · rename_i hb; rw [hb]; exact hK s' h'
    · simp at h'
theorem normO_awp {α : Type} {n : NS} {s : S U} {K : S U → Option α} {K' : S U → Prop} {r : α} (hK : ∀ s', K s' = some r → K' s') (h : normO n K s = some r) : normK n K' s := by
  unfold normO at h
  unfold normK
  split at h
  · rename_i s1 h1; rw [h1]; exact hK s1 h
  · simp at h
theorem awf_awp : ∀ (c : Code) {α : Type} {s : S U} {Q : Exit → S U → Option α} {Q' : Exit → S U → Prop} {r : α}, (∀ e s', Q e s' = some r → Q' e s') → awf M N c s Q = some r → awp M N c s Q'
  | .skip, _, _, _, _, _, hQ, h => hQ _ _ h
  | .region _ _ _, _, _, _, _, _, hQ, h => awfReg_awp (hQ _) h
  | .seq a b, _, s, Q, Q', r, hQ, h => by
    refine awf_awp a (fun e s' h' => ?_) h
    cases e <;> first | exact awf_awp b hQ h' | exact hQ _ _ h'
  | .cond c a b, _, s, Q, Q', r, hQ, h => by
    simp only [awf] at h
    simp only [awp]
    split at h
    · rename_i x hx
      rw [hx]
      dsimp only
      cases x
      · exact awf_awp b hQ h
      · exact awf_awp a hQ h
    · simp at h
  | .block id c, _, s, Q, Q', r, hQ, h => by
    refine awf_awp c (fun e s' h' => ?_) h
    cases e <;> first | exact hQ _ _ h' | (simp only [blockF] at h'; simp only [blockK]; split at h' <;> rename_i hh <;> simp only [hh, if_true, if_false] <;> exact hQ _ _ h')
  | .loop c, α, s, Q, Q', r, hQ, h => by
    refine normO_awp (n := N (lid c)) (K' := itersK (N (lid c)) (awp M N c) Q') (fun s1 h1 => ?_) h
    obtain ⟨p, hp, hq⟩ := Option.bind_eq_some_iff.1 h1
    refine loop_run (step := stepF (N (lid c)) (fun s' Q' => awf M N c s' Q')) (I := itersK (N (lid c)) (awp M N c) Q') (J := fun p => Q' p.1 p.2) ?_ hp (hQ _ _ hq)
    intro s2 o ho hI
    unfold stepF at ho
    obtain ⟨⟨e, s3⟩, h3, h4⟩ := Option.bind_eq_some_iff.1 ho
    have key : ∀ k, (∀ s4, s3.norm (N (lid c)) = some s4 → (e = .normal → iterK (N (lid c)) (awp M N c) Q' k s4) ∧ (e ≠ .normal → Q' e s4)) → (∃ s4, s3.norm (N (lid c)) = some s4) → itersK (N (lid c)) (awp M N c) Q' s2 := by
      intro k hk hs
      refine ⟨k + 1, ?_⟩
      simp only [iterK]
      refine awf_awp c (fun e' s' h' => ?_) h3
      simp only [pureX, Option.some.injEq, Prod.mk.injEq] at h'
      obtain ⟨rfl, rfl⟩ := h'
      obtain ⟨s4, hs4⟩ := hs
      obtain ⟨k1, k2⟩ := hk s4 hs4
      cases e' <;> simp only [roundK, normK, hs4] <;> first | exact k1 rfl | exact k2 (by simp)
    cases e with
    | normal =>
      obtain ⟨s4, h5, h6⟩ := Option.bind_eq_some_iff.1 h4
      cases h6
      obtain ⟨k, hk⟩ := hI
      exact key k (fun s4' h' => by rw [h5] at h'; cases h'; exact ⟨fun _ => hk, fun hn => (hn rfl).elim⟩) ⟨s4, h5⟩
    | _ =>
      obtain ⟨s4, h5, h6⟩ := Option.bind_eq_some_iff.1 h4
      cases h6
      exact key 0 (fun s4' h' => by rw [h5] at h'; cases h'; exact ⟨fun hn => by simp at hn, fun _ => hI⟩) ⟨s4, h5⟩
  | .exit _, _, _, _, _, _, hQ, h => hQ _ _ h
  | .ret, _, _, _, _, _, hQ, h => hQ _ _ h
  | .scope _, _, _, _, _, _, _, h => by simp [awf] at h
  | .label _, _, _, _, _, _, _, h => by simp [awf] at h
  | .goto _, _, _, _, _, _, _, h => by simp [awf] at h
  | .refuse _, _, _, _, _, _, _, h => by simp [awf] at h
  | .rangeFunc _ _ _ _, _, _, _, _, _, _, h => by simp [awf] at h

/-! ### what a function gives -/
abbrev RF (U : Uni) : Type := List (A U) × List (Ob U)
abbrev RGF (U : Uni) : Type := List (A U) × List (Bool × List (C U)) × List (Ob U)
def retF0 (M : Mc U) (rv : List ResultVar) (fm : List Kind) (s : S U) : Option (RF U) :=
  match s.ress M rv with
  | some al => match s.out fm al with
    | some (rs, os) => some (rs, os)
    | none => none
  | none => none
def retF (M : Mc U) (rv : List ResultVar) (fm : List Kind) : Exit → S U → Option (RF U)
  | .ret, s => retF0 M rv fm s
  | .normal, s => retF0 M rv fm s
  | _, _ => none
def retGF0 (M : Mc U) (nb : Nat) (rv : List ResultVar) (fm : List Kind) (s : S U) : Option (RGF U) :=
  match s.ress M rv, s.boxesAt (List.range nb) with
  | some al, some bs => match s.out fm (boxAs bs ++ al) with
    | some (rs, os) => match splitB bs rs with
      | some (bs', rs') => some (rs', bs', os)
      | none => none
    | none => none
  | _, _ => none
def retGF (M : Mc U) (nb : Nat) (rv : List ResultVar) (fm : List Kind) : Exit → S U → Option (RGF U)
  | .ret, s => retGF0 M nb rv fm s
  | .normal, s => retGF0 M nb rv fm s
  | _, _ => none
theorem retF_awp {rv : List ResultVar} {fm : List Kind} {r : RF U} : ∀ e s, retF M rv fm e s = some r → retQ M rv fm (fun rs os => rs = r.1 ∧ os = r.2) e s := by
  have key : ∀ s, retF0 M rv fm s = some r → retK M rv fm (fun rs os => rs = r.1 ∧ os = r.2) s := by
    intro s h
    unfold retF0 at h
    unfold retK
    split at h
    · rename_i al h1
      rw [h1]; dsimp only
      split at h
      · rename_i rs os h2; rw [h2]; cases h; exact ⟨rfl, rfl⟩
      · simp at h
    · simp at h
  intro e s h
  cases e <;> first | exact key s h | simp [retF] at h
theorem retGF_awp {nb : Nat} {rv : List ResultVar} {fm : List Kind} {r : RGF U} : ∀ e s, retGF M nb rv fm e s = some r → retGQ M nb rv fm (fun rs bs os => rs = r.1 ∧ bs = r.2.1 ∧ os = r.2.2) e s := by
  have key : ∀ s, retGF0 M nb rv fm s = some r → retGK M nb rv fm (fun rs bs os => rs = r.1 ∧ bs = r.2.1 ∧ os = r.2.2) s := by
    intro s h
    unfold retGF0 at h
    unfold retGK
    split at h
    · rename_i al bs h1 h2
      rw [h1, h2]; dsimp only
      split at h
      · rename_i rs os h3
        rw [h3]; dsimp only
        split at h
        · rename_i bs' rs' h4; rw [h4]; cases h; exact ⟨rfl, rfl, rfl⟩
        · simp at h
      · simp at h
    · simp at h
  intro e s h
  cases e <;> first | exact key s h | simp [retGF] at h
theorem run_of_awf {c : Code} {s : S U} {rv : List ResultVar} {fm : List Kind} {r : RF U} (h : awf M N c s (retF M rv fm) = some r) : Runs (awp M N c s (retQ M rv fm fun rs os => rs = r.1 ∧ os = r.2)) :=
  ⟨awf_awp c retF_awp h⟩
theorem runG_of_awf {c : Code} {s : S U} {nb : Nat} {rv : List ResultVar} {fm : List Kind} {r : RGF U} (h : awf M N c s (retGF M nb rv fm) = some r) : Runs (awp M N c s (retGQ M nb rv fm fun rs bs os => rs = r.1 ∧ bs = r.2.1 ∧ os = r.2.2)) :=
  ⟨awf_awp c retGF_awp h⟩
theorem loop_bind {n : NS} {c : Code} {s : S U} {α : Type} {Q : Exit → S U → Option α} {p : EX U} (h : loopF n (fun s' Q' => awf M N c s' Q') s = some p) : (loopF n (fun s' Q' => awf M N c s' Q') s).bind (thenX Q) = Q p.1 p.2 := by rw [h]; rfl
end

theorem fn_contractF {M : Mc Un} {fns : FuncId → Option (FnC Un)} {fvs : FuncId → Option (FV Un)} {clo : FuncId → Option (List (List (DC Un)) → Option (FV Un))} {gns : FuncId → Option (List Bool × FnG Un)} {ups : FuncId → Option (FnU Un)} (hM : M = mach fns fvs clo gns ups) (hF : FnsOK Try.prog (mach fns fvs clo gns ups))
    {f : FuncId} {fn : Func} (hf : Try.prog.funcs[f]? = some fn) (hb : fn.body = some (bodyOf fn)) (N : Nat → NS) (x : Nat) (fm : List Kind) {args : List (D Un)} {rs : List (A Un)} {os : List (Ob Un)}
    (h : (∀ a ∈ args, DWf En a) → awf M N (bodyOf fn) (entry fn.ntmps x args) (retF M fn.results.toList fm) = some (rs, os)) : Contract Try.prog En f args rs os :=
  fn_contract hM hF hf hb N x fm fun ha => run_of_awf (r := (rs, os)) (h ha)

/-! ### loops over a list -/
theorem wrap_next {n i : Nat} (hi : i < n) (hn : n ≤ 9223372036854775807) : IntKind.i64.wrap ((i : Int) + 1) = ((i + 1 : Nat) : Int) := by
  rw [IntKind.wrap_i64]; omega
/-- A loop that goes through a list, one state from the other. -/
theorem loop_fold {σ α : Type} {L : S Un → Option (EX Un)} {st : σ → Int → S Un} {l : List α} {d : α} {g : σ → α → σ} (Inv : Nat → σ → Prop) (hl : l.length ≤ 9223372036854775807)
    (step : ∀ (a : σ) (i : Nat) (x : α), (i : Int) < (l.length : Int) → l.getD i d = x → Inv i a → Inv (i + 1) (g a x) ∧ L (st a i) = L (st (g a x) (IntKind.i64.wrap ((i : Int) + 1))))
    {e : Exit} (stop : ∀ a, Inv l.length a → L (st a (l.length : Int)) = some (e, st a (l.length : Int))) (a : σ) (h0 : Inv 0 a) :
    L (st a (0 : Int)) = some (e, st (l.foldl g a) (l.length : Int)) ∧ Inv l.length (l.foldl g a) := by
  have key : ∀ (r : List α) (i : Nat) (a : σ), l.drop i = r → i ≤ l.length → Inv i a → L (st a i) = some (e, st (r.foldl g a) (l.length : Int)) ∧ Inv l.length (r.foldl g a) := by
    intro r
    induction r with
    | nil =>
      intro i a hr hi hI
      have : l.length ≤ i := by rw [← List.drop_eq_nil_iff]; exact hr
      obtain rfl : i = l.length := by omega
      exact ⟨stop a hI, hI⟩
    | cons x r ih =>
      intro i a hr hi hI
      have hlt : i < l.length := by
        rcases Nat.lt_or_ge i l.length with g | g
        · exact g
        · rw [List.drop_of_length_le g] at hr; simp at hr
      have hx : l.getD i d = x := by
        rw [List.drop_eq_getElem_cons hlt] at hr
        rw [List.getD_eq_getElem?_getD, List.getElem?_eq_getElem hlt]
        exact (List.cons.inj hr).1
      have hr' : l.drop (i + 1) = r := by
        rw [List.drop_eq_getElem_cons hlt] at hr
        exact (List.cons.inj hr).2
      obtain ⟨h1, h2⟩ := step a i x (by omega) hx hI
      rw [h2, wrap_next hlt hl]
      exact ih (i + 1) (g a x) hr' hlt h1
  exact key l 0 a rfl (Nat.zero_le _) h0
theorem loop_end {α : Type} {X : Option (EX Un)} {e : Exit} {s : S Un} {C : Exit → S Un → Option α} (h : X = some (e, s)) : X.bind (thenX C) = C e s := by rw [h]; rfl
/-- A way through a list that may end early. -/
def scanI {σ ρ α : Type} (f : σ → Nat → α → σ ⊕ ρ) : Nat → List α → σ → σ ⊕ ρ
  | _, [], a => .inl a
  | i, x :: l, a => match f a i x with | .inl b => scanI f (i + 1) l b | .inr r => .inr r
theorem loop_scan {σ α : Type} {L : S Un → Option (EX Un)} {st : σ → Int → S Un} {l : List α} {d : α} {f : σ → Nat → α → σ ⊕ EX Un} (Inv : Nat → σ → Prop) (hl : l.length ≤ 9223372036854775807)
    (step : ∀ (a : σ) (i : Nat) (x : α), (i : Int) < (l.length : Int) → l.getD i d = x → Inv i a → match f a i x with | .inl b => Inv (i + 1) b ∧ L (st a i) = L (st b (IntKind.i64.wrap ((i : Int) + 1))) | .inr r => L (st a i) = some r)
    {e : Exit} (stop : ∀ a, Inv l.length a → L (st a (l.length : Int)) = some (e, st a (l.length : Int))) (a : σ) (h0 : Inv 0 a) :
    match scanI f 0 l a with | .inl b => L (st a (0 : Int)) = some (e, st b (l.length : Int)) ∧ Inv l.length b | .inr r => L (st a (0 : Int)) = some r := by
  have key : ∀ (r : List α) (i : Nat) (a : σ), l.drop i = r → i ≤ l.length → Inv i a → match scanI f i r a with | .inl b => L (st a i) = some (e, st b (l.length : Int)) ∧ Inv l.length b | .inr r => L (st a i) = some r := by
    intro r
    induction r with
    | nil =>
      intro i a hr hi hI
      have : l.length ≤ i := by rw [← List.drop_eq_nil_iff]; exact hr
      obtain rfl : i = l.length := by omega
      exact ⟨stop a hI, hI⟩
    | cons x r ih =>
      intro i a hr hi hI
      have hlt : i < l.length := by
        rcases Nat.lt_or_ge i l.length with g | g
        · exact g
        · rw [List.drop_of_length_le g] at hr; simp at hr
      have hx : l.getD i d = x := by
        rw [List.drop_eq_getElem_cons hlt] at hr
        rw [List.getD_eq_getElem?_getD, List.getElem?_eq_getElem hlt]
        exact (List.cons.inj hr).1
      have hr' : l.drop (i + 1) = r := by
        rw [List.drop_eq_getElem_cons hlt] at hr
        exact (List.cons.inj hr).2
      have hs := step a i x (by omega) hx hI
      simp only [scanI]
      split at hs
      · rename_i b hb
        obtain ⟨h1, h2⟩ := hs
        rw [hb, h2, wrap_next hlt hl]
        exact ih (i + 1) b hr' hlt h1
      · rename_i q hb
        rw [hb]; exact hs
  exact key l 0 a rfl (Nat.zero_le _) h0
/-! ### shorter words for states -/
/-- The bits of a number, as many as asked. -/
def bl : Nat → Nat → List Bool
  | 0, _ => []
  | k + 1, m => Nat.beq (m % 2) 1 :: bl k (m / 2)
def ai (n : Int) : AV Un := .one (.c (.s (.int .i64 n)))
def ab (b : Bool) : AV Un := .one (.c (.s (.bool b)))
def at_ (b : ByteArray) : AV Un := .one (.c (.s (.string b)))
def ax (k : Nat) : AV Un := .one (.c (.bx k 0))
def al (τ : Ty) (l : List (Den τ)) : AV Un := .one (.c (.sl (U := Un) τ l false))
def ag (τ : Ty) (x : Den τ) : AV Un := .one (.agg (encC τ x))
def ao (k : Nat) : AV Un := .one (.c (.ob k 0))
def bi (n : Int) : Option (Bool × List (C Un)) := some (false, [.s (.int .i64 n)])
def bb (n : Bool) : Option (Bool × List (C Un)) := some (false, [.s (.bool n)])
def bg (τ : Ty) (x : Den τ) : Option (Bool × List (C Un)) := some (false, encC τ x)
def bo (k : Nat) : Option (Bool × List (C Un)) := some (false, [.ob k 0])
def bls (τ : Ty) (l : List (Den τ)) : Option (Bool × List (C Un)) := some (false, [.sl (U := Un) τ l false])
def Term.ids (x : Term) : Term := .mk (Term.op x) (Term.v x) (Term.depth x) (Term.at_ x) (Term.name x) (Term.kids x) (Term.sub x) (Term.type x)
theorem Term.ids_eq (x : Term) : Term.ids x = x := by cases x; rfl
def Agg.ids (x : Agg) : Agg := .mk (Agg.name x) (Agg.distinct x) (Agg.t x)
theorem Agg.ids_eq (x : Agg) : Agg.ids x = x := by cases x; rfl
def Rel.ids (x : Rel) : Rel := .mk (Rel.op x) (Rel.table x) (Rel.cols x) (Rel.kids x) (Rel.terms x) (Rel.aggs x) (Rel.keys x) (Rel.limit x) (Rel.skip x) (Rel.all x) (Rel.rows x)
theorem Rel.ids_eq (x : Rel) : Rel.ids x = x := by cases x; rfl
def Plan.ids (x : Plan) : Plan := .mk (Plan.op x) (Plan.table x) (Plan.index x) (Plan.cols x) (Plan.kids x) (Plan.terms x) (Plan.lkeys x) (Plan.rkeys x) (Plan.aggs x) (Plan.keys x) (Plan.out x) (Plan.lo x) (Plan.hi x) (Plan.limit x) (Plan.skip x) (Plan.all x) (Plan.rows x) (Plan.est x) (Plan.cost x)
theorem Plan.ids_eq (x : Plan) : Plan.ids x = x := by cases x; rfl
end Go.Proofs.Ytaepcbdcjbfgjaa.B
