/- Part 4 of the proof: BAwf Sspec Sterms Stermsz Sconjspec Ssorted Lown Lclone Lput Shelf Lsort SconjU Sconj2 Sconj3 Sleavesp Lbulksz. -/
import Derived.Shelf.SlicesE.Clone
import Derived.Sort.Grow
import Derived.Shelf.Small.Bits
import Derived.Shelf.Small.Wraps
import Derived.Shelf.Strconv.Itoa0
import Derived.Shelf.Sort.Plain
import Derived.Shelf.GgClosure.StringsIndexFunc
import Derived.Ground.GgwProg
import Derived.Shelf.GgClosure.StringsIndexFuncTop
import Derived.Shelf.GgClosure.StringsRunes
import Derived.Shelf.Strings.FuncGrows
import Derived.Shelf.Slices.Turned
import Derived.Ground.Names2Prog
import Derived.Shelf.Slices.CompactI
import Derived.Shelf.Slices.SearchI
import Derived.Shelf.Slices.Cells
import Derived.Shelf.Slices.In.SortNone
import Derived.Test.YtmpnompddfhkeaaGreatProg
import Derived.Test.YtmpnompddfhkeaaGreatGL3
namespace Go.Proofs.YtmpnompddfhkeaaGreat.B
open Go Go.RowKit
section
variable {U : Uni} {M : Mc U} {N : Nat → NS}
noncomputable def obO {α : Type} (p : Prop) (x : Option α) : Option α := @ite _ p (Classical.propDecidable p) x none
noncomputable def obsO {α : Type} : List Prop → Option α → Option α
  | [], x => x
  | p :: ps, x => obO p (obsO ps x)
theorem obO_pos {α : Type} {p : Prop} (h : p) {x : Option α} : obO p x = x := if_pos h
theorem obO_some {α : Type} {p : Prop} {x : Option α} {r : α} (h : obO p x = some r) : p ∧ x = some r := by
  unfold obO at h; split at h
  · exact ⟨by assumption, h⟩
  · simp at h
theorem obsO_some {α : Type} : ∀ {ps : List Prop} {x : Option α} {r : α}, obsO ps x = some r → (∀ p ∈ ps, p) ∧ x = some r
  | [], _, _, h => ⟨by simp, h⟩
  | p :: ps, x, r, h => by
    obtain ⟨h1, h2⟩ := obO_some h
    obtain ⟨h3, h4⟩ := obsO_some h2
    exact ⟨fun q hq => by rcases List.mem_cons.1 hq with rfl | hq; exact h1; exact h3 q hq, h4⟩
theorem obO_bind {α β : Type} {p : Prop} {x : Option α} {f : α → Option β} : (obO p x).bind f = obO p (x.bind f) := by
  unfold obO; split <;> rfl
theorem obsO_bind {α β : Type} {f : α → Option β} : ∀ {ps : List Prop} {x : Option α}, (obsO ps x).bind f = obsO ps (x.bind f)
  | [], _ => rfl
  | p :: ps, x => by simp only [obsO, obO_bind, obsO_bind]
def cndO {α : Type} (b : Bool) (x y : Option α) : Option α := match b with | true => x | false => y
theorem cndO_eq {α : Type} {b : Bool} {x y : Option α} : cndO b x y = if b = true then x else y := by cases b <;> rfl
noncomputable def execF {α : Type} (ops : List Oper) (i : Nat) (o : Oper) (s : S U) (r : Res U) (K : S U → Option α) : Option α :=
  obsO r.ob (match isGuard ops i, r.v with
    | true, .one (.c (.s (.bool x))) => cndO x (K (s.upd o.dst { r with v := .one (.c (.s (.bool true))) })) (K (s.upd o.dst { r with v := .one (.c (.s (.bool false))) }))
    | _, _ => K (s.upd o.dst r))
noncomputable def awfOps {α : Type} (M : Mc U) (ops : List Oper) : List Oper → Nat → S U → List Fp → (S U → List Fp → Option α) → Option α
  | [], _, s, fs, K => K s fs
  | o :: rest, i, s, fs, K =>
    match wantK ops s o with
    | some true => match eff M s o with
      | some r => execF ops i o s r fun s' => awfOps M ops rest (i + 1) s' (s.fp M ops o r :: fs) K
      | none => none
    | some false => awfOps M ops rest (i + 1) (s.upd o.dst undefR) (S.fp0 ops o :: fs) K
    | none => none
def ifO {α : Type} (b : Bool) (x : Option α) : Option α := match b with | true => x | false => none
noncomputable def awfReg {α : Type} (M : Mc U) (ops : Array Oper) (drawn : Bool) (s : S U) (K : S U → Option α) : Option α :=
  awfOps M ops.toList ops.toList 0 s [] fun s' fs => match drawn with
    | false => K s'
    | true => ifO (edgesOK 0 ops.toList && apartAll (befores ops.toList []) 0 [] fs.reverse) (K s')
abbrev EX (U : Uni) : Type := Exit × S U
def pureX (e : Exit) (s : S U) : Option (EX U) := some (e, s)
def normO {α : Type} (n : NS) (K : S U → Option α) (s : S U) : Option α := match s.norm n with | some s1 => K s1 | none => none
def stepF (n : NS) (body : S U → (Exit → S U → Option (EX U)) → Option (EX U)) (s : S U) : Option (S U ⊕ EX U) :=
  (body s pureX).bind fun p => match p.1 with
    | .normal => (p.2.norm n).bind fun s1 => some (.inl s1)
    | e => (p.2.norm n).bind fun s1 => some (.inr (e, s1))
noncomputable def loopF (n : NS) (body : S U → (Exit → S U → Option (EX U)) → Option (EX U)) (s : S U) : Option (EX U) := loopO (stepF n body) s
def roundF (n : NS) (I : S U → Option (EX U)) : Exit → S U → Option (EX U)
  | .normal, s => normO n I s
  | e, s => normO n (fun s1 => some (e, s1)) s
def thenF {α : Type} (next : S U → Option α) (Q : Exit → S U → Option α) : Exit → S U → Option α
  | .normal, s => next s
  | e, s => Q e s
def blockF {α : Type} (id : Nat) (Q : Exit → S U → Option α) : Exit → S U → Option α
  | .exit id', s => if id' = id then Q .normal s else Q (.exit id') s
  | e, s => Q e s
def thenX {α : Type} (Q : Exit → S U → Option α) (p : EX U) : Option α := Q p.1 p.2
noncomputable def awf (M : Mc U) (N : Nat → NS) : Code → {α : Type} → S U → (Exit → S U → Option α) → Option α
  | .skip, _, s, Q => Q .normal s
  | .region _ ops drawn, _, s, Q => awfReg M ops drawn s (Q .normal)
  | .seq a b, _, s, Q => awf M N a s (thenF (fun s' => awf M N b s' Q) Q)
  | .cond c a b, _, s, Q => match s.ev M c with
    | some (.one (.c (.s (.bool x)))) => cndO x (awf M N a s Q) (awf M N b s Q)
    | _ => none
  | .block id c, _, s, Q => awf M N c s (blockF id Q)
  | .loop c, _, s, Q => normO (N (lid c)) (fun s1 => (loopF (N (lid c)) (fun s' Q' => awf M N c s' Q') s1).bind (thenX Q)) s
  | .exit id, _, s, Q => Q (.exit id) s
  | .ret, _, s, Q => Q .ret s
  | _, _, _, _ => none
noncomputable def ctxF {α : Type} (M : Mc U) (N : Nat → NS) : Code → List Nat → (Exit → S U → Option α) → Exit → S U → Option α
  | .seq a b, k :: p, Q => match k with | 0 => ctxF M N a p (thenF (fun s' => awf M N b s' Q) Q) | _ => ctxF M N b p Q
  | .block id c, _ :: p, Q => ctxF M N c p (blockF id Q)
  | .cond _ a b, k :: p, Q => match k with | 3 => ctxF M N a p Q | _ => ctxF M N b p Q
  | _, _, Q => Q
theorem awfOps_bind {α β : Type} {ops : List Oper} {f : α → Option β} : ∀ (l : List Oper) (i : Nat) (s : S U) (fs : List Fp) (K : S U → List Fp → Option α),
    (awfOps M ops l i s fs K).bind f = awfOps M ops l i s fs fun s' fs' => (K s' fs').bind f
  | [], _, _, _, _ => rfl
  | o :: rest, i, s, fs, K => by
    simp only [awfOps]
    split
    · split
      · rename_i r _
        unfold execF
        rw [obsO_bind]
        congr 1
        split
        · rename_i b _ _
          cases b
          · exact awfOps_bind rest _ _ _ K
          · exact awfOps_bind rest _ _ _ K
        · exact awfOps_bind rest _ _ _ K
      · rfl
    · exact awfOps_bind rest _ _ _ K
    · rfl
theorem awfReg_bind {α β : Type} {ops : Array Oper} {drawn : Bool} {s : S U} {K : S U → Option α} {f : α → Option β} : (awfReg M ops drawn s K).bind f = awfReg M ops drawn s fun s' => (K s').bind f := by
  unfold awfReg
  rw [awfOps_bind]
  congr 1
  funext s' fs
  cases drawn with
  | false => rfl
  | true => dsimp only; unfold ifO; split <;> rfl
theorem normO_bind {α β : Type} {n : NS} {K : S U → Option α} {s : S U} {f : α → Option β} : (normO n K s).bind f = normO n (fun s1 => (K s1).bind f) s := by
  unfold normO; split <;> rfl
theorem awf_bind {α β : Type} {f : α → Option β} : ∀ (c : Code) (s : S U) (Q : Exit → S U → Option α), (awf M N c s Q).bind f = awf M N c s fun e s' => (Q e s').bind f
  | .skip, _, _ => rfl
  | .region _ _ _, _, _ => awfReg_bind
  | .seq a b, s, Q => by
    simp only [awf]
    rw [awf_bind a]
    congr 1
    funext e s'
    cases e <;> first | rfl | exact awf_bind b s' Q
  | .cond c a b, s, Q => by
    simp only [awf]
    split
    · rename_i x _
      cases x
      · exact awf_bind b s Q
      · exact awf_bind a s Q
    · rfl
  | .block id c, s, Q => by
    simp only [awf]
    rw [awf_bind c]
    congr 1
    funext e s'
    cases e <;> first | rfl | (simp only [blockF]; split <;> rfl)
  | .loop c, s, Q => by
    simp only [awf]
    rw [normO_bind]
    congr 1
    funext s1
    rw [Option.bind_assoc]
    rfl
  | .exit _, _, _ => rfl
  | .ret, _, _ => rfl
  | .scope _, _, _ => rfl
  | .label _, _, _ => rfl
  | .goto _, _, _ => rfl
  | .refuse _, _, _ => rfl
  | .rangeFunc _ _ _ _, _, _ => rfl
theorem awf_pure {α : Type} (c : Code) (s : S U) (Q : Exit → S U → Option α) : awf M N c s Q = (awf M N c s pureX).bind (thenX Q) := by
  rw [awf_bind]; rfl
theorem loopF_eq (n : NS) (c : Code) (s : S U) : loopF n (fun s' Q' => awf M N c s' Q') s = awf M N c s (roundF n (loopF n (fun s' Q' => awf M N c s' Q'))) := by
  rw [awf_pure c s (roundF n _)]
  unfold loopF
  rw [loopO_eq]
  conv => lhs; arg 2; unfold stepF; dsimp only
  cases h : awf M N c s pureX with
  | none => simp only [Option.bind_none, stepB_none]
  | some p =>
    obtain ⟨e, s'⟩ := p
    simp only [Option.bind_some, thenX]
    cases e <;> simp only [roundF, normO] <;> cases s'.norm n <;> rfl
theorem awfOps_awp {α : Type} {ops : List Oper} {r : α} : ∀ (l : List Oper) (i : Nat) (s : S U) (fs : List Fp) {K : S U → List Fp → Option α} {K' : S U → List Fp → Prop}, (∀ s' fs', K s' fs' = some r → K' s' fs') →
    awfOps M ops l i s fs K = some r → awpOps M ops l i s fs K'
  | [], _, s, fs, _, _, hK, h => hK s fs h
  | o :: rest, i, s, fs, K, K', hK, h => by
    simp only [awfOps] at h
    simp only [awpOps]
    split at h
    · rename_i hw
      rw [hw]
      dsimp only
      split at h
      · rename_i x hx
        rw [hx]
        unfold execF at h
        unfold execK
        obtain ⟨h1, h2⟩ := obsO_some h
        refine obs_iff.2 ⟨h1, ?_⟩
        split at h2
        · rename_i b hg hv
          rw [hg, hv]
          dsimp only
          cases b
          · exact awfOps_awp rest _ _ _ hK h2
          · exact awfOps_awp rest _ _ _ hK h2
        · rename_i hno
          split
          · rename_i b hg hv; exact absurd hv (hno b hg)
          · exact awfOps_awp rest _ _ _ hK h2
      · simp at h
    · rename_i hw
      rw [hw]
      exact awfOps_awp rest _ _ _ hK h
    · simp at h
theorem awfReg_awp {α : Type} {ops : Array Oper} {drawn : Bool} {s : S U} {K : S U → Option α} {K' : S U → Prop} {r : α} (hK : ∀ s', K s' = some r → K' s') (h : awfReg M ops drawn s K = some r) : awpReg M ops drawn s K' := by
  unfold awfReg at h
  unfold awpReg
  refine awfOps_awp _ _ _ _ (fun s' fs h' => ?_) h
  cases drawn with
  | false => exact hK s' h'
  | true =>
    dsimp only at h' ⊢
    unfold ifO at h'
    unfold iff'
    split at h'
    · rename_i hb; rw [hb]; exact hK s' h'
    · simp at h'
theorem normO_awp {α : Type} {n : NS} {s : S U} {K : S U → Option α} {K' : S U → Prop} {r : α} (hK : ∀ s', K s' = some r → K' s') (h : normO n K s = some r) : normK n K' s := by
  unfold normO at h
  unfold normK
  split at h
  · rename_i s1 h1; rw [h1]; exact hK s1 h
  · simp at h
theorem awf_awp : ∀ (c : Code) {α : Type} {s : S U} {Q : Exit → S U → Option α} {Q' : Exit → S U → Prop} {r : α}, (∀ e s', Q e s' = some r → Q' e s') → awf M N c s Q = some r → awp M N c s Q'
  | .skip, _, _, _, _, _, hQ, h => hQ _ _ h
  | .region _ _ _, _, _, _, _, _, hQ, h => awfReg_awp (hQ _) h
  | .seq a b, _, s, Q, Q', r, hQ, h => by
    refine awf_awp a (fun e s' h' => ?_) h
    cases e <;> first | exact awf_awp b hQ h' | exact hQ _ _ h'
  | .cond c a b, _, s, Q, Q', r, hQ, h => by
    simp only [awf] at h
    simp only [awp]
    split at h
    · rename_i x hx
      rw [hx]
      dsimp only
      cases x
      · exact awf_awp b hQ h
      · exact awf_awp a hQ h
    · simp at h
  | .block id c, _, s, Q, Q', r, hQ, h => by
    refine awf_awp c (fun e s' h' => ?_) h
    cases e <;> first | exact hQ _ _ h' | (simp only [blockF] at h'; simp only [blockK]; split at h' <;> rename_i hh <;> simp only [hh, if_true, if_false] <;> exact hQ _ _ h')
  | .loop c, α, s, Q, Q', r, hQ, h => by
    refine normO_awp (n := N (lid c)) (K' := itersK (N (lid c)) (awp M N c) Q') (fun s1 h1 => ?_) h
    obtain ⟨p, hp, hq⟩ := Option.bind_eq_some_iff.1 h1
    refine loop_run (step := stepF (N (lid c)) (fun s' Q' => awf M N c s' Q')) (I := itersK (N (lid c)) (awp M N c) Q') (J := fun p => Q' p.1 p.2) ?_ hp (hQ _ _ hq)
    intro s2 o ho hI
    unfold stepF at ho
    obtain ⟨⟨e, s3⟩, h3, h4⟩ := Option.bind_eq_some_iff.1 ho
    have key : ∀ k, (∀ s4, s3.norm (N (lid c)) = some s4 → (e = .normal → iterK (N (lid c)) (awp M N c) Q' k s4) ∧ (e ≠ .normal → Q' e s4)) → (∃ s4, s3.norm (N (lid c)) = some s4) → itersK (N (lid c)) (awp M N c) Q' s2 := by
      intro k hk hs
      refine ⟨k + 1, ?_⟩
      simp only [iterK]
      refine awf_awp c (fun e' s' h' => ?_) h3
      simp only [pureX, Option.some.injEq, Prod.mk.injEq] at h'
      obtain ⟨rfl, rfl⟩ := h'
      obtain ⟨s4, hs4⟩ := hs
      obtain ⟨k1, k2⟩ := hk s4 hs4
      cases e' <;> simp only [roundK, normK, hs4] <;> first | exact k1 rfl | exact k2 (by simp)
    cases e with
    | normal =>
      obtain ⟨s4, h5, h6⟩ := Option.bind_eq_some_iff.1 h4
      cases h6
      obtain ⟨k, hk⟩ := hI
      exact key k (fun s4' h' => by rw [h5] at h'; cases h'; exact ⟨fun _ => hk, fun hn => (hn rfl).elim⟩) ⟨s4, h5⟩
    | _ =>
      obtain ⟨s4, h5, h6⟩ := Option.bind_eq_some_iff.1 h4
      cases h6
      exact key 0 (fun s4' h' => by rw [h5] at h'; cases h'; exact ⟨fun hn => by simp at hn, fun _ => hI⟩) ⟨s4, h5⟩
  | .exit _, _, _, _, _, _, hQ, h => hQ _ _ h
  | .ret, _, _, _, _, _, hQ, h => hQ _ _ h
  | .scope _, _, _, _, _, _, _, h => by simp [awf] at h
  | .label _, _, _, _, _, _, _, h => by simp [awf] at h
  | .goto _, _, _, _, _, _, _, h => by simp [awf] at h
  | .refuse _, _, _, _, _, _, _, h => by simp [awf] at h
  | .rangeFunc _ _ _ _, _, _, _, _, _, _, h => by simp [awf] at h
abbrev RF (U : Uni) : Type := List (A U) × List (Ob U)
abbrev RGF (U : Uni) : Type := List (A U) × List (Bool × List (C U)) × List (Ob U)
def retF0 (M : Mc U) (rv : List ResultVar) (fm : List Kind) (s : S U) : Option (RF U) :=
  match s.ress M rv with
  | some al => match s.out fm al with
    | some (rs, os) => some (rs, os)
    | none => none
  | none => none
def retF (M : Mc U) (rv : List ResultVar) (fm : List Kind) : Exit → S U → Option (RF U)
  | .ret, s => retF0 M rv fm s
  | .normal, s => retF0 M rv fm s
  | _, _ => none
def retGF0 (M : Mc U) (nb : Nat) (rv : List ResultVar) (fm : List Kind) (s : S U) : Option (RGF U) :=
  match s.ress M rv, s.boxesAt (List.range nb) with
  | some al, some bs => match s.out fm (boxAs bs ++ al) with
    | some (rs, os) => match splitB bs rs with
      | some (bs', rs') => some (rs', bs', os)
      | none => none
    | none => none
  | _, _ => none
def retGF (M : Mc U) (nb : Nat) (rv : List ResultVar) (fm : List Kind) : Exit → S U → Option (RGF U)
  | .ret, s => retGF0 M nb rv fm s
  | .normal, s => retGF0 M nb rv fm s
  | _, _ => none
theorem retF_awp {rv : List ResultVar} {fm : List Kind} {r : RF U} : ∀ e s, retF M rv fm e s = some r → retQ M rv fm (fun rs os => rs = r.1 ∧ os = r.2) e s := by
  have key : ∀ s, retF0 M rv fm s = some r → retK M rv fm (fun rs os => rs = r.1 ∧ os = r.2) s := by
    intro s h
    unfold retF0 at h
    unfold retK
    split at h
    · rename_i al h1
      rw [h1]; dsimp only
      split at h
      · rename_i rs os h2; rw [h2]; cases h; exact ⟨rfl, rfl⟩
      · simp at h
    · simp at h
  intro e s h
  cases e <;> first | exact key s h | simp [retF] at h
theorem retGF_awp {nb : Nat} {rv : List ResultVar} {fm : List Kind} {r : RGF U} : ∀ e s, retGF M nb rv fm e s = some r → retGQ M nb rv fm (fun rs bs os => rs = r.1 ∧ bs = r.2.1 ∧ os = r.2.2) e s := by
  have key : ∀ s, retGF0 M nb rv fm s = some r → retGK M nb rv fm (fun rs bs os => rs = r.1 ∧ bs = r.2.1 ∧ os = r.2.2) s := by
    intro s h
    unfold retGF0 at h
    unfold retGK
    split at h
    · rename_i al bs h1 h2
      rw [h1, h2]; dsimp only
      split at h
      · rename_i rs os h3
        rw [h3]; dsimp only
        split at h
        · rename_i bs' rs' h4; rw [h4]; cases h; exact ⟨rfl, rfl, rfl⟩
        · simp at h
      · simp at h
    · simp at h
  intro e s h
  cases e <;> first | exact key s h | simp [retGF] at h
theorem run_of_awf {c : Code} {s : S U} {rv : List ResultVar} {fm : List Kind} {r : RF U} (h : awf M N c s (retF M rv fm) = some r) : Runs (awp M N c s (retQ M rv fm fun rs os => rs = r.1 ∧ os = r.2)) :=
  ⟨awf_awp c retF_awp h⟩
theorem runG_of_awf {c : Code} {s : S U} {nb : Nat} {rv : List ResultVar} {fm : List Kind} {r : RGF U} (h : awf M N c s (retGF M nb rv fm) = some r) : Runs (awp M N c s (retGQ M nb rv fm fun rs bs os => rs = r.1 ∧ bs = r.2.1 ∧ os = r.2.2)) :=
  ⟨awf_awp c retGF_awp h⟩
end
theorem fn_contractF {M : Mc Un} {fns : FuncId → Option (FnC Un)} {fvs : FuncId → Option (FV Un)} {clo : FuncId → Option (List (List (DC Un)) → Option (FV Un))} {gns : FuncId → Option (List Bool × FnG Un)} {ups : FuncId → Option (FnU Un)} (hM : M = mach fns fvs clo gns ups) (hF : FnsOK Tryz.prog (mach fns fvs clo gns ups))
    {f : FuncId} {fn : Func} (hf : Tryz.prog.funcs[f]? = some fn) (hb : fn.body = some (bodyOf fn)) (N : Nat → NS) (x : Nat) (fm : List Kind) {args : List (D Un)} {rs : List (A Un)} {os : List (Ob Un)}
    (h : (∀ a ∈ args, DWf En a) → awf M N (bodyOf fn) (entry fn.ntmps x args) (retF M fn.results.toList fm) = some (rs, os)) : Contract Tryz.prog En f args rs os :=
  fn_contract hM hF hf hb N x fm fun ha => run_of_awf (r := (rs, os)) (h ha)
theorem wrap_next {n i : Nat} (hi : i < n) (hn : n ≤ 9223372036854775807) : IntKind.i64.wrap ((i : Int) + 1) = ((i + 1 : Nat) : Int) := by
  rw [IntKind.wrap_i64]; omega
theorem loop_fold {σ α : Type} {L : S Un → Option (EX Un)} {st : σ → Int → S Un} {l : List α} {d : α} {g : σ → α → σ} (Inv : Nat → σ → Prop) (hl : l.length ≤ 9223372036854775807)
    (step : ∀ (a : σ) (i : Nat) (x : α), (i : Int) < (l.length : Int) → l.getD i d = x → Inv i a → Inv (i + 1) (g a x) ∧ L (st a i) = L (st (g a x) (IntKind.i64.wrap ((i : Int) + 1))))
    {e : Exit} (stop : ∀ a, Inv l.length a → L (st a (l.length : Int)) = some (e, st a (l.length : Int))) (a : σ) (h0 : Inv 0 a) :
    L (st a (0 : Int)) = some (e, st (l.foldl g a) (l.length : Int)) ∧ Inv l.length (l.foldl g a) := by
  have key : ∀ (r : List α) (i : Nat) (a : σ), l.drop i = r → i ≤ l.length → Inv i a → L (st a i) = some (e, st (r.foldl g a) (l.length : Int)) ∧ Inv l.length (r.foldl g a) := by
    intro r
    induction r with
    | nil =>
      intro i a hr hi hI
      have : l.length ≤ i := by rw [← List.drop_eq_nil_iff]; exact hr
      obtain rfl : i = l.length := by omega
      exact ⟨stop a hI, hI⟩
    | cons x r ih =>
      intro i a hr hi hI
      have hlt : i < l.length := by
        rcases Nat.lt_or_ge i l.length with g | g
        · exact g
        · rw [List.drop_of_length_le g] at hr; simp at hr
      have hx : l.getD i d = x := by
        rw [List.drop_eq_getElem_cons hlt] at hr
        rw [List.getD_eq_getElem?_getD, List.getElem?_eq_getElem hlt]
        exact (List.cons.inj hr).1
      have hr' : l.drop (i + 1) = r := by
        rw [List.drop_eq_getElem_cons hlt] at hr
        exact (List.cons.inj hr).2
      obtain ⟨h1, h2⟩ := step a i x (by omega) hx hI
      rw [h2, wrap_next hlt hl]
      exact ih (i + 1) (g a x) hr' hlt h1
  exact key l 0 a rfl (Nat.zero_le _) h0
theorem loop_end {α : Type} {X : Option (EX Un)} {e : Exit} {s : S Un} {C : Exit → S Un → Option α} (h : X = some (e, s)) : X.bind (thenX C) = C e s := by rw [h]; rfl
def bl : Nat → Nat → List Bool
  | 0, _ => []
  | k + 1, m => Nat.beq (m % 2) 1 :: bl k (m / 2)
def ai (n : Int) : AV Un := .one (.c (.s (.int .i64 n)))
def ab (b : Bool) : AV Un := .one (.c (.s (.bool b)))
def at_ (b : ByteArray) : AV Un := .one (.c (.s (.string b)))
def ax (k : Nat) : AV Un := .one (.c (.bx k 0))
def al (τ : Ty) (l : List (Den τ)) : AV Un := .one (.c (.sl (U := Un) τ l false))
def ao (k : Nat) : AV Un := .one (.c (.ob k 0))
def bi (n : Int) : Option (Bool × List (C Un)) := some (false, [.s (.int .i64 n)])
def bg (τ : Ty) (x : Den τ) : Option (Bool × List (C Un)) := some (false, encC τ x)
def bo (k : Nat) : Option (Bool × List (C Un)) := some (false, [.ob k 0])
def Term.ids (x : Term) : Term := .mk (Term.op x) (Term.v x) (Term.depth x) (Term.at_ x) (Term.name x) (Term.kids x) (Term.sub x) (Term.type x)
theorem Term.ids_eq (x : Term) : Term.ids x = x := by cases x; rfl
def Agg.ids (x : Agg) : Agg := .mk (Agg.name x) (Agg.distinct x) (Agg.t x)
theorem Agg.ids_eq (x : Agg) : Agg.ids x = x := by cases x; rfl
def Rel.ids (x : Rel) : Rel := .mk (Rel.op x) (Rel.table x) (Rel.cols x) (Rel.kids x) (Rel.terms x) (Rel.aggs x) (Rel.keys x) (Rel.limit x) (Rel.skip x) (Rel.all x) (Rel.rows x)
theorem Rel.ids_eq (x : Rel) : Rel.ids x = x := by cases x; rfl
def Plan.ids (x : Plan) : Plan := .mk (Plan.op x) (Plan.table x) (Plan.index x) (Plan.cols x) (Plan.kids x) (Plan.terms x) (Plan.lkeys x) (Plan.rkeys x) (Plan.aggs x) (Plan.keys x) (Plan.out x) (Plan.lo x) (Plan.hi x) (Plan.limit x) (Plan.skip x) (Plan.all x) (Plan.rows x) (Plan.est x) (Plan.cost x)
theorem Plan.ids_eq (x : Plan) : Plan.ids x = x := by cases x; rfl
end Go.Proofs.YtmpnompddfhkeaaGreat.B
namespace Go.Proofs.YtmpnompddfhkeaaGreat.B
open Go Go.RowKit
set_option maxRecDepth 100000
noncomputable section
attribute [local irreducible] awp ctxK itersK iterK retQ retGQ
def inN (n : Int) : Bool := decide (-1000000000000000 ≤ n ∧ n ≤ 1000000000000000)
def plainB (s : ByteArray) : Bool := s.toList.all (fun b => decide (32 ≤ b.toNat ∧ b.toNat ≤ 126)) && decide (s.size ≤ 100)
def rightV (v : Val) : Bool :=
  if v.kind = 0 then decide (v.n = 0) && decide (v.s.size = 0)
  else if v.kind = 1 then decide (v.n = 0 ∨ v.n = 1) && decide (v.s.size = 0)
  else if v.kind = 2 then inN v.n && decide (v.s.size = 0)
  else if v.kind = 3 then decide (v.n = 0) && plainB v.s
  else false
def cmpI (a b : Int) : Int := if a < b then -1 else if a > b then 1 else 0
def cmpL : List UInt8 → List UInt8 → Int
  | [], [] => 0
  | [], _ :: _ => -1
  | _ :: _, [] => 1
  | a :: l, b :: r => if a = b then cmpL l r else cmpI a.toNat b.toNat
def cmpS (a b : ByteArray) : Int := cmpL a.toList b.toList
def ordV (a b : Val) : Int := if a.kind = b.kind then (if a.n = b.n then cmpS a.s b.s else cmpI a.n b.n) else cmpI a.kind b.kind
def ordR : List Val → List Val → Int
  | [], [] => 0
  | [], _ :: _ => -1
  | _ :: _, [] => 1
  | a :: l, b :: r => if ordV a b = 0 then ordR l r else ordV a b
theorem toList_size (s : ByteArray) : s.toList.length = s.size := by rw [ByteArray.toList_eq, Array.length_toList]; rfl
theorem toList_nil (s : ByteArray) : s.toList = [] ↔ s.size = 0 := by rw [← toList_size]; exact List.length_eq_zero_iff.symm
theorem empty_eq (s : ByteArray) : (s.toList == (⟨#[]⟩ : ByteArray).toList) = decide (s.size = 0) := by
  have h : (⟨#[]⟩ : ByteArray).toList = [] := by rw [toList_nil]; rfl
  rw [h]
  by_cases hs : s.size = 0
  · rw [(toList_nil s).2 hs, decide_eq_true hs]; rfl
  · have : s.toList ≠ [] := fun e => hs ((toList_nil s).1 e)
    rw [decide_eq_false hs]; simpa using this
theorem bytes_ext {a b : ByteArray} (h : a.toList = b.toList) : a = b := by
  rw [ByteArray.toList_eq, ByteArray.toList_eq] at h
  cases a; cases b; simp at h; subst h; rfl
theorem decode_get (s : ByteArray) (i : Nat) (h : i < s.size) : (Utf8.decode s i).1 = (s.toList.getD i 0).toNat ∧ (Utf8.decode s i).2 = 1 ∨ 128 ≤ (s.toList.getD i 0).toNat ∧ 128 ≤ (Utf8.decode s i).1 := by
  have hg : s.get! i = s.toList.getD i 0 := by
    have hb := bytes_get s i h
    rw [getElem?_pos s i h] at hb
    simp only [Option.some.injEq] at hb
    rw [← hb]
    show s.data[i]! = s.data[i]
    exact getElem!_pos s.data i h
  unfold Utf8.decode
  simp only [Nat.add_zero, hg]
  generalize (s.toList.getD i 0).toNat = b
  by_cases hb : b < 0x80
  · simp [hb]
  · right
    refine ⟨by omega, ?_⟩
    simp only [hb, if_false]
    repeat' split
    all_goals first | (simp [Utf8.runeError]; done) | (simp_all; done) | (simp_all; omega)
theorem cmpI_zero {a b : Int} : cmpI a b = 0 ↔ a = b := by
  unfold cmpI
  by_cases h1 : a < b
  · rw [if_pos h1]; omega
  · rw [if_neg h1]
    by_cases h2 : a > b
    · rw [if_pos h2]; omega
    · rw [if_neg h2]; omega
theorem cmpL_zero : ∀ {a b : List UInt8}, cmpL a b = 0 ↔ a = b
  | [], [] => by simp [cmpL]
  | [], _ :: _ => by simp [cmpL]
  | _ :: _, [] => by simp [cmpL]
  | a :: l, b :: r => by
    simp only [cmpL]
    split
    · rename_i h; subst h; rw [cmpL_zero]; simp
    · rename_i h
      rw [cmpI_zero]
      constructor
      · intro e; exact absurd (UInt8.toNat_inj.1 (Int.ofNat_inj.1 e)) h
      · intro e; simp at e; exact absurd e.1 h
theorem cmpS_zero {a b : ByteArray} : cmpS a b = 0 ↔ a = b := by
  unfold cmpS; rw [cmpL_zero]
  exact ⟨bytes_ext, fun h => by rw [h]⟩
theorem ordV_zero {a b : Val} : ordV a b = 0 ↔ a = b := by
  cases a; cases b
  unfold ordV
  simp only
  split
  · split
    · rename_i h1 h2; subst h1; subst h2; rw [cmpS_zero]; simp
    · rename_i h1 h2; rw [cmpI_zero]; simp [h2]
  · rename_i h1; rw [cmpI_zero]; simp [h1]
theorem ordR_zero : ∀ {a b : List Val}, ordR a b = 0 ↔ a = b
  | [], [] => by simp [ordR]
  | [], _ :: _ => by simp [ordR]
  | _ :: _, [] => by simp [ordR]
  | a :: l, b :: r => by
    simp only [ordR]
    split
    · rename_i h; rw [ordV_zero] at h; subst h; rw [ordR_zero]; simp
    · rename_i h
      constructor
      · intro e; exact absurd e h
      · intro e; simp at e; rw [e.1] at h; exact absurd (ordV_zero.2 rfl) h
end
end Go.Proofs.YtmpnompddfhkeaaGreat.B
namespace Go.Proofs.YtmpnompddfhkeaaGreat.B
open Go Go.RowKit
set_option maxRecDepth 100000
noncomputable section
attribute [local irreducible] awp ctxK itersK iterK retQ retGQ
mutual
def Term.ht : Term → Nat
  | .mk _ _ _ _ _ kids sub _ => max (htTs kids) (htRs sub) + 1
def htTs : List Term → Nat
  | [] => 0
  | t :: r => max t.ht (htTs r)
def Agg.ht : Agg → Nat
  | .mk _ _ t => htTs t + 1
def htAs : List Agg → Nat
  | [] => 0
  | t :: r => max t.ht (htAs r)
def Rel.ht : Rel → Nat
  | .mk _ _ _ kids terms aggs _ _ _ _ _ => max (htRs kids) (max (htTs terms) (htAs aggs)) + 1
def htRs : List Rel → Nat
  | [] => 0
  | t :: r => max t.ht (htRs r)
end
theorem htTs_mem {t : Term} : ∀ {l : List Term}, t ∈ l → t.ht ≤ htTs l
  | x :: l, h => by
    simp only [htTs]
    rcases List.mem_cons.1 h with rfl | h
    · omega
    · have := htTs_mem h; omega
theorem htRs_mem {t : Rel} : ∀ {l : List Rel}, t ∈ l → t.ht ≤ htRs l
  | x :: l, h => by
    simp only [htRs]
    rcases List.mem_cons.1 h with rfl | h
    · omega
    · have := htRs_mem h; omega
theorem htAs_mem {t : Agg} : ∀ {l : List Agg}, t ∈ l → t.ht ≤ htAs l
  | x :: l, h => by
    simp only [htAs]
    rcases List.mem_cons.1 h with rfl | h
    · omega
    · have := htAs_mem h; omega
theorem Term.ht_kid {t k : Term} (h : k ∈ t.kids) : k.ht < t.ht := by
  cases t; simp only [Term.kids_mk] at h; simp only [Term.ht]; have := htTs_mem h; omega
theorem Term.ht_sub {t : Term} {k : Rel} (h : k ∈ t.sub) : k.ht < t.ht := by
  cases t; simp only [Term.sub_mk] at h; simp only [Term.ht]; have := htRs_mem h; omega
theorem Rel.ht_kid {r k : Rel} (h : k ∈ r.kids) : k.ht < r.ht := by
  cases r; simp only [Rel.kids_mk] at h; simp only [Rel.ht]; have := htRs_mem h; omega
theorem Rel.ht_term {r : Rel} {k : Term} (h : k ∈ r.terms) : k.ht < r.ht := by
  cases r; simp only [Rel.terms_mk] at h; simp only [Rel.ht]; have := htTs_mem h; omega
theorem Rel.ht_agg {r : Rel} {k : Agg} (h : k ∈ r.aggs) : k.ht < r.ht := by
  cases r; simp only [Rel.aggs_mk] at h; simp only [Rel.ht]; have := htAs_mem h; omega
theorem getD_mem {α : Type} {l : List α} {i : Nat} {d : α} (h : i < l.length) : l.getD i d ∈ l := by
  rw [List.getD_eq_getElem?_getD, List.getElem?_eq_getElem h]; exact List.getElem_mem h
end
end Go.Proofs.YtmpnompddfhkeaaGreat.B
namespace Go.Proofs.YtmpnompddfhkeaaGreat.B
open Go Go.RowKit
set_option maxRecDepth 100000
noncomputable section
attribute [local irreducible] awp ctxK itersK iterK retQ retGQ awf ctxF loopF
mutual
def Term.sz : Term → Nat
  | .mk _ _ _ _ _ kids sub _ => szTs kids + szRs sub + 1
def szTs : List Term → Nat
  | [] => 0
  | t :: r => t.sz + szTs r
def Agg.sz : Agg → Nat
  | .mk _ _ t => szTs t + 1
def szAs : List Agg → Nat
  | [] => 0
  | t :: r => t.sz + szAs r
def Rel.sz : Rel → Nat
  | .mk _ _ _ kids terms aggs _ _ _ _ rows => szRs kids + szTs terms + szAs aggs + rows.length + 1
def szRs : List Rel → Nat
  | [] => 0
  | t :: r => t.sz + szRs r
end
theorem Term.sz_eq (t : Term) : t.sz = szTs t.kids + szRs t.sub + 1 := by cases t; simp only [Term.sz, Term.kids_mk, Term.sub_mk]
theorem Agg.sz_eq (a : Agg) : a.sz = szTs a.t + 1 := by cases a; simp only [Agg.sz, Agg.t_mk]
theorem Rel.sz_eq (r : Rel) : r.sz = szRs r.kids + szTs r.terms + szAs r.aggs + r.rows.length + 1 := by cases r; simp only [Rel.sz, Rel.kids_mk, Rel.terms_mk, Rel.aggs_mk, Rel.rows_mk]
theorem szTs_mem {t : Term} : ∀ {l : List Term}, t ∈ l → t.sz ≤ szTs l
  | x :: l, h => by
    simp only [szTs]
    rcases List.mem_cons.1 h with rfl | h
    · omega
    · have := szTs_mem h; omega
theorem szRs_mem {t : Rel} : ∀ {l : List Rel}, t ∈ l → t.sz ≤ szRs l
  | x :: l, h => by
    simp only [szRs]
    rcases List.mem_cons.1 h with rfl | h
    · omega
    · have := szRs_mem h; omega
theorem szAs_mem {t : Agg} : ∀ {l : List Agg}, t ∈ l → t.sz ≤ szAs l
  | x :: l, h => by
    simp only [szAs]
    rcases List.mem_cons.1 h with rfl | h
    · omega
    · have := szAs_mem h; omega
theorem szTs_len : ∀ l : List Term, l.length ≤ szTs l
  | [] => Nat.zero_le _
  | x :: l => by have := szTs_len l; have h := x.sz_eq; simp only [szTs, List.length_cons]; omega
theorem szRs_len : ∀ l : List Rel, l.length ≤ szRs l
  | [] => Nat.zero_le _
  | x :: l => by have := szRs_len l; have h := x.sz_eq; simp only [szRs, List.length_cons]; omega
theorem szAs_len : ∀ l : List Agg, l.length ≤ szAs l
  | [] => Nat.zero_le _
  | x :: l => by have := szAs_len l; have h := x.sz_eq; simp only [szAs, List.length_cons]; omega
theorem szTs_append : ∀ (a b : List Term), szTs (a ++ b) = szTs a + szTs b
  | [], b => by simp [szTs]
  | x :: a, b => by simp only [List.cons_append, szTs, szTs_append a b]; omega
end
end Go.Proofs.YtmpnompddfhkeaaGreat.B
namespace Go.Proofs.YtmpnompddfhkeaaGreat.B
open Go Go.RowKit
set_option maxRecDepth 100000
noncomputable section
attribute [local irreducible] awp ctxK itersK iterK retQ retGQ awf ctxF loopF
mutual
def mapT (p : Term → Int → Term) (down : Int) : Term → Term
  | .mk op v depth at_ name kids sub type => .mk op v depth (if op = 2 then (p (.mk op v depth at_ name kids sub type) down).at_ else at_) name (mapTs p down kids) (mapRs p (down + 1) sub) type
def mapTs (p : Term → Int → Term) (down : Int) : List Term → List Term
  | [] => []
  | t :: r => mapT p down t :: mapTs p down r
def mapA (p : Term → Int → Term) (down : Int) : Agg → Agg
  | .mk name distinct t => .mk name distinct (mapTs p down t)
def mapAs (p : Term → Int → Term) (down : Int) : List Agg → List Agg
  | [] => []
  | t :: r => mapA p down t :: mapAs p down r
def mapR (p : Term → Int → Term) (down : Int) : Rel → Rel
  | .mk op table cols kids terms aggs keys limit skip all rows => .mk op table cols (mapRs p down kids) (mapTs p down terms) (mapAs p down aggs) keys limit skip all rows
def mapRs (p : Term → Int → Term) (down : Int) : List Rel → List Rel
  | [] => []
  | t :: r => mapR p down t :: mapRs p down r
end
mutual
def inT (d : Int) : Term → List Int
  | .mk op _ depth at_ _ kids sub _ => (if op = 2 ∧ depth = d then [at_] else []) ++ inTs d kids ++ inRs (d + 1) sub
def inTs (d : Int) : List Term → List Int
  | [] => []
  | t :: r => inT d t ++ inTs d r
def inA (d : Int) : Agg → List Int
  | .mk _ _ t => inTs d t
def inAs (d : Int) : List Agg → List Int
  | [] => []
  | t :: r => inA d t ++ inAs d r
def inR (d : Int) : Rel → List Int
  | .mk _ _ _ kids terms aggs _ _ _ _ _ => inTs d terms ++ inAs d aggs ++ inRs d kids
def inRs (d : Int) : List Rel → List Int
  | [] => []
  | t :: r => inR d t ++ inRs d r
end
theorem mapTs_map (p : Term → Int → Term) (down : Int) : ∀ l, mapTs p down l = l.map (mapT p down)
  | [] => rfl
  | t :: r => by simp only [mapTs, List.map_cons, mapTs_map p down r]
theorem mapAs_map (p : Term → Int → Term) (down : Int) : ∀ l, mapAs p down l = l.map (mapA p down)
  | [] => rfl
  | t :: r => by simp only [mapAs, List.map_cons, mapAs_map p down r]
theorem mapRs_map (p : Term → Int → Term) (down : Int) : ∀ l, mapRs p down l = l.map (mapR p down)
  | [] => rfl
  | t :: r => by simp only [mapRs, List.map_cons, mapRs_map p down r]
theorem mapT_eq (p : Term → Int → Term) (down : Int) (t : Term) : mapT p down t = .mk t.op t.v t.depth (if t.op = 2 then (p t down).at_ else t.at_) t.name (mapTs p down t.kids) (mapRs p (down + 1) t.sub) t.type := by cases t; simp only [mapT]; rfl
theorem mapA_eq (p : Term → Int → Term) (down : Int) (t : Agg) : mapA p down t = .mk t.name t.distinct (mapTs p down t.t) := by cases t; simp only [mapA]; rfl
theorem mapR_eq (p : Term → Int → Term) (down : Int) (r : Rel) : mapR p down r = .mk r.op r.table r.cols (mapRs p down r.kids) (mapTs p down r.terms) (mapAs p down r.aggs) r.keys r.limit r.skip r.all r.rows := by cases r; simp only [mapR]; rfl
theorem inT_eq (d : Int) (t : Term) : inT d t = (if t.op = 2 ∧ t.depth = d then [t.at_] else []) ++ inTs d t.kids ++ inRs (d + 1) t.sub := by cases t; simp only [inT]; rfl
theorem inA_eq (d : Int) (t : Agg) : inA d t = inTs d t.t := by cases t; simp only [inA]; rfl
theorem inR_eq (d : Int) (r : Rel) : inR d r = inTs d r.terms ++ inAs d r.aggs ++ inRs d r.kids := by cases r; simp only [inR]; rfl
mutual
theorem inT_len : ∀ (d : Int) (t : Term), (inT d t).length ≤ t.sz
  | d, .mk op v depth at_ name kids sub type => by
    have h1 := inTs_len d kids
    have h2 := inRs_len (d + 1) sub
    simp only [inT, Term.sz, List.length_append]
    split
    · simp only [List.length_singleton]; omega
    · simp only [List.length_nil]; omega
theorem inTs_len : ∀ (d : Int) (l : List Term), (inTs d l).length ≤ szTs l
  | _, [] => by simp [inTs, szTs]
  | d, t :: r => by have := inT_len d t; have := inTs_len d r; simp only [inTs, szTs, List.length_append]; omega
theorem inA_len : ∀ (d : Int) (t : Agg), (inA d t).length ≤ t.sz
  | d, .mk _ _ l => by have := inTs_len d l; simp only [inA, Agg.sz]; omega
theorem inAs_len : ∀ (d : Int) (l : List Agg), (inAs d l).length ≤ szAs l
  | _, [] => by simp [inAs, szAs]
  | d, t :: r => by have := inA_len d t; have := inAs_len d r; simp only [inAs, szAs, List.length_append]; omega
theorem inR_len : ∀ (d : Int) (t : Rel), (inR d t).length ≤ t.sz
  | d, .mk _ _ _ kids terms aggs _ _ _ _ rows => by have := inRs_len d kids; have := inTs_len d terms; have := inAs_len d aggs; simp only [inR, Rel.sz, List.length_append]; omega
theorem inRs_len : ∀ (d : Int) (l : List Rel), (inRs d l).length ≤ szRs l
  | _, [] => by simp [inRs, szRs]
  | d, t :: r => by have := inR_len d t; have := inRs_len d r; simp only [inRs, szRs, List.length_append]; omega
end
def setAt (t : Term) (n : Int) : Term := .mk t.op t.v t.depth n t.name t.kids t.sub t.type
def KeepsAt (p : Term → Int → Term) : Prop := ∀ c d, p c d = setAt c (p c d).at_
theorem term_eta (t : Term) : Term.mk t.op t.v t.depth t.at_ t.name t.kids t.sub t.type = t := by cases t; rfl
theorem agg_eta (t : Agg) : Agg.mk t.name t.distinct t.t = t := by cases t; rfl
theorem rel_eta (r : Rel) : Rel.mk r.op r.table r.cols r.kids r.terms r.aggs r.keys r.limit r.skip r.all r.rows = r := by cases r; rfl
theorem set_getD {α : Type} {l : List α} {i : Nat} {d : α} (h : i < l.length) : l.set i (l.getD i d) = l := by
  rw [List.getD_eq_getElem?_getD, List.getElem?_eq_getElem h]
  exact List.set_getElem_self h
theorem drop_getD {α : Type} {l : List α} {i : Nat} {d : α} (h : i < l.length) : l.drop i = l.getD i d :: l.drop (i + 1) := by
  rw [List.getD_eq_getElem?_getD, List.getElem?_eq_getElem h]
  exact List.drop_eq_getElem_cons h
theorem inTs_fold (d : Int) : ∀ (l : List Term) (o : List Int), l.foldl (fun o x => o ++ inT d x) o = o ++ inTs d l
  | [], o => by simp [inTs]
  | x :: l, o => by rw [List.foldl_cons, inTs_fold d l]; simp [inTs]
theorem inAs_fold (d : Int) : ∀ (l : List Agg) (o : List Int), l.foldl (fun o x => o ++ inA d x) o = o ++ inAs d l
  | [], o => by simp [inAs]
  | x :: l, o => by rw [List.foldl_cons, inAs_fold d l]; simp [inAs]
theorem inRs_fold (d : Int) : ∀ (l : List Rel) (o : List Int), l.foldl (fun o x => o ++ inR d x) o = o ++ inRs d l
  | [], o => by simp [inRs]
  | x :: l, o => by rw [List.foldl_cons, inRs_fold d l]; simp [inRs]
end
end Go.Proofs.YtmpnompddfhkeaaGreat.B
namespace Go.Proofs.YtmpnompddfhkeaaGreat.B
open Go Go.RowKit
set_option maxRecDepth 100000
noncomputable section
attribute [local irreducible] awp ctxK itersK iterK retQ retGQ awf ctxF loopF
def Rises (l : List Int) : Prop := l.Pairwise fun a b => a < b
theorem rises_uniq : ∀ {a b : List Int}, Rises a → Rises b → (∀ x, x ∈ a ↔ x ∈ b) → a = b
  | [], [], _, _, _ => rfl
  | [], y :: b, _, _, h => absurd ((h y).2 List.mem_cons_self) (by simp)
  | x :: a, [], _, _, h => absurd ((h x).1 List.mem_cons_self) (by simp)
  | x :: a, y :: b, ha, hb, h => by
    obtain ⟨ha1, ha2⟩ := List.pairwise_cons.1 ha
    obtain ⟨hb1, hb2⟩ := List.pairwise_cons.1 hb
    have hxy : x = y := by
      rcases List.mem_cons.1 ((h x).1 List.mem_cons_self) with e | e
      · exact e
      · rcases List.mem_cons.1 ((h y).2 List.mem_cons_self) with e2 | e2
        · exact e2.symm
        · have h1 := hb1 x e
          have h2 := ha1 y e2
          exact absurd h1 (by omega)
    subst hxy
    congr 1
    refine rises_uniq ha2 hb2 fun z => ?_
    constructor
    · intro hz
      rcases List.mem_cons.1 ((h z).1 (List.mem_cons_of_mem _ hz)) with e | e
      · have := ha1 z hz; exact absurd this (by omega)
      · exact e
    · intro hz
      rcases List.mem_cons.1 ((h z).2 (List.mem_cons_of_mem _ hz)) with e | e
      · have := hb1 z hz; exact absurd this (by omega)
      · exact e
def insI (out : List Int) (x : Int) : List Int := if x ∈ out then out else out.takeWhile (fun y => decide (y < x)) ++ x :: out.dropWhile (fun y => decide (y < x))
theorem insI_mem (out : List Int) (x y : Int) : y ∈ insI out x ↔ y ∈ out ∨ y = x := by
  unfold insI
  split
  · rename_i h
    constructor
    · exact .inl
    · rintro (h1 | rfl)
      · exact h1
      · exact h
  · have e := List.takeWhile_append_dropWhile (p := fun y => decide (y < x)) (l := out)
    rw [List.mem_append, List.mem_cons]
    constructor
    · rintro (h1 | h1 | h1)
      · exact .inl (by rw [← e]; exact List.mem_append_left _ h1)
      · exact .inr h1
      · exact .inl (by rw [← e]; exact List.mem_append_right _ h1)
    · rintro (h1 | h1)
      · rw [← e, List.mem_append] at h1
        rcases h1 with h1 | h1
        · exact .inl h1
        · exact .inr (.inr h1)
      · exact .inr (.inl h1)
theorem takeW_all {p : Int → Bool} : ∀ (l : List Int), ∀ u ∈ l.takeWhile p, p u = true
  | [], u, h => by simp at h
  | y :: l, u, h => by
    rw [List.takeWhile_cons] at h
    split at h
    · rcases List.mem_cons.1 h with rfl | h
      · assumption
      · exact takeW_all l u h
    · simp at h
theorem insI_rises {out : List Int} (h : Rises out) (x : Int) : Rises (insI out x) := by
  unfold insI
  split
  · exact h
  · rename_i hx
    have e := List.takeWhile_append_dropWhile (p := fun y => decide (y < x)) (l := out)
    have h' := h
    rw [← e] at h'
    obtain ⟨p1, p2, p3⟩ := List.pairwise_append.1 h'
    have hb : ∀ u ∈ out.takeWhile (fun y => decide (y < x)), u < x := fun u hu => by simpa using takeW_all out u hu
    have ha : ∀ u ∈ out.dropWhile (fun y => decide (y < x)), x < u := by
      intro u hu
      cases hd : out.dropWhile (fun y => decide (y < x)) with
      | nil => rw [hd] at hu; simp at hu
      | cons y r =>
        have hy : ¬ y < x := by
          have := List.head_dropWhile_not (p := fun y => decide (y < x)) (l := out) (by rw [hd]; simp)
          simp only [hd, List.head_cons, decide_eq_false_iff_not] at this
          exact this
        have hyx : y ≠ x := fun e2 => hx (by rw [← e2, ← e]; refine List.mem_append_right _ ?_; rw [hd]; exact List.mem_cons_self)
        rw [hd] at hu p2
        rcases List.mem_cons.1 hu with rfl | hu
        · omega
        · have := (List.pairwise_cons.1 p2).1 u hu; omega
    refine List.pairwise_append.2 ⟨p1, List.pairwise_cons.2 ⟨ha, p2⟩, fun a haa b hbb => ?_⟩
    rcases List.mem_cons.1 hbb with rfl | hbb
    · exact hb a haa
    · have h1 := hb a haa; have h2 := ha b hbb; omega
def riseI (l : List Int) : List Int := l.foldl insI []
theorem riseI_gen : ∀ (l out : List Int), Rises out → Rises (l.foldl insI out) ∧ ∀ x, x ∈ l.foldl insI out ↔ x ∈ out ∨ x ∈ l
  | [], out, h => ⟨h, fun x => by simp⟩
  | y :: l, out, h => by
    obtain ⟨h1, h2⟩ := riseI_gen l (insI out y) (insI_rises h y)
    refine ⟨h1, fun x => ?_⟩
    rw [List.foldl_cons, h2, insI_mem, List.mem_cons]
    constructor
    · rintro ((h3 | h3) | h3)
      · exact .inl h3
      · exact .inr (.inl h3)
      · exact .inr (.inr h3)
    · rintro (h3 | h3 | h3)
      · exact .inl (.inl h3)
      · exact .inl (.inr h3)
      · exact .inr h3
theorem riseI_rises (l : List Int) : Rises (riseI l) := (riseI_gen l [] List.Pairwise.nil).1
theorem riseI_mem (l : List Int) (x : Int) : x ∈ riseI l ↔ x ∈ l := by unfold riseI; rw [(riseI_gen l [] List.Pairwise.nil).2]; simp
def snocI (acc : List Int) (x : Int) : List Int := if acc.getLast? = some x then acc else acc ++ [x]
def compactI (l : List Int) : List Int := l.foldl snocI []
def sortI (l : List Int) : List Int := l.mergeSort fun x y => decide (x ≤ y)
theorem sortI_mem (l : List Int) (x : Int) : x ∈ sortI l ↔ x ∈ l := by unfold sortI; exact List.mem_mergeSort
theorem sortI_sorted (l : List Int) : (sortI l).Pairwise fun a b => a ≤ b := by
  have := List.pairwise_mergeSort (le := fun x y : Int => decide (x ≤ y)) (fun a b c h1 h2 => by simp at h1 h2 ⊢; omega) (fun a b => by simp; omega) l
  exact this.imp (fun h => by simpa using h)
theorem compactI_gen : ∀ (l acc : List Int), (l.Pairwise fun a b => a ≤ b) → Rises acc → (∀ a ∈ acc, ∀ b ∈ l, a ≤ b) → Rises (l.foldl snocI acc) ∧ ∀ x, x ∈ l.foldl snocI acc ↔ x ∈ acc ∨ x ∈ l
  | [], acc, _, h, _ => ⟨h, fun x => by simp⟩
  | y :: l, acc, hl, h, hle => by
    obtain ⟨hl1, hl2⟩ := List.pairwise_cons.1 hl
    by_cases hy : acc.getLast? = some y
    · have hmem : y ∈ acc := List.mem_of_getLast? hy
      have e : snocI acc y = acc := by unfold snocI; rw [if_pos hy]
      obtain ⟨h1, h2⟩ := compactI_gen l acc hl2 h (fun a ha b hb => hle a ha b (List.mem_cons_of_mem _ hb))
      rw [List.foldl_cons, e]
      refine ⟨h1, fun x => ?_⟩
      rw [h2, List.mem_cons]
      constructor
      · rintro (h3 | h3)
        · exact .inl h3
        · exact .inr (.inr h3)
      · rintro (h3 | rfl | h3)
        · exact .inl h3
        · exact .inl hmem
        · exact .inr h3
    · have e : snocI acc y = acc ++ [y] := by unfold snocI; rw [if_neg hy]
      have hlt : ∀ a ∈ acc, a < y := by
        intro a ha
        have h1 := hle a ha y List.mem_cons_self
        rcases Int.lt_or_eq_of_le h1 with h2 | h2
        · exact h2
        · exfalso
          subst h2
          apply hy
          have hne : acc ≠ [] := List.ne_nil_of_mem ha
          rw [List.getLast?_eq_some_getLast hne]
          congr 1
          have hlast : acc.getLast hne ∈ acc := List.getLast_mem hne
          have h3 := hle _ hlast a List.mem_cons_self
          have h4 : a ≤ acc.getLast hne := by
            have hp := h
            rw [← List.dropLast_concat_getLast hne] at hp ha
            rcases List.mem_append.1 ha with h5 | h5
            · have := (List.pairwise_append.1 hp).2.2 a h5 _ List.mem_cons_self; omega
            · simp at h5; omega
          omega
      obtain ⟨h1, h2⟩ := compactI_gen l (acc ++ [y]) hl2 (List.pairwise_append.2 ⟨h, List.pairwise_singleton _ _, fun a ha b hb => by simp at hb; subst hb; exact hlt a ha⟩) (fun a ha b hb => by
        rcases List.mem_append.1 ha with h3 | h3
        · exact hle a h3 b (List.mem_cons_of_mem _ hb)
        · simp at h3; subst h3; exact hl1 b hb)
      rw [List.foldl_cons, e]
      refine ⟨h1, fun x => ?_⟩
      rw [h2, List.mem_append, List.mem_singleton, List.mem_cons]
      constructor
      · rintro ((h3 | h3) | h3)
        · exact .inl h3
        · exact .inr (.inl h3)
        · exact .inr (.inr h3)
      · rintro (h3 | h3 | h3)
        · exact .inl (.inl h3)
        · exact .inl (.inr h3)
        · exact .inr h3
theorem compact_sort (l : List Int) : compactI (sortI l) = riseI l := by
  obtain ⟨h1, h2⟩ := compactI_gen (sortI l) [] (sortI_sorted l) List.Pairwise.nil (by simp)
  refine rises_uniq h1 (riseI_rises l) fun x => ?_
  rw [riseI_mem]
  unfold compactI
  rw [h2, sortI_mem]; simp
end
end Go.Proofs.YtmpnompddfhkeaaGreat.B
namespace Go.Proofs.YtmpnompddfhkeaaGreat.B
open Go Go.RowKit Go.Shelf
set_option maxRecDepth 1000000
def rowsOf (n z : Nat) (cv : Nat → Nat → Value) : List Value := (List.range (n * z)).map fun q => cv (q / z) (q % z)
theorem rowsOf_len (n z : Nat) (cv : Nat → Nat → Value) : (rowsOf n z cv).length = n * z := by simp [rowsOf]
theorem rowsOf_get {n z : Nat} {cv : Nat → Nat → Value} (hz : 0 < z) {i j : Nat} (hi : i < n) (hj : j < z) : (rowsOf n z cv)[i * z + j]? = some (cv i j) := by
  have h : i * z + j < n * z := by
    have : (i + 1) * z ≤ n * z := Nat.mul_le_mul_right _ hi
    rw [Nat.add_mul] at this; omega
  unfold rowsOf
  rw [List.getElem?_map, List.getElem?_range h]
  simp only [Option.map_some]
  rw [show (i * z + j) / z = i by rw [Nat.mul_comm, Nat.mul_add_div hz, Nat.div_eq_of_lt hj]; omega, show (i * z + j) % z = j by rw [Nat.mul_comm, Nat.mul_add_mod, Nat.mod_eq_of_lt hj]]
theorem rowsOf_inv {n z : Nat} {cv : Nat → Nat → Value} {q : Nat} {u : Value} (h : (rowsOf n z cv)[q]? = some u) : ∃ i j, i < n ∧ j < z ∧ q = i * z + j ∧ u = cv i j := by
  have hq : q < n * z := by have := (List.getElem?_eq_some_iff.1 h).1; rwa [rowsOf_len] at this
  have hz : 0 < z := by rcases Nat.eq_zero_or_pos z with e | e; · subst e; omega
                        · exact e
  refine ⟨q / z, q % z, (Nat.div_lt_iff_lt_mul hz).2 hq, Nat.mod_lt _ hz, by rw [Nat.mul_comm]; exact (Nat.div_add_mod q z).symm, ?_⟩
  unfold rowsOf at h
  rw [List.getElem?_map, List.getElem?_range hq] at h
  simpa using h.symm
open Classical in
theorem ret_own {St : Nat → Nat → Prop} {w w' : World} {v : Value} {e : TypeId} {τ : Ty} {xs : List (Den τ)} {news : List Value} (hext : Ext w w') (hbd : ∀ b o, St b o → b < w.heap.size) (hlen : xs.length ≤ 9223372036854775807)
    (hrow : w'.ownsRow w.heap.size e (sz τ) v xs.length news) (hrel : ∀ i (hi : i < xs.length) j d, (enc τ xs[i])[j]? = some d → ∃ u, news[i * sz τ + j]? = some u ∧ VRel En St w u d) :
    Ret Tryz.prog En St w w' v [.c (.ob 0 0)] [⟨0, τ, xs, some 0, true⟩] := by
  refine ⟨hext, ?_⟩
  obtain ⟨hnl, ⟨rfl, hn0⟩ | ⟨gb, cap, cur, rfl, hge, hheap, hcap, hmax, hsz, htake⟩⟩ := hrow
  · have hx : xs = [] := List.eq_nil_of_length_eq_zero hn0
    subst hx
    refine ⟨⟨fun _ => 0, fun _ => False, fun b o => if St b o then some .st else none, fun _ => (none, 0)⟩, fun _ h => h, ?_, ?_, ?_, ?_⟩
    · intro b o x _ hx
      have hx' : (if St b o then some Own.st else none) = some x := hx
      split at hx'
      · rename_i hs; simp at hx'; exact ⟨hx'.symm, hs⟩
      · simp at hx'
    · intro b o x hx
      have hx' : (if St b o then some Own.st else none) = some x := hx
      split at hx'
      · rename_i hs; exact Nat.lt_of_lt_of_le (hbd b o hs) hext.le
      · simp at hx'
    · exact ⟨rfl, _, rfl, Nat.le_refl _, fun _ => rfl⟩
    · intro k o ho
      cases k with
      | zero => simp at ho; subst ho; exact ⟨⟨⟨⟨Nat.le_refl _, by simp⟩, fun f hf => by simp at hf; subst hf; exact Nat.le_refl _⟩, fun h => absurd h (Nat.lt_irrefl 0)⟩, rfl⟩
      | succ k => simp at ho
  · have hcell : ∀ q, q < cap * sz τ → w'.cell? ⟨gb, q, none⟩ = cur[q]? ∧ (∃ u, w'.cell? ⟨gb, q, none⟩ = some u) ∧ stuck w' ⟨gb, q, none⟩ = false := by
      intro q hq
      have h1 : w'.cell? ⟨gb, q, none⟩ = cur[q]? := by simp [World.cell?, hheap]
      refine ⟨h1, ⟨cur[q]'(by omega), by rw [h1]; exact Array.getElem?_eq_getElem _⟩, ?_⟩
      simp [stuck, World.shape?, World.frozen?, hheap]
    have hgb : gb < w'.heap.size := (Array.getElem?_eq_some_iff.1 hheap).1
    let g : G := ⟨fun _ => 0, fun _ => False, fun b o => if b < w.heap.size then (if St b o then some .st else none) else if b = gb ∧ o < cap * sz τ then some (.obj 0) else none, fun _ => (some ⟨gb, 0, none⟩, cap)⟩
    have hω : ∀ o, o < cap * sz τ → g.ω gb o = some (.obj 0) := fun o ho => by
      show (if gb < w.heap.size then _ else _) = _
      rw [if_neg (by omega), if_pos ⟨rfl, ho⟩]
    have hst : Keeps St w g.St w' := fun b o hs => by
      refine ⟨?_, hext.cell (p := ⟨b, o, none⟩) (hbd b o hs)⟩
      show (if b < w.heap.size then _ else _) = _
      rw [if_pos (hbd b o hs), if_pos hs]
    refine ⟨g, fun _ h => h, ?_, ?_, ?_, ?_⟩
    · intro b o x hb hx
      have hx' : (if b < w.heap.size then (if St b o then some Own.st else none) else _) = some x := hx
      rw [if_pos hb] at hx'
      split at hx'
      · rename_i hs; simp at hx'; exact ⟨hx'.symm, hs⟩
      · simp at hx'
    · intro b o x hx
      have hx' : (if b < w.heap.size then (if St b o then some Own.st else none) else if b = gb ∧ o < cap * sz τ then some (Own.obj 0) else none) = some x := hx
      split at hx'
      · rename_i hb; exact Nat.lt_of_lt_of_le hb hext.le
      · split at hx'
        · rename_i hh; rw [hh.1]; exact hgb
        · simp at hx'
    · exact ⟨rfl, _, rfl, Nat.le_refl _, fun _ => rfl⟩
    · intro k o ho
      cases k with
      | succ k => simp at ho
      | zero =>
        simp at ho; subst ho
        refine ⟨⟨⟨⟨hcap, hlen⟩, fun f hf => by simp at hf; subst hf; exact Nat.zero_le _⟩, fun _ => ⟨gb, 0, fun i j => cur.getD (i * sz τ + j) undef, rfl, ⟨?_, ?_, ?_⟩⟩⟩, rfl⟩
        · intro i j hi hj
          have hlt : i * sz τ + j < cap * sz τ := by
            have h1 : (i + 1) * sz τ ≤ cap * sz τ := Nat.mul_le_mul_right _ (Nat.le_trans hi hcap)
            have hj' : j < sz τ := hj
            rw [Nat.add_mul] at h1; omega
          obtain ⟨c1, _, c3⟩ := hcell _ hlt
          have e0 : 0 + i * Un.sz τ + j = i * sz τ + j := by show 0 + i * sz τ + j = _; omega
          refine ⟨?_, ?_⟩
          · show w'.cell? ⟨gb, 0 + i * Un.sz τ + j, none⟩ = _
            rw [e0, c1, Array.getD_eq_getD_getElem?, Array.getElem?_eq_getElem (by omega)]; rfl
          · show Mode g w' 0 (some 0) i gb (0 + i * Un.sz τ + j)
            rw [e0]
            exact ⟨fun h => absurd h (Nat.not_lt_zero _), fun _ => ⟨hω _ hlt, c3⟩⟩
        · intro i hi j d hd
          obtain ⟨u, hu, hr⟩ := hrel i hi j d hd
          have hj : j < sz τ := by have h0 : j < (enc τ (xs[i]'hi)).length := (List.getElem?_eq_some_iff.1 hd).1; rwa [enc_len] at h0
          have hlt : i * sz τ + j < xs.length * sz τ := by
            have h1 : (i + 1) * sz τ ≤ xs.length * sz τ := Nat.mul_le_mul_right _ hi
            rw [Nat.add_mul] at h1; omega
          have hu2 : cur.getD (i * sz τ + j) undef = u := by
            rw [← htake, List.getElem?_take_of_lt hlt, Array.getElem?_toList] at hu
            rw [Array.getD_eq_getD_getElem?, hu]; rfl
          show VRel En g.St w' (cur.getD (i * sz τ + j) undef) d
          rw [hu2]; exact hr.mono hst
        · intro _ x hx hx'
          have hx2 : x < cap * sz τ := hx'
          obtain ⟨_, c2, c3⟩ := hcell x hx2
          show g.ω gb (0 + x) = _ ∧ _
          rw [Nat.zero_add]
          exact ⟨hω x hx2, c2, c3⟩
set_option maxHeartbeats 2000000 in
theorem clone_zero {P : Program} {ρ : Ren} (L : SlLaysE0.n41 P ρ) (i0 : TypeInfo) (z : Value) (size bytes : Nat) (hi : P.info? (ρ.t 23) = some i0) (hz0 : i0.zero = some z) (hz1 : i0.size = size) (hz2 : i0.bytes = bytes) (hzs : z.cells.size = size) (hsz : 0 < size)
    (z23 : ∀ w, (Go.sizeOf (ρ.t 23)).run P w = .ok size w) (a : Addr) (c : Nat) (w : World) :
    Calls P (ρ.f 41) #[.slice (some a) 0 c] w fun e w' => ∃ v', e = .returned v' ∧ w'.ownsRow w.heap.size (ρ.t 23) size v' 0 [] ∧ Below w.heap.size w w' := by
  have mixed := L.mixed; have t4 := L.t4; have a4 := L.a4; have z4 := L.z4; have v4 := L.v4; have t22 := L.t22; have a22 := L.a22; have z22 := L.z22; have v22 := L.v22
  have q22 : ∀ (w : World) (a : Option Addr) (n c n' c' : Nat), (binOp .eql (ρ.t 22) (.slice a n c) (.slice none n' c')).run P w = .ok (.bool a.isNone) w := fun w a n c n' c' => Lib.run_eql_slice_nil w _ _ a n c n' c' L.t22
  have u22 : ∀ w, Sem.run P (underlying (ρ.t 22)) w = .ok (TypeDesc.slice (ρ.t 23)) w := run_underlying t22
  obtain ⟨_, _, FG⟩ := L.f41
  go_enter FG, SlBodyN.n41_ntmps ρ
  go_wp2_with (at_builtin; refine wpList_append_own _ rfl _ _ (ρ.t 22) rfl w.heap.size (ρ.t 23) i0 z size bytes t22 hi hz0 hz1 hz2 hzs hsz _ _ _ rfl (World.ownsRow_made w #[] 0 (Nat.le_refl _) (Nat.zero_le _) (by simp)) a 0 c [] rfl ?qc1 ?qc2 ?qc3 ?qc4 ?qc5 ?qc6 ?_)
  case qc1 => simp
  case qc2 => intro j u hj; simp at hj
  case qc3 => intro u hu; simp at hu
  case qc4 => unfold maxLen; omega
  case qc5 => omega
  case qc6 => simp
  intro v' w1 hown hgrow hnil
  go_wp2
  go_ret
  exact ⟨v', rfl, by simpa using hown, ((Below.refl _ w).alloc (Nat.le_refl _) _).grown hgrow (by simp) (by intro k hk; simp [Value.ownBlock] at hk; omega)⟩
theorem ext_of_below {w w' : World} (h : Below w.heap.size w w') : Ext w w' := ⟨h.os, h.tape, h.output, h.size, h.block⟩
def F_clone (τ : Ty) : FnC Un := fun args => match args with
  | [x0] => (dL τ x0).bind fun s => some ([s.length ≤ 1000000000], [.c (.ob 0 0)], [⟨0, τ, s, some 0, true⟩])
  | _ => none
theorem ok_clone {ρ : Ren} (L : SlLaysE0.n41 Tryz.prog ρ) (τ : Ty) (i0 : TypeInfo) (z : Value) (bytes : Nat) (hi : Tryz.prog.info? (ρ.t 23) = some i0) (hz0 : i0.zero = some z) (hz1 : i0.size = sz τ) (hz2 : i0.bytes = bytes) (hzs : z.cells.size = sz τ) (hsz : 0 < sz τ)
    (hb : bytes ≤ 100000) (z23 : ∀ w, (Go.sizeOf (ρ.t 23)).run Tryz.prog w = .ok (sz τ) w) (hB : HasBody Tryz.prog (ρ.f 41)) : FnOK (ρ.f 41) (F_clone τ) := by
  intro args ob rs os h hob
  unfold F_clone at h
  split at h
  · simp only [Option.bind_eq_some_iff, Option.some.injEq, Prod.mk.injEq] at h
    obtain ⟨s, e0, rfl, rfl, rfl⟩ := h
    obtain rfl := dL_eq e0
    have hlen : s.length ≤ 1000000000 := hob _ (by simp)
    refine ⟨fun w St vs hbd hvs => ?_, hB⟩
    match vs, hvs with
    | [v0], ⟨h0, _⟩ =>
      have hV : VRel En St w v0 (.dat τ s) := h0
      rcases hV.inv with ⟨rfl, a, cap, rfl⟩ | ⟨b, o, cap, cv, rfl, hcap, hc, hr⟩
      · cases a with
        | none =>
          refine (AnyE.slices_Clone_nil L 0 cap w).mono ?_
          rintro e w' ⟨rfl, rfl⟩
          exact ⟨_, rfl, ret_own (e := ρ.t 23) (news := []) (Ext.refl _) hbd (by simp) ⟨by simp, .inl ⟨rfl, rfl⟩⟩ (fun i hi => absurd hi (Nat.not_lt_zero _))⟩
        | some a =>
          refine (clone_zero L i0 z (sz τ) bytes hi hz0 hz1 hz2 hzs hsz z23 a cap w).mono ?_
          rintro e w' ⟨v', rfl, hown, hbel⟩
          exact ⟨v', rfl, ret_own (ext_of_below hbel) hbd (by simp) hown (fun i hi => absurd hi (Nat.not_lt_zero _))⟩
      · have hcell : ∀ j u, (rowsOf s.length (sz τ) cv)[j]? = some u → w.cell? ⟨b, o + j, none⟩ = some u ∧ ∃ i q, i < s.length ∧ q < sz τ ∧ j = i * sz τ + q ∧ u = cv i q := by
          intro j u hj
          obtain ⟨i, q, hi, hq, rfl, rfl⟩ := rowsOf_inv hj
          refine ⟨?_, i, q, hi, hq, rfl, rfl⟩
          have := (hc i q hi hq).2
          rw [← Nat.add_assoc]; exact this
        have hone : ∀ u ∈ rowsOf s.length (sz τ) cv, u.oneCell' = true := by
          intro u hu
          obtain ⟨j, hj⟩ := List.getElem?_of_mem hu
          obtain ⟨_, i, q, hi, hq, _, rfl⟩ := hcell j u hj
          have hq' : q < (enc τ (s[i]'hi)).length := by rw [enc_len]; exact hq
          have := hr i hi q _ (List.getElem?_eq_getElem hq')
          exact oneC_eq this.one
        refine (AnyE.slices_Clone L i0 z (sz τ) bytes hi hz0 hz1 hz2 hzs hsz z23 b o s.length cap (rowsOf s.length (sz τ) cv) w (rowsOf_len _ _ _) (by unfold maxLen; omega)
          (by have : s.length * bytes ≤ 1000000000 * 100000 := Nat.mul_le_mul hlen hb
              omega) (fun j u hj => (hcell j u hj).1) hone).mono ?_
        rintro e w' ⟨v', rfl, hown, _, hbel⟩
        refine ⟨v', rfl, ret_own (ext_of_below hbel) hbd (by omega) hown fun i hi j d hd => ?_⟩
        have hj : j < sz τ := by have h0 : j < (enc τ (s[i]'hi)).length := (List.getElem?_eq_some_iff.1 hd).1; rwa [enc_len] at h0
        exact ⟨cv i j, rowsOf_get hsz hi hj, hr i hi j d hd⟩
  · simp at h
def mach0 : Mc Un := mach (fun _ => none) (fun _ => none) (fun _ => none) (fun _ => none) (fun _ => none)
def isSlOf (t e : TypeId) (τ : Ty) : Bool := match mach0.ti t with | .sl e' τ' b => e' == e && decide (τ' = τ) && decide (b ≤ 100000) | _ => false
theorem slOf {t e : TypeId} {τ : Ty} (h : isSlOf t e τ = true) : ∃ bytes i z, bytes ≤ 100000 ∧ 0 < bytes ∧ 0 < sz τ ∧ Tryz.prog.underlying t = some (.slice e) ∧ Tryz.prog.info? e = some i ∧ i.size = sz τ ∧ i.bytes = bytes ∧ i.zero = some z ∧ z.cells.size = sz τ := by
  unfold isSlOf at h
  split at h
  · rename_i e' τ' b hti
    simp only [Bool.and_eq_true, beq_iff_eq, decide_eq_true_eq] at h
    obtain ⟨⟨rfl, rfl⟩, hb⟩ := h
    have h := ((tabOK (fun _ => none) (fun _ => none) (fun _ => none) (fun _ => none) (fun _ => none)).ti t).2
    rw [show (mach (fun _ => none) (fun _ => none) (fun _ => none) (fun _ => none) (fun _ => none)).ti t = .sl e' τ' b from hti] at h
    obtain ⟨h0, ⟨h1, h1'⟩, i, z, h2, h3, h4, h5, h6⟩ := h
    exact ⟨b, i, z, hb, h1', h1, h0, h2, h3, h4, h5, h6⟩
  · simp at h
theorem clone_inst {ρ : Ren} (L : SlLaysE0.n41 Tryz.prog ρ) {τ : Ty} (hti : isSlOf (ρ.t 22) (ρ.t 23) τ = true) (hB : HasBody Tryz.prog (ρ.f 41)) : FnOK (ρ.f 41) (F_clone τ) := by
  obtain ⟨bytes, i, z, hb, h1', h1, h0, h2, h3, h4, h5, h6⟩ := slOf hti
  refine ok_clone L τ i z bytes h2 h5 h3 h4 h6 h1 hb (fun w => ?_) hB
  have := Go.run_sizeOf w h2
  rw [this]; simp only [Program.cellsOf, h2]; exact congrArg (fun n => Result.ok n w) h3
end Go.Proofs.YtmpnompddfhkeaaGreat.B
namespace Go.Proofs.YtmpnompddfhkeaaGreat.B
open Go Go.RowKit Go.Shelf
set_option maxRecDepth 1000000
def ren_clone_term : Ren := ⟨fun | 41 => 141 | n => n, fun | 4 => 4 | 22 => 24 | 23 => 49 | n => n, fun | n => n⟩
theorem lays_clone_term : SlLaysE0.n41 Tryz.prog ren_clone_term := {
  mixed := by kernel_rfl
  f41 := ⟨Tryz.f141.name, by kernel_rfl, Tryz.func141.trans (congrArg some (by kernel_rfl))⟩
  t4 := Tryz.underlying4
  a4 := Tryz.isAgg4
  z4 := Tryz.sizeOf4
  v4 := Tryz.zeroValue4
  t22 := Tryz.underlying24
  a22 := Tryz.isAgg24
  z22 := Tryz.sizeOf24
  v22 := Tryz.zeroValue24 }
def F_clone_term : FnC Un := F_clone .term
theorem ok_clone_term : FnOK 141 F_clone_term := clone_inst lays_clone_term (by kernel_rfl) (hasBody_of Tryz.func141 (by kernel_rfl) (by kernel_rfl))
def ren_clone_rel : Ren := ⟨fun | 41 => 140 | n => n, fun | 4 => 4 | 22 => 23 | 23 => 29 | n => n, fun | n => n⟩
theorem lays_clone_rel : SlLaysE0.n41 Tryz.prog ren_clone_rel := {
  mixed := by kernel_rfl
  f41 := ⟨Tryz.f140.name, by kernel_rfl, Tryz.func140.trans (congrArg some (by kernel_rfl))⟩
  t4 := Tryz.underlying4
  a4 := Tryz.isAgg4
  z4 := Tryz.sizeOf4
  v4 := Tryz.zeroValue4
  t22 := Tryz.underlying23
  a22 := Tryz.isAgg23
  z22 := Tryz.sizeOf23
  v22 := Tryz.zeroValue23 }
def F_clone_rel : FnC Un := F_clone .rel
theorem ok_clone_rel : FnOK 140 F_clone_rel := clone_inst lays_clone_rel (by kernel_rfl) (hasBody_of Tryz.func140 (by kernel_rfl) (by kernel_rfl))
def ren_clone_agg : Ren := ⟨fun | 41 => 82 | n => n, fun | 4 => 4 | 22 => 25 | 23 => 59 | n => n, fun | n => n⟩
theorem lays_clone_agg : SlLaysE0.n41 Tryz.prog ren_clone_agg := {
  mixed := by kernel_rfl
  f41 := ⟨Tryz.f82.name, by kernel_rfl, Tryz.func82.trans (congrArg some (by kernel_rfl))⟩
  t4 := Tryz.underlying4
  a4 := Tryz.isAgg4
  z4 := Tryz.sizeOf4
  v4 := Tryz.zeroValue4
  t22 := Tryz.underlying25
  a22 := Tryz.isAgg25
  z22 := Tryz.sizeOf25
  v22 := Tryz.zeroValue25 }
def F_clone_agg : FnC Un := F_clone .agg
theorem ok_clone_agg : FnOK 82 F_clone_agg := clone_inst lays_clone_agg (by kernel_rfl) (hasBody_of Tryz.func82 (by kernel_rfl) (by kernel_rfl))
end Go.Proofs.YtmpnompddfhkeaaGreat.B
namespace Go.Proofs.YtmpnompddfhkeaaGreat.B
open Go Go.RowKit Go.Shelf Go.Sort
set_option maxRecDepth 1000000
set_option linter.unusedVariables false
structure PutR (w w' : World) (b off : Nat) (us : List Value) : Prop where
  os : w'.os = w.os
  tape : w'.tape = w.tape
  output : w'.output = w.output
  size : w.heap.size ≤ w'.heap.size
  block : ∀ k, k < w.heap.size → k ≠ b → w'.heap[k]? = w.heap[k]?
  cell : ∀ (i : Nat) v, us[i]? = some v → w'.cell? ⟨b, off + i, none⟩ = some v
  other : ∀ p : Addr, p.block < w.heap.size → (p.off < off ∨ off + us.length ≤ p.off ∨ p.block ≠ b) → w'.cell? p = w.cell? p
  frozen : ∀ p : Addr, p.block < w.heap.size → stuck w' p = stuck w p
theorem grow_block (w : World) (os : Array Obj) {k : Nat} (h : k < w.heap.size) : (grow w os).heap[k]? = w.heap[k]? := by
  unfold grow; exact Array.getElem?_append_left h
theorem grow_cell (w : World) (os : Array Obj) {p : Addr} (h : p.block < w.heap.size) : (grow w os).cell? p = w.cell? p := by
  unfold World.cell?; rw [grow_block w os h]
theorem stuck_mapBlock (w : World) (blk : Nat) (f : Array Value → Array Value) (hf : ∀ c, (f c).size = c.size) (p : Addr) : stuck (mapBlock w blk f) p = stuck w p := by
  have h1 : ∀ a, (mapBlock w blk f).frozen? a = w.frozen? a := fun a => frozen?_mapBlock w blk f a
  have h2 : (mapBlock w blk f).shape? p.block = w.shape? p.block := by
    simp only [mapBlock, World.shape?, Array.getElem?_modify]
    by_cases hk : blk = p.block
    · simp only [hk, if_true]
      cases w.heap[p.block]? with
      | none => rfl
      | some o => cases o <;> simp [onCells, hf]
    · simp [hk]
  unfold stuck
  rw [h1, h2]
  simp only [h1]
theorem putR_of {α : Type} [Inhabited α] {enc : α → Value} {w : World} {b off n : Nat} {os : Array Obj} {d0 d : Array α} (hb : b < w.heap.size) (hH : Holds enc w b off d0) (hs : d.size = d0.size) :
    PutR w (grow (putRow enc (Sort.ahead w n) b off d) os) b off (d.toList.map enc) := by
  have hsz : (putRow enc (Sort.ahead w n) b off d).heap.size = w.heap.size := by rw [size_putRow]; rfl
  refine ⟨rfl, rfl, rfl, ?_, fun k hk hne => ?_, fun i v hv => ?_, fun p hp ho => ?_, fun p hp => ?_⟩
  · rw [size_grow, hsz]; omega
  · rw [grow_block _ _ (by rw [hsz]; exact hk)]
    unfold putRow mapBlock Sort.ahead
    simp only [Array.getElem?_modify, if_neg (Ne.symm hne)]
  · rw [grow_cell _ _ (by rw [hsz]; exact hb)]
    rw [List.getElem?_map] at hv
    have hi : i < d.size := by
      rcases Nat.lt_or_ge i d.size with g | g
      · exact g
      · rw [List.getElem?_eq_none (by simpa using g)] at hv; simp at hv
    have hH' : Holds enc (Sort.ahead w n) b off d0 := hH
    rw [cell?_putRow enc (Sort.ahead w n) b off d0 d hH' hs i hi]
    rw [List.getElem?_eq_getElem (by simpa using hi)] at hv
    rw [getElem!_pos d i hi]
    simpa using hv
  · rw [grow_cell _ _ (by rw [hsz]; exact hp)]
    rw [cell?_putRow_other enc (Sort.ahead w n) b off d p (by simp only [List.length_map, Array.length_toList] at ho; omega)]
    rfl
  · rw [stuck_heap (grow_block _ _ (by rw [hsz]; exact hp))]
    exact stuck_mapBlock (Sort.ahead w n) b _ (fun c => by unfold putCells; simp) p
theorem FExt.put {fr : Fr} {w' : World} {b off : Nat} {us : List Value} (hst : PutR fr.w0 w' b off us) (ho : ∀ (i : Nat), i < us.length → fr.own b (off + i)) (hne : 0 < us.length) : FExt fr w' := by
  refine ⟨hst.os, hst.tape, hst.output, hst.size, fun k hk hn => ?_, fun b' o hk hn => ?_, fun b' o hk hn => hst.frozen _ hk⟩
  · by_cases e : k = b
    · subst e
      exact (hn _ (ho 0 hne)).elim
    · exact hst.block k hk e
  · refine hst.other _ hk ?_
    by_cases e : b' = b
    · subst e
      by_cases h1 : o < off
      · exact .inl h1
      · by_cases h2 : off + us.length ≤ o
        · exact .inr (.inl h2)
        · have h3 := ho (o - off) (by omega)
          rw [show off + (o - off) = o from by omega] at h3; exact (hn h3).elim
    · exact .inr (.inr e)
theorem ObRel.put {g : G} {w w' : World} {k ver : Nat} {live : Bool} {τ : Ty} (h1 : sz τ = 1) {xs ys : List (Den τ)} {b off cap : Nat} {us : List Value} (htk : g.tk k = (some ⟨b, off, none⟩, cap)) (hb : b < w.heap.size) (hown : ∀ b o x, g.ω b o = some x → b < w.heap.size)
    (hO : ObAt En g w k ⟨ver, τ, xs, some 0, live⟩ b off cap (fun i j => (w.cell? ⟨b, off + i * sz τ + j, none⟩).getD undef))
    (hst : PutR w w' b off us) (hul : us.length = xs.length) (hyl : ys.length ≤ us.length) (hcap : xs.length ≤ cap) (hbig : xs.length ≤ 9223372036854775807)
    (hrel : ∀ i (hi : i < ys.length) d, (enc τ ys[i])[0]? = some d → ∃ u, us[i]? = some u ∧ VRel En g.St w u d) :
    ObRel En g w' k ⟨ver, τ, ys, some 0, live⟩ ∧ Keeps g.St w g.St w' := by
  have hmine : ∀ i, i < us.length → g.ω b (off + i) = some (.obj k) ∧ stuck w ⟨b, off + i, none⟩ = false := by
    intro i hi
    have := (hO.cell i 0 (by show i < xs.length; omega) (by show 0 < sz τ; omega)).2
    have e : off + i * Un.sz τ + 0 = off + i := by show off + i * sz τ + 0 = _; rw [h1]; omega
    rw [e] at this
    exact this.2 (Nat.zero_le _)
  have hk : Keeps g.St w g.St w' := fun b' o hs => ⟨hs, hst.other ⟨b', o, none⟩ (hown _ _ _ hs) (by
    by_cases e : b' = b
    · subst e
      by_cases h2 : o < off
      · exact .inl h2
      · by_cases h3 : off + us.length ≤ o
        · exact .inr (.inl h3)
        · have := (hmine (o - off) (by omega)).1
          rw [show off + (o - off) = o by omega] at this
          have hs' : g.ω b' o = some .st := hs
          rw [this] at hs'; simp at hs'
    · exact .inr (.inr e))⟩
  refine ⟨⟨⟨⟨by rw [htk]; show ys.length ≤ cap; omega, by show ys.length ≤ _; omega⟩, fun f hf => by simp at hf; subst hf; exact Nat.zero_le _⟩, fun _ => ⟨b, off, fun i j => us.getD i undef, by rw [htk], ⟨?_, ?_, ?_⟩⟩⟩, hk⟩
  · intro i j hi hj
    have hi' : i < ys.length := hi
    have hj' : j < sz τ := hj
    obtain rfl : j = 0 := by omega
    have e0 : off + i * Un.sz τ + 0 = off + i := by show off + i * sz τ + 0 = _; rw [h1]; omega
    show w'.cell? ⟨b, off + i * Un.sz τ + 0, none⟩ = _ ∧ Mode g w' k (some 0) i b (off + i * Un.sz τ + 0)
    rw [e0]
    refine ⟨?_, fun h => absurd h (Nat.not_lt_zero _), fun _ => ⟨(hmine i (by omega)).1, by rw [hst.frozen _ hb]; exact (hmine i (by omega)).2⟩⟩
    rw [List.getD_eq_getElem?_getD, List.getElem?_eq_getElem (by omega)]
    exact hst.cell _ _ (List.getElem?_eq_getElem (by omega))
  · intro i hi j d hd
    have hj : j < sz τ := by have h0 := (List.getElem?_eq_some_iff.1 hd).1; have := enc_len τ (ys[i]'hi); exact this ▸ h0
    obtain rfl : j = 0 := by omega
    obtain ⟨u, h2, h3⟩ := hrel i hi d hd
    show VRel En g.St w' (us.getD i undef) d
    rw [List.getD_eq_getElem?_getD, h2]
    exact h3.mono hk
  · intro hl x hx hx'
    rw [htk] at hx'
    have hx1 : ys.length * sz τ ≤ x := hx
    have hx2 : x < cap * sz τ := hx'
    rw [h1] at hx1 hx2
    rcases Nat.lt_or_ge x us.length with g1 | g1
    · exact ⟨(hmine x g1).1, ⟨us[x], hst.cell _ _ (List.getElem?_eq_getElem g1)⟩, by rw [hst.frozen _ hb]; exact (hmine x g1).2⟩
    · obtain ⟨m1, ⟨v, m2⟩, m3⟩ := hO.spare hl x (by show xs.length * sz τ ≤ x; rw [h1]; omega) (by show x < cap * sz τ; rw [h1]; omega)
      exact ⟨m1, ⟨v, by rw [hst.other ⟨b, off + x, none⟩ hb (.inr (.inl (by show off + us.length ≤ off + x; omega)))]; exact m2⟩, by rw [hst.frozen _ hb]; exact m3⟩
theorem ObRel.open1 {g : G} {w : World} {k ver : Nat} {live : Bool} {τ : Ty} {xs : List (Den τ)} (h : ObRel En g w k ⟨ver, τ, xs, some 0, live⟩) (hne : xs ≠ []) :
    ∃ b off, g.tk k = (some ⟨b, off, none⟩, (g.tk k).2) ∧ xs.length ≤ (g.tk k).2 ∧ ObAt En g w k ⟨ver, τ, xs, some 0, live⟩ b off (g.tk k).2 (fun i j => (w.cell? ⟨b, off + i * sz τ + j, none⟩).getD undef) := by
  obtain ⟨⟨⟨hcap, hmax⟩, _⟩, hrow⟩ := h
  have hpos : 0 < xs.length := List.length_pos_iff.2 hne
  have hc : xs.length ≤ (g.tk k).2 := hcap
  obtain ⟨b, off, cv, hbase, hA⟩ := hrow (by omega)
  have hcv : ∀ i j, i < xs.length → j < sz τ → (w.cell? ⟨b, off + i * sz τ + j, none⟩).getD undef = cv i j := fun i j hi hj => by
    have := (hA.cell i j hi hj).1
    have e : w.cell? ⟨b, off + i * sz τ + j, none⟩ = some (cv i j) := this
    rw [e]; rfl
  refine ⟨b, off, by rw [← hbase], hc, ⟨fun i j hi hj => ?_, fun i hi j d hd => ?_, hA.spare⟩⟩
  · have := hA.cell i j hi hj
    rw [hcv i j hi hj]; exact this
  · have hj : j < sz τ := by have h0 := (List.getElem?_eq_some_iff.1 hd).1; have := enc_len τ (xs[i]'hi); exact this ▸ h0
    rw [hcv i j hi hj]; exact hA.rel i hi j d hd
theorem vrel_s {St : Nat → Nat → Prop} {w : World} {v x : Value} (h : VRel En St w v (.s x)) : v = x ∧ oneC x = true := by cases h with | s _ h => exact ⟨rfl, h⟩
theorem ObAt.holds {g : G} {w : World} {k ver : Nat} {live : Bool} {xs : List Int} {b off cap : Nat} {cv : Nat → Nat → Value} (hA : ObAt En g w k ⟨ver, .int, xs, some 0, live⟩ b off cap cv) :
    Holds (Value.int .i64) w b off xs.toArray ∧ ∀ x ∈ xs, oneC (.int .i64 x) = true := by
  have key : ∀ i (hi : i < xs.length), cv i 0 = .int .i64 xs[i] ∧ oneC (.int .i64 xs[i]) = true := fun i hi => by
    have := hA.rel i hi 0 (.s (.int .i64 xs[i])) rfl
    exact vrel_s this
  refine ⟨fun j hj => ?_, fun x hx => ?_⟩
  · have hj' : j < xs.length := by simpa using hj
    have hc := hA.cell j 0 hj' (show (0 : Nat) < 1 from Nat.one_pos)
    have e : off + j * Un.sz .int + 0 = off + j := by show off + j * 1 + 0 = _; omega
    rw [e] at hc
    refine ⟨?_, stuck_no (hc.2.2 (Nat.zero_le _)).2⟩
    rw [hc.1, (key j hj').1, getElem!_pos _ j hj]
    simp
  · obtain ⟨i, hi, rfl⟩ := List.getElem_of_mem hx
    exact (key i hi).2
end Go.Proofs.YtmpnompddfhkeaaGreat.B
namespace Go.Proofs
open Go.Shelf
open Go.RowKit in
def Tryz.lays189_ren : Go.Shelf.Ren := ⟨fun | 189 => 158 | 125 => 185 | 257 => 184 | 128 => 206 | 129 => 207 | 294 => 197 | 295 => 198 | 296 => 199 | 297 => 200 | 298 => 201 | 299 => 202 | 216 => 203 | 300 => 204 | 301 => 205 | 328 => 212 | 329 => 213 | 330 => 214 | 331 => 215 | 332 => 216 | 215 => 217 | 343 => 218 | n => n, fun | 28 => 37 | 3 => 3 | 46 => 160 | 0 => 0 | 51 => 175 | 53 => 177 | 4 => 4 | 183 => 169 | 182 => 168 | 131 => 172 | 5 => 5 | 9 => 9 | 218 => 180 | 222 => 184 | 228 => 186 | 229 => 187 | n => n, fun | n => n⟩
theorem Tryz.lays189 : Go.Proofs.Lays.n189 Tryz.prog Tryz.lays189_ren := {
  mixed := by kernel_rfl
  f125 := Tryz.func185.trans (congrArg some (by kernel_rfl))
  f128 := Tryz.func206.trans (congrArg some (by kernel_rfl))
  f129 := Tryz.func207.trans (congrArg some (by kernel_rfl))
  f189 := Tryz.func158.trans (congrArg some (by kernel_rfl))
  f215 := Tryz.func217.trans (congrArg some (by kernel_rfl))
  f216 := Tryz.func203.trans (congrArg some (by kernel_rfl))
  f257 := Tryz.func184.trans (congrArg some (by kernel_rfl))
  f294 := Tryz.func197.trans (congrArg some (by kernel_rfl))
  f295 := Tryz.func198.trans (congrArg some (by kernel_rfl))
  f296 := Tryz.func199.trans (congrArg some (by kernel_rfl))
  f297 := Tryz.func200.trans (congrArg some (by kernel_rfl))
  f298 := Tryz.func201.trans (congrArg some (by kernel_rfl))
  f299 := Tryz.func202.trans (congrArg some (by kernel_rfl))
  f300 := Tryz.func204.trans (congrArg some (by kernel_rfl))
  f301 := Tryz.func205.trans (congrArg some (by kernel_rfl))
  f328 := Tryz.func212.trans (congrArg some (by kernel_rfl))
  f329 := Tryz.func213.trans (congrArg some (by kernel_rfl))
  f330 := Tryz.func214.trans (congrArg some (by kernel_rfl))
  f331 := Tryz.func215.trans (congrArg some (by kernel_rfl))
  f332 := Tryz.func216.trans (congrArg some (by kernel_rfl))
  f343 := Tryz.func218.trans (congrArg some (by kernel_rfl))
  t0 := Tryz.underlying0
  a0 := Tryz.isAgg0
  z0 := Tryz.sizeOf0
  v0 := Tryz.zeroValue0
  t3 := Tryz.underlying3
  a3 := Tryz.isAgg3
  z3 := Tryz.sizeOf3
  v3 := Tryz.zeroValue3
  t4 := Tryz.underlying4
  a4 := Tryz.isAgg4
  z4 := Tryz.sizeOf4
  v4 := Tryz.zeroValue4
  t5 := Tryz.underlying5
  a5 := Tryz.isAgg5
  z5 := Tryz.sizeOf5
  v5 := Tryz.zeroValue5
  t9 := Tryz.underlying9
  a9 := Tryz.isAgg9
  z9 := Tryz.sizeOf9
  v9 := Tryz.zeroValue9
  t28 := Tryz.underlying37
  a28 := Tryz.isAgg37
  z28 := Tryz.sizeOf37
  v28 := Tryz.zeroValue37
  t46 := Tryz.underlying160
  a46 := Tryz.isAgg160
  z46 := Tryz.sizeOf160
  v46 := Tryz.zeroValue160
  t51 := Tryz.underlying175
  a51 := Tryz.isAgg175
  z51 := Tryz.sizeOf175
  v51 := Tryz.zeroValue175
  t53 := Tryz.underlying177
  a53 := Tryz.isAgg177
  z53 := Tryz.sizeOf177
  v53 := Tryz.zeroValue177
  t131 := Tryz.underlying172
  a131 := Tryz.isAgg172
  z131 := Tryz.sizeOf172
  v131 := Tryz.zeroValue172
  t182 := Tryz.underlying168
  a182 := Tryz.isAgg168
  z182 := Tryz.sizeOf168
  v182 := Tryz.zeroValue168
  t183 := Tryz.underlying169
  a183 := Tryz.isAgg169
  z183 := Tryz.sizeOf169
  v183 := Tryz.zeroValue169
  t218 := Tryz.underlying180
  a218 := Tryz.isAgg180
  z218 := Tryz.sizeOf180
  v218 := Tryz.zeroValue180
  t222 := Tryz.underlying184
  a222 := Tryz.isAgg184
  z222 := Tryz.sizeOf184
  v222 := Tryz.zeroValue184
  t228 := Tryz.underlying186
  a228 := Tryz.isAgg186
  z228 := Tryz.sizeOf186
  v228 := Tryz.zeroValue186
  t229 := Tryz.underlying187
  a229 := Tryz.isAgg187
  z229 := Tryz.sizeOf187
  v229 := Tryz.zeroValue187 }
open Go.Sort Go.RowKit in
theorem Tryz.slices_Sort_int (blk off cap : Nat) (zs : List Int) (w : World) (hH : Holds (Value.int .i64) w blk off zs.toArray) (hblk : blk < w.heap.size) (hsz : zs.length < 4611686018427387904) :
    Calls Tryz.prog 158 #[.slice (some ⟨blk, off, none⟩) zs.length cap] w fun e w' =>
      e = .returned (.tuple #[]) ∧ ∃ n os, w' = grow (putRow (Value.int .i64) (Sort.ahead w n) blk off (zs.mergeSort fun x y => decide (x ≤ y)).toArray) os := Any.slices_Sort_int Tryz.lays189 blk off cap zs w hH hblk hsz
open Go.RowKit Go.Lib in
def Tryz.laysGw15_ren : Go.Shelf.Ren := ⟨fun | 15 => 148 | 20 => 181 | n => n, fun | 9 => 9 | 23 => 137 | 3 => 3 | 4 => 4 | 0 => 0 | 21 => 21 | n => n, fun | n => n⟩
theorem Tryz.laysGw15 : Go.Proofs.LaysGw.n15 Tryz.prog Tryz.laysGw15_ren := {
  mixed := by kernel_rfl
  f15 := Tryz.func148.trans (congrArg some (by kernel_rfl))
  f20 := Tryz.func181.trans (congrArg some (by kernel_rfl))
  t0 := Tryz.underlying0
  a0 := Tryz.isAgg0
  z0 := Tryz.sizeOf0
  v0 := Tryz.zeroValue0
  i0 := by kernel_rfl
  t3 := Tryz.underlying3
  a3 := Tryz.isAgg3
  z3 := Tryz.sizeOf3
  v3 := Tryz.zeroValue3
  i3 := by kernel_rfl
  t4 := Tryz.underlying4
  a4 := Tryz.isAgg4
  z4 := Tryz.sizeOf4
  v4 := Tryz.zeroValue4
  i4 := by kernel_rfl
  t9 := Tryz.underlying9
  a9 := Tryz.isAgg9
  z9 := Tryz.sizeOf9
  v9 := Tryz.zeroValue9
  i9 := by kernel_rfl
  t21 := Tryz.underlying21
  a21 := Tryz.isAgg21
  z21 := Tryz.sizeOf21
  v21 := Tryz.zeroValue21
  i21 := by kernel_rfl
  t23 := Tryz.underlying137
  a23 := Tryz.isAgg137
  z23 := Tryz.sizeOf137
  v23 := Tryz.zeroValue137
  i23 := by kernel_rfl }
open Go.RowKit Go.Lib in
theorem Tryz.strings_IndexFunc (g : Nat) (lb : Array Value) (eg : ∀ args w, (callFunc g args).run Tryz.prog w = .ok (.enter g args) w) (p : Nat → Bool) (s : ByteArray) (w : World) (hp : PredAt Tryz.prog g lb encR p w) :
    Calls Tryz.prog 148 #[.string s, .func (.func g) #[] lb] w fun e w' => e = .returned (.int .i64 (Lib.idxFunc p true s)) ∧ Below w.heap.size w w' := Any.strings_IndexFunc Tryz.laysGw15 g lb eg p s w hp
open Go.RowKit Go.Lib in
open Go.RowKit Go.Lib in
open Go.RowKit Go.Lib in
open Go.RowKit Go.Lib in
open Go.Lib in
open Go.Lib in
open Go.Lib in
open Go.Lib in
open Go.Lib in
open Go.Lib in
open Go.Lib in
open Go.Lib in
def Tryz.laysNm220_ren : Go.Shelf.Ren := ⟨fun | 20 => 159 | n => n, fun | 22 => 37 | 3 => 3 | 4 => 4 | 0 => 0 | n => n, fun | n => n⟩
theorem Tryz.laysNm220 : Go.Proofs.Lays2.n20 Tryz.prog Tryz.laysNm220_ren := {
  mixed := by kernel_rfl
  f20 := Tryz.func159.trans (congrArg some (by kernel_rfl))
  t0 := Tryz.underlying0
  a0 := Tryz.isAgg0
  z0 := Tryz.sizeOf0
  v0 := Tryz.zeroValue0
  t3 := Tryz.underlying3
  a3 := Tryz.isAgg3
  z3 := Tryz.sizeOf3
  v3 := Tryz.zeroValue3
  t4 := Tryz.underlying4
  a4 := Tryz.isAgg4
  z4 := Tryz.sizeOf4
  v4 := Tryz.zeroValue4
  t22 := Tryz.underlying37
  a22 := Tryz.isAgg37
  z22 := Tryz.sizeOf37
  v22 := Tryz.zeroValue37
  i3 := by kernel_rfl }
open Go.RowKit Go.Lib Go.Sort in
open Go.RowKit Go.Lib Go.Sort in
theorem Tryz.slices_Compact_int (blk off cap : Nat) (zs : List Int) (w : World) (hH : Holds (Value.int .i64) w blk off zs.toArray) (hsz : zs.length ≤ 9223372036854775807) (hcap : zs.length ≤ cap) :
    Calls Tryz.prog 159 #[.slice (some ⟨blk, off, none⟩) zs.length cap] w fun e w' => e = .returned (.slice (some ⟨blk, off, none⟩) (Lib.compact zs).length cap) ∧ ∃ q, w' = putRow (Value.int .i64) (Sort.ahead w q) blk off (Lib.compact zs ++ List.replicate (zs.length - (Lib.compact zs).length) 0).toArray := Any.slices_Compact_int Tryz.laysNm220 blk off cap zs w hH hsz hcap
open Go.RowKit Go.Lib Go.Sort in
theorem Tryz.slices_Compact_int_empty (a : Option Addr) (cap : Nat) (w : World) :
    Calls Tryz.prog 159 #[.slice a 0 cap] w fun e w' => e = .returned (.slice a 0 cap) ∧ w' = w := Any.slices_Compact_int_empty Tryz.laysNm220 a cap w
open Go.RowKit Go.Lib in
open Go.RowKit Go.Lib in
open Go.RowKit Go.Lib Go.Sort in
open Go.RowKit Go.Sort in
theorem Tryz.slices_Sort_int_none (p : Option Addr) (cap : Nat) (w : World) :
    Calls Tryz.prog 158 #[.slice p 0 cap] w fun e w' => e = .returned (.tuple #[]) ∧ w' = w := Any.slices_Sort_int_none Tryz.lays189 p cap w
end Go.Proofs
namespace Go.Proofs.YtmpnompddfhkeaaGreat.B
open Go Go.RowKit Go.Shelf Go.Sort
set_option maxRecDepth 1000000
set_option linter.unusedVariables false
theorem lib_compact (zs : List Int) : Go.Lib.compact zs = compactI zs := by
  have key : ∀ m, m ≤ zs.length → Go.Lib.compactUpTo zs.toArray m = (zs.take m).foldl snocI [] ∧ (∀ (h : 0 < m), ((zs.take m).foldl snocI []).getLast? = zs[m - 1]?) := by
    intro m
    induction m with
    | zero => intro _; exact ⟨by simp [Go.Lib.compactUpTo], fun h => absurd h (Nat.lt_irrefl 0)⟩
    | succ m ih =>
      intro hm
      obtain ⟨h1, h2⟩ := ih (by omega)
      have hlt : m < zs.length := by omega
      have hx : zs.toArray[m]! = zs[m] := by rw [getElem!_pos zs.toArray m (by simpa using hlt)]; simp
      have ht : zs.take (m + 1) = zs.take m ++ [zs[m]] := by rw [List.take_add_one, List.getElem?_eq_getElem hlt]; rfl
      have hsn : ∀ (acc : List Int) (x : Int), snocI acc x = if acc.getLast? = some x then acc else acc ++ [x] := fun _ _ => rfl
      rw [Go.Lib.compactUpTo_succ, h1, ht, List.foldl_append, List.foldl_cons, List.foldl_nil, hx]
      have hg : zs[m + 1 - 1]? = some zs[m] := by rw [Nat.add_sub_cancel]; exact List.getElem?_eq_getElem hlt
      by_cases h0 : m = 0
      · subst h0
        have hk : Go.Lib.keeps zs.toArray 0 = true := Go.Lib.keeps_lt_one _ 0 (by omega)
        rw [hk]
        simp [snocI, hg]
      · have hpos : 0 < m := by omega
        have hl := h2 hpos
        have hlt1 : m - 1 < zs.length := by omega
        have hx1 : zs.toArray[m - 1]! = zs[m - 1] := by rw [getElem!_pos zs.toArray (m - 1) (by simpa using hlt1)]; simp
        rw [List.getElem?_eq_getElem hlt1] at hl
        by_cases he : zs[m] = zs[m - 1]
        · have hk : Go.Lib.keeps zs.toArray m = false := Go.Lib.keeps_neg hpos (by rw [hx, hx1]; exact he)
          have hs : snocI ((zs.take m).foldl snocI []) zs[m] = (zs.take m).foldl snocI [] := by rw [hsn, if_pos (by rw [hl, he])]
          rw [hk, hs]
          exact ⟨by simp, fun _ => by rw [hl, hg, he]⟩
        · have hk : Go.Lib.keeps zs.toArray m = true := Go.Lib.keeps_pos (by rw [hx, hx1]; exact he)
          have hs : snocI ((zs.take m).foldl snocI []) zs[m] = (zs.take m).foldl snocI [] ++ [zs[m]] := by
            rw [hsn, if_neg (fun e => he (by rw [hl] at e; exact (Option.some.inj e).symm))]
          rw [hk, hs]
          exact ⟨by simp, fun _ => by rw [hg]; simp⟩
  have := (key zs.length (Nat.le_refl _)).1
  unfold Go.Lib.compact compactI
  rw [this, List.take_length]
def U_sort_int : FnU Un := fun τ xs args => match τ, xs, args with
  | .int, xs, [] => some ([xs.length ≤ 1000000000], sortI xs)
  | _, _, _ => none
theorem okU_sort_int : UpOK 158 U_sort_int := by
  intro τ xs ds ob ys h hob
  unfold U_sort_int at h
  split at h
  · rename_i xs
    simp only [Option.some.injEq, Prod.mk.injEq] at h
    obtain ⟨rfl, rfl⟩ := h
    have hlen : xs.length ≤ 1000000000 := hob _ (List.mem_singleton.2 rfl)
    refine ⟨fun w g k ver live vs hO hown hvs => ?_, hasBody_of Tryz.func158 (by kernel_rfl) (by kernel_rfl)⟩
    match vs, hvs with
    | [], _ =>
      have hsl : (sortI xs).length = xs.length := by unfold sortI; exact List.length_mergeSort _
      by_cases hne : xs = []
      · subst hne
        refine (Tryz.slices_Sort_int_none (g.tk k).1 (g.tk k).2 w).mono ?_
        rintro e w' ⟨rfl, rfl⟩
        refine ⟨rfl, hsl, ⟨rfl, rfl, rfl, Nat.le_refl _, fun _ _ _ => rfl, fun _ _ _ _ => rfl, fun _ _ _ _ => rfl⟩, ?_⟩
        have e : sortI [] = [] := by simp [sortI]
        rw [e]; exact hO
      · obtain ⟨b, off, htk, hcap, hA⟩ := hO.open1 hne
        obtain ⟨hH, h1⟩ := hA.holds
        have hpos : 0 < xs.length := List.length_pos_iff.2 hne
        have hb : b < w.heap.size := by
          have := (hA.cell 0 0 hpos (show (0 : Nat) < 1 from Nat.one_pos)).1
          exact lt_of_cell this
        have h0 : (g.tk k).1 = some ⟨b, off, none⟩ := by rw [htk]
        rw [h0]
        refine (Tryz.slices_Sort_int b off (g.tk k).2 xs w hH hb (by omega)).mono ?_
        rintro e w' ⟨rfl, n, os, rfl⟩
        have hp := putR_of (n := n) (os := os) hb hH (d := (sortI xs).toArray) (by simpa using hsl)
        have hus : (sortI xs).toArray.toList.map (Value.int .i64) = (sortI xs).map (Value.int .i64) := by simp
        rw [hus] at hp
        have hul : ((sortI xs).map (Value.int .i64)).length = xs.length := by rw [List.length_map, hsl]
        obtain ⟨r1, _⟩ := ObRel.put (w' := _) (ys := sortI xs) (τ := .int) rfl htk hb hown hA hp hul (by rw [hul, hsl]; exact Nat.le_refl _) hcap (by omega) (fun i hi d hd => by
          have hd' : some (V.s (.int .i64 (sortI xs)[i])) = some d := hd
          cases hd'
          refine ⟨.int .i64 (sortI xs)[i], by rw [List.getElem?_map, List.getElem?_eq_getElem hi]; rfl, .s _ (h1 _ ((sortI_mem xs _).1 (List.getElem_mem hi)))⟩)
        refine ⟨rfl, hsl, ?_, r1⟩
        refine FExt.put (fr := ⟨w, fun b i => g.ω b i = some (.obj k), g.St, 0, g.β⟩) hp (fun i hi => ?_) (by rw [hul]; exact hpos)
        rw [hul] at hi
        have := (hA.cell i 0 hi (show (0 : Nat) < 1 from Nat.one_pos)).2
        have e : off + i * Un.sz .int + 0 = off + i := by show off + i * 1 + 0 = _; omega
        rw [e] at this
        exact (this.2 (Nat.zero_le _)).1
  · simp at h
def G_compact_int : List Bool × FnG Un := ([true], fun args bxs os => match args, bxs, os with
  | [.c (.ob 0 0)], [], [o] => (oM .int o).bind fun xs => some ([], [.c (.ob 0 0)], [], [⟨0, .int, compactI xs, some 0, true⟩])
  | _, _, _ => none)
theorem compactI_len (l : List Int) : (compactI l).length ≤ l.length := by
  have : ∀ (l acc : List Int), (l.foldl snocI acc).length ≤ acc.length + l.length := by
    intro l
    induction l with
    | nil => intro acc; simp
    | cons y l ih =>
      intro acc
      have h1 := ih (snocI acc y)
      have h2 : (snocI acc y).length ≤ acc.length + 1 := by unfold snocI; split <;> simp
      rw [List.foldl_cons, List.length_cons]; omega
  have h3 := this l []
  unfold compactI
  simpa using h3
theorem compactI_sub (l : List Int) : ∀ x ∈ compactI l, x ∈ l := by
  have : ∀ (l acc : List Int), ∀ x ∈ l.foldl snocI acc, x ∈ acc ∨ x ∈ l := by
    intro l
    induction l with
    | nil => intro acc x hx; exact .inl hx
    | cons y l ih =>
      intro acc x hx
      rcases ih (snocI acc y) x hx with h | h
      · unfold snocI at h
        split at h
        · exact .inl h
        · rcases List.mem_append.1 h with h | h
          · exact .inl h
          · rw [List.mem_singleton] at h; exact .inr (by rw [h]; exact List.mem_cons_self)
      · exact .inr (List.mem_cons_of_mem _ h)
  intro x hx
  rcases this l [] x hx with h | h
  · simp at h
  · exact h
theorem okG_compact_int : GnOK 159 G_compact_int := by
  intro args bxs obs ob rs bxs' obs' h hob
  unfold G_compact_int at h
  dsimp only at h
  split at h
  · rename_i o
    simp only [Option.bind_eq_some_iff, Option.some.injEq, Prod.mk.injEq] at h
    obtain ⟨xs, e0, rfl, rfl, rfl, rfl⟩ := h
    obtain rfl := oM_eq e0
    refine ⟨?_, hasBody_of Tryz.func159 (by kernel_rfl) (by kernel_rfl)⟩
    intro w g vals hp hvals
    match vals, hvals with
    | [v0], ⟨h0, _⟩ =>
      obtain ⟨_, o', ho', _, hv⟩ := h0
      simp at ho'; subst ho'
      have hv : v0 = .slice (g.tk 0).1 xs.length (g.tk 0).2 := hv rfl
      subst hv
      obtain ⟨hO, _⟩ := hp.obs 0 _ rfl
      have hlb : ∀ k, ¬ g.lb k := fun k hk => by have := hp.lbs k hk; simp at this
      by_cases hne : xs = []
      · subst hne
        refine (Tryz.slices_Compact_int_empty (g.tk 0).1 (g.tk 0).2 w).mono ?_
        rintro e w' ⟨rfl, rfl⟩
        refine ⟨_, rfl, g, ⟨rfl, rfl, rfl, Nat.le_refl _, fun _ _ _ => rfl, fun _ _ _ _ => rfl, fun _ _ _ _ => rfl⟩, hp, fun _ _ => rfl, fun b o x _ hx => ?_, ?_⟩
        · cases x with
          | st => exact .inr ⟨rfl, hx⟩
          | box k => exact .inl ⟨_, by simp, hx⟩
          | obj k => exact .inl ⟨_, by simp, hx⟩
        · exact ⟨rfl, _, rfl, Nat.le_refl _, fun _ => rfl⟩
      · obtain ⟨b, off, htk, hcap, hA⟩ := hO.open1 hne
        obtain ⟨hH, h1⟩ := hA.holds
        have hmax : xs.length ≤ 9223372036854775807 := hO.1.1.2
        have hpos : 0 < xs.length := List.length_pos_iff.2 hne
        have hb : b < w.heap.size := lt_of_cell (hA.cell 0 0 hpos (show (0 : Nat) < 1 from Nat.one_pos)).1
        have h0 : (g.tk 0).1 = some ⟨b, off, none⟩ := by rw [htk]
        rw [h0]
        refine (Tryz.slices_Compact_int b off (g.tk 0).2 xs w hH hmax hcap).mono ?_
        rintro e w' ⟨rfl, q, rfl⟩
        rw [lib_compact]
        have hcl := compactI_len xs
        have hp2 := putR_of (n := q) (os := #[]) hb hH (d := (compactI xs ++ List.replicate (xs.length - (compactI xs).length) 0).toArray) (by simp; omega)
        rw [grow_empty] at hp2
        obtain ⟨us, hus⟩ : ∃ us, us = (compactI xs ++ List.replicate (xs.length - (compactI xs).length) 0).toArray.toList.map (Value.int .i64) := ⟨_, rfl⟩
        rw [← hus] at hp2
        have hul : us.length = xs.length := by rw [hus]; simp; omega
        have hget : ∀ i (hi : i < (compactI xs).length), us[i]? = some (.int .i64 (compactI xs)[i]) := fun i hi => by
          rw [hus]
          rw [List.getElem?_map, show ∀ l : List Int, l.toArray.toList = l from fun _ => rfl, List.getElem?_append_left hi, List.getElem?_eq_getElem hi]; rfl
        obtain ⟨r1, r2⟩ := ObRel.put (w' := _) (ys := compactI xs) (τ := .int) rfl htk hb hp.own hA hp2 hul (by omega) hcap hmax (fun i hi d hd => by
          have hd' : some (V.s (.int .i64 (compactI xs)[i])) = some d := hd
          cases hd'
          exact ⟨_, hget i hi, .s _ (h1 _ (compactI_sub xs _ (List.getElem_mem hi)))⟩)
        refine ⟨_, rfl, g, ?_, ⟨fun k fz cells hk' => by simp at hk', hp.lbs, fun k o ho => ?_, fun b' o x hx => Nat.lt_of_lt_of_le (hp.own b' o x hx) hp2.size⟩, fun _ _ => rfl, fun b' o x _ hx => ?_, ?_⟩
        · refine FExt.put (fr := ⟨w, g.mine, g.St, 0, g.β⟩) hp2 (fun i hi => ?_) (by omega)
          rw [hul] at hi
          have := (hA.cell i 0 hi (show (0 : Nat) < 1 from Nat.one_pos)).2
          have e : off + i * Un.sz .int + 0 = off + i := by show off + i * 1 + 0 = _; omega
          rw [e] at this
          exact ⟨_, by simp, (this.2 (Nat.zero_le _)).1⟩
        · cases k with
          | zero => simp at ho; subst ho; exact ⟨r1, rfl⟩
          | succ k => simp at ho
        · cases x with
          | st => exact .inr ⟨rfl, hx⟩
          | box k => exact .inl ⟨_, by simp, hx⟩
          | obj k => exact .inl ⟨_, by simp, hx⟩
        · exact ⟨rfl, _, rfl, Nat.le_refl _, fun _ => by rw [htk]⟩
  · simp at h
end Go.Proofs.YtmpnompddfhkeaaGreat.B
namespace Go.Proofs.YtmpnompddfhkeaaGreat.B
open Go Go.RowKit
set_option maxRecDepth 100000
noncomputable section
attribute [local irreducible] awp ctxK itersK iterK retQ retGQ awf ctxF loopF
def M_uC : Mc Un := mach (tbl []) (tbl []) (tbl []) (tbl []) (tbl [])
def A_uC (r : Term × Int × List Int) : List (A Un) := [.agg (encC Ty.term r.1)]
def B_uC (r : Term × Int × List Int) : List (Bool × List (C Un)) := [(false, [(.s (.int .i64 r.2.1))]), (false, [(.ob 0 0)])]
def O_uC (r : Term × Int × List Int) : List (Ob Un) := [⟨0, Ty.int, r.2.2, some 0, true⟩]
def R_uC (r : Term × Int × List Int) : RGF Un := (A_uC r, B_uC r, O_uC r)
def N_uC : Nat → NS := fun l => (look l []).getD ⟨[], [], [], [], []⟩
def uC_fn (c : Term) (down : Int) (depth : Int) (out : List Int) : Option (RGF Un) := awf M_uC N_uC (bodyOf Tryz.f157) (entryG Tryz.f157.ntmps 0 [.agg (encC Ty.term c), .c (.s (.int .i64 down)), .c (.bx 0 0), .c (.bx 1 0)] [(false, [(.s (.int .i64 depth))]), (false, [.ob 0 0])] [⟨0, Ty.int, out, (some 0), true⟩]) (retGF M_uC 2 Tryz.f157.results.toList [.d, .m, .d])
theorem uC_in (c : Term) (down : Int) (depth : Int) (out : List Int) : uC_fn c down depth out =
 cndO (IntKind.i64.wrap (c.depth - down) == depth)
  (obO ((out.length + [c.at_].length) * (8 : Nat) ≤ roomB)
   (some (R_uC (c, depth, out ++ [c.at_]))))
  (some (R_uC (c, depth, out))) := by kernel_rfl
def uCOK (depth down : Int) (out : List Int) : Prop := (-2000000 ≤ depth ∧ depth ≤ 2000000) ∧ (0 ≤ down ∧ down ≤ 2000000) ∧ out.length ≤ 2000000
def uC (c : Term) (down depth : Int) (out : List Int) : Term × Int × List Int := (c, depth, if c.depth = depth + down then out ++ [c.at_] else out)
theorem uC_spec (c : Term) (down depth : Int) (out : List Int) (hc : WS .term c) (_hd : WI down) (_ho : WL .int out) (h : uCOK depth down out) : uC_fn c down depth out = some (R_uC (uC c down depth out)) := by
  obtain ⟨h1, h2, h3⟩ := h
  have hw : (IntKind.i64.wrap (c.depth - down) == depth) = decide (c.depth = depth + down) := by
    have hb := hc.term_depth
    unfold WI at hb
    rw [IntKind.wrap_i64]
    by_cases e : c.depth = depth + down
    · rw [decide_eq_true e, beq_iff_eq]; omega
    · rw [decide_eq_false e, beq_eq_false_iff_ne]; omega
  rw [uC_in, hw]
  unfold uC
  simp only [cndO_eq, decide_eq_true_eq]
  split
  · rw [obO_pos (by unfold roomB; simp; omega)]
  · rfl
def G_uC : List Bool × FnG Un := ([], fun args bxs os => match args, bxs, os with
  | [x0, x1, .c (.bx 0 0), .c (.bx 1 0)], [(false, cells0), (false, cells1)], [o0] => match cells0.map C.weak, cells1.map C.weak with
    | [c0_depth], [.ob 0 0] => (aS .term x0).bind fun c => (aI .i64 x1).bind fun down => (aI .i64 (.c c0_depth)).bind fun depth => (oM .int o0).bind fun out => some ([uCOK depth down out], A_uC (uC c down depth out), B_uC (uC c down depth out), O_uC (uC c down depth out))
    | _, _ => none
  | _, _, _ => none)
theorem okG_uC : GnOK 157 G_uC := by
  intro args bxs os ob rs bxs' os' h hob
  unfold G_uC at h
  dsimp only at h
  split at h
  · rename_i x0 x1 cells0 cells1 o0
    split at h
    · rename_i c0_depth ec0 ec1
      simp only [Option.bind_eq_some_iff, Option.some.injEq, Prod.mk.injEq] at h
      obtain ⟨c, e0, down, e1, depth, e2, out, e3, rfl, rfl, rfl, rfl⟩ := h
      obtain rfl := aS_eq e0
      obtain rfl := aI_eq e1
      have q2 := aI_eq e2
      have q3 := oM_eq e3
      refine ⟨GContract.weak ?_, hasBody_of Tryz.func157 (by kernel_rfl) (by kernel_rfl)⟩
      simp only [List.map_cons, List.map_nil, ec0, ec1]
      have hb : [(false, [c0_depth]), (false, [(C.ob 0 0 : C Un)])] = [(false, [(.s (.int .i64 depth))]), (false, [.ob 0 0])] := by
        simp only [A.c.injEq, A.agg.injEq] at q2
        simp only [q2]
        all_goals rfl
      rw [hb]
      rw [q3]
      refine gn_contract (M := M_uC) rfl (nb := 2) rfl (tbl_ok (l1 := []) (l2 := []) (l3 := []) (l4 := []) (l5 := []) trivial trivial trivial trivial trivial) Tryz.func157 (by kernel_rfl) N_uC 0 [.d, .m, .d] (fun ha hb ho => ?_)
      have hsp := uC_spec c down depth out (wfArgA ha (a := .agg (encC Ty.term c)) (by simp)) (wfArgA ha (a := .c (.s (.int .i64 down))) (by simp)) (wfObs (τ := .int) (l := out) (fr := some 0) ho (by simp)) (hob _ (List.mem_of_getElem? (i := 0) rfl))
      exact runG_of_awf (r := (_, _, _)) hsp
    · simp at h
  · simp at h
def uOK (depth down : Int) (out : List Int) (n : Nat) : Prop := (-2000000 ≤ depth ∧ depth ≤ 2000000) ∧ (0 ≤ down ∧ down + n ≤ 2000000) ∧ out.length + n ≤ 2000000
def uT (t : Term) (down depth : Int) (out : List Int) : Term × Int × List Int := (t, depth, out ++ inT (depth + down) t)
def uTs (l : List Term) (down depth : Int) (out : List Int) : List Term × Int × List Int := (l, depth, out ++ inTs (depth + down) l)
def uR (r : Rel) (down depth : Int) (out : List Int) : Rel × Int × List Int := (r, depth, out ++ inR (depth + down) r)
def A_uT (r : Term × Int × List Int) : List (A Un) := [.agg (encC Ty.term r.1)]
def B_uT (r : Term × Int × List Int) : List (Bool × List (C Un)) := [(false, [(.s (.int .i64 r.2.1))]), (false, [(.ob 0 0)])]
def O_uT (r : Term × Int × List Int) : List (Ob Un) := [⟨0, Ty.int, r.2.2, some 0, true⟩]
def Gm_uT (m : Nat) : List Bool × FnG Un := ([], fun args bxs os => match args, bxs, os with
  | [x0, x1, .c (.fc 157 [0, 1])], [(false, cells0), (false, cells1)], [o0] => match cells0.map C.weak, cells1.map C.weak with
    | [c0_depth], [.ob 0 0] => (aS .term x0).bind fun t => (aI .i64 x1).bind fun down => (aI .i64 (.c c0_depth)).bind fun depth => (oM .int o0).bind fun out => some ([2 * t.ht + 1 < m, uOK depth down out t.sz], A_uT (uT t down depth out), B_uT (uT t down depth out), O_uT (uT t down depth out))
    | _, _ => none
  | _, _, _ => none)
def A_uTs (r : List Term × Int × List Int) : List (A Un) := [.c (.sl (U := Un) Ty.term r.1 false)]
def B_uTs (r : List Term × Int × List Int) : List (Bool × List (C Un)) := [(false, [(.s (.int .i64 r.2.1))]), (false, [(.ob 0 0)])]
def O_uTs (r : List Term × Int × List Int) : List (Ob Un) := [⟨0, Ty.int, r.2.2, some 0, true⟩]
def Gm_uTs (m : Nat) : List Bool × FnG Un := ([], fun args bxs os => match args, bxs, os with
  | [x0, x1, .c (.fc 157 [0, 1])], [(false, cells0), (false, cells1)], [o0] => match cells0.map C.weak, cells1.map C.weak with
    | [c0_depth], [.ob 0 0] => (aL .term x0).bind fun l => (aI .i64 x1).bind fun down => (aI .i64 (.c c0_depth)).bind fun depth => (oM .int o0).bind fun out => some ([2 * htTs l + 2 < m, uOK depth down out (szTs l)], A_uTs (uTs l down depth out), B_uTs (uTs l down depth out), O_uTs (uTs l down depth out))
    | _, _ => none
  | _, _, _ => none)
def A_uR (r : Rel × Int × List Int) : List (A Un) := [.agg (encC Ty.rel r.1)]
def B_uR (r : Rel × Int × List Int) : List (Bool × List (C Un)) := [(false, [(.s (.int .i64 r.2.1))]), (false, [(.ob 0 0)])]
def O_uR (r : Rel × Int × List Int) : List (Ob Un) := [⟨0, Ty.int, r.2.2, some 0, true⟩]
def Gm_uR (m : Nat) : List Bool × FnG Un := ([], fun args bxs os => match args, bxs, os with
  | [x0, x1, .c (.fc 157 [0, 1])], [(false, cells0), (false, cells1)], [o0] => match cells0.map C.weak, cells1.map C.weak with
    | [c0_depth], [.ob 0 0] => (aS .rel x0).bind fun r => (aI .i64 x1).bind fun down => (aI .i64 (.c c0_depth)).bind fun depth => (oM .int o0).bind fun out => some ([2 * r.ht + 1 < m, uOK depth down out r.sz], A_uR (uR r down depth out), B_uR (uR r down depth out), O_uR (uR r down depth out))
    | _, _ => none
  | _, _, _ => none)
def M_uT (m : Nat) : Mc Un := mach (tbl [(140, F_clone_rel)]) (tbl []) (tbl []) (tbl [(182, Gm_uTs m), (183, Gm_uR m), (157, G_uC)]) (tbl [])
def R_uT (r : Term × Int × List Int) : RGF Un := (A_uT r, B_uT r, O_uT r)
def N_uT : Nat → NS := fun l => (look l [(6, { ts := bl 46 402653262, bs := bl 48 291, nm := [(.cell 1 0, 192), (.cell 5 8, 193)] })]).getD ⟨[], [], [], [], []⟩
def uT_c1 (t : Term) (down : Int) (depth : Int) (out : List Int) := uC (Term.mk t.op t.v t.depth t.at_ t.name t.kids t.sub t.type) down depth out
def uT_c2 (down : Int) (v1 : Int) (v11 : List Int) (v12 : List Rel) (v13 : Int) := uR (Rel.mk (Rel.op (v12.getD v13.toNat zeroRel)) (Rel.table (v12.getD v13.toNat zeroRel)) (Rel.cols (v12.getD v13.toNat zeroRel)) (Rel.kids (v12.getD v13.toNat zeroRel)) (Rel.terms (v12.getD v13.toNat zeroRel)) (Rel.aggs (v12.getD v13.toNat zeroRel)) (Rel.keys (v12.getD v13.toNat zeroRel)) (Rel.limit (v12.getD v13.toNat zeroRel)) (Rel.skip (v12.getD v13.toNat zeroRel)) (Rel.all (v12.getD v13.toNat zeroRel)) (Rel.rows (v12.getD v13.toNat zeroRel))) (IntKind.i64.wrap (down + 1)) v1 v11
def uT_c3 (t : Term) (down : Int) (depth : Int) (out : List Int) := uTs (uT_c1 t down depth out).fst.kids down (uT_c1 t down depth out).snd.fst (uT_c1 t down depth out).snd.snd
def uT_s6 (down : Int) (v0 : Int) (v1 : Int) (v2 : Int) (v3 : Int) (v4 : Int) (v5 : ByteArray) (v6 : Int) (v7 : Int) (v8 : ByteArray) (v9 : List Term) (v10 : Int) (v11 : List Int) (v12 : List Rel) (v13 : Int) : S Un := (st 46 48 194 2 [(1, ai down), (2, AV.one (A.c (C.fc (157 : Nat) [(0 : Nat), (1 : Nat)]))), (3, ax 5), (6, ax 8), (27, ai v0), (28, ai v13)] [(0, bi v1), (1, bo 192), (5, some (false, [C.s (Value.int IntKind.i64 v2), C.s (Value.int IntKind.i64 v3), C.s (Value.int IntKind.i64 v4), C.s (Value.string v5), C.s (Value.int IntKind.i64 v6), C.s (Value.int IntKind.i64 v7), C.s (Value.string v8), C.sl Ty.term v9 false, C.ob (193 : Nat) (0 : Nat), C.s (Value.int IntKind.i64 v10)])), (8, some (false, [C.s (Value.int IntKind.i64 (0 : Int)), C.s (Value.int IntKind.i64 (0 : Int)), C.s (Value.int IntKind.i64 (0 : Int)), C.s (Value.string (ByteArray.mk #[])), C.s (Value.int IntKind.i64 (0 : Int)), C.s (Value.int IntKind.i64 (0 : Int)), C.s (Value.string (ByteArray.mk #[])), C.sl Ty.term [] true, C.sl Ty.rel [] true, C.s (Value.int IntKind.i64 (0 : Int))]))] [(192, some ⟨(0 : Nat), Ty.int, v11, some (0 : Nat), true⟩), (193, some ⟨(0 : Nat), Ty.rel, v12, some (0 : Nat), true⟩)])
def uT_B6 : Code := sub (bodyOf Tryz.f156) [1, 1, 1, 1, 0, 1, 2, 2]
def uT_L6 (m : Nat) : S Un → Option (EX Un) := loopF (N_uT 6) (fun s Q => awf (M_uT m) N_uT uT_B6 s Q)
def uT_C6 (m : Nat) : Exit → S Un → Option (RGF Un) := ctxF (M_uT m) N_uT (bodyOf Tryz.f156) [1, 1, 1, 1, 0, 1, 2] (retGF (M_uT m) 2 Tryz.f156.results.toList [.d, .m, .d])
def uT_fn (m : Nat) (t : Term) (down : Int) (depth : Int) (out : List Int) : Option (RGF Un) := awf (M_uT m) N_uT (bodyOf Tryz.f156) (entryG Tryz.f156.ntmps 2 [.agg (encC Ty.term t), .c (.s (.int .i64 down)), .c (.fc 157 [0, 1])] [(false, [(.s (.int .i64 depth))]), (false, [.ob 0 0])] [⟨0, Ty.int, out, (some 0), true⟩]) (retGF (M_uT m) 2 Tryz.f156.results.toList [.d, .m, .d])
theorem uT_in (m : Nat) (t : Term) (down : Int) (depth : Int) (out : List Int) : uT_fn m t down depth out =
 cndO (t.op == 2)
  (obO (uCOK depth down out)
   (obO ((2 : Nat) * htTs (uT_c1 t down depth out).fst.kids + (2 : Nat) < m)
    (obO (uOK (uT_c1 t down depth out).snd.fst down (uT_c1 t down depth out).snd.snd (szTs (uT_c1 t down depth out).fst.kids))
     (obO ((uT_c1 t down depth out).fst.sub.length ≤ (1000000000 : Nat))
      ((uT_L6 m (uT_s6 down (↑(uT_c1 t down depth out).fst.sub.length : Int) ((uT_c3 t down depth out).snd.fst) ((uT_c1 t down depth out).fst.op) ((uT_c1 t down depth out).fst.v.kind) ((uT_c1 t down depth out).fst.v.n) ((uT_c1 t down depth out).fst.v.s) ((uT_c1 t down depth out).fst.depth) ((uT_c1 t down depth out).fst.at_) ((uT_c1 t down depth out).fst.name) ((uT_c3 t down depth out).fst) ((uT_c1 t down depth out).fst.type) ((uT_c3 t down depth out).snd.snd) ((uT_c1 t down depth out).fst.sub) (0 : Int))).bind (thenX (uT_C6 m)))))))
  (obO ((2 : Nat) * htTs t.kids + (2 : Nat) < m)
   (obO (uOK depth down out (szTs t.kids))
    (obO (t.sub.length ≤ (1000000000 : Nat))
     ((uT_L6 m (uT_s6 down (↑t.sub.length : Int) ((uTs t.kids down depth out).snd.fst) t.op t.v.kind t.v.n t.v.s t.depth t.at_ t.name ((uTs t.kids down depth out).fst) t.type ((uTs t.kids down depth out).snd.snd) t.sub (0 : Int))).bind (thenX (uT_C6 m)))))) := by kernel_rfl
theorem uT_l6 (m : Nat) (down : Int) (v0 : Int) (v1 : Int) (v2 : Int) (v3 : Int) (v4 : Int) (v5 : ByteArray) (v6 : Int) (v7 : Int) (v8 : ByteArray) (v9 : List Term) (v10 : Int) (v11 : List Int) (v12 : List Rel) (v13 : Int) : uT_L6 m (uT_s6 down v0 v1 v2 v3 v4 v5 v6 v7 v8 v9 v10 v11 v12 v13) =
 cndO (decide (v13 < v0))
  (obO (0 ≤ v13 ∧ v13 < (↑v12.length : Int))
   (obO ((2 : Nat) * (Rel.ids (v12.getD v13.toNat zeroRel)).ht + (1 : Nat) < m)
    (obO (uOK v1 (IntKind.i64.wrap (down + 1)) v11 (Rel.ids (v12.getD v13.toNat zeroRel)).sz)
     (obO (0 ≤ v13 ∧ v13 < (↑v12.length : Int))
      (obO ((0 : Nat) ≤ v13.toNat)
       (uT_L6 m (uT_s6 down v0 ((uT_c2 down v1 v11 v12 v13).snd.fst) v2 v3 v4 v5 v6 v7 v8 v9 v10 ((uT_c2 down v1 v11 v12 v13).snd.snd) (v12.set v13.toNat (Rel.mk (uT_c2 down v1 v11 v12 v13).fst.op (uT_c2 down v1 v11 v12 v13).fst.table (uT_c2 down v1 v11 v12 v13).fst.cols (uT_c2 down v1 v11 v12 v13).fst.kids (uT_c2 down v1 v11 v12 v13).fst.terms (uT_c2 down v1 v11 v12 v13).fst.aggs (uT_c2 down v1 v11 v12 v13).fst.keys (uT_c2 down v1 v11 v12 v13).fst.limit (uT_c2 down v1 v11 v12 v13).fst.skip (uT_c2 down v1 v11 v12 v13).fst.all (uT_c2 down v1 v11 v12 v13).fst.rows)) (IntKind.i64.wrap (v13 + 1)))))))))
  (some (.exit 0, (uT_s6 down v0 v1 v2 v3 v4 v5 v6 v7 v8 v9 v10 v11 v12 v13))) := (loopF_eq (N_uT 6) uT_B6 _).trans (by kernel_rfl)
theorem uT_a6_x0 (m : Nat) (down : Int) (v0 : Int) (v1 : Int) (v2 : Int) (v3 : Int) (v4 : Int) (v5 : ByteArray) (v6 : Int) (v7 : Int) (v8 : ByteArray) (v9 : List Term) (v10 : Int) (v11 : List Int) (v12 : List Rel) (v13 : Int) : uT_C6 m (.exit 0) (uT_s6 down v0 v1 v2 v3 v4 v5 v6 v7 v8 v9 v10 v11 v12 v13) =
 some (R_uT (Term.mk v2 { kind := v3, n := v4, s := v5 } v6 v7 v8 v9 v12 v10, v1, v11)) := by kernel_rfl
theorem uT_loop (m : Nat) (down depth v2 v3 v4 : Int) (v5 : ByteArray) (v6 v7 : Int) (v8 : ByteArray) (v9 : List Term) (v10 : Int) (s : List Rel) (out : List Int) (hl : s.length ≤ 9223372036854775807) (hm : 2 * htRs s + 1 < m) (h : uOK depth (down + 1) out (szRs s)) (h0 : 0 ≤ down) :
    uT_L6 m (uT_s6 down (s.length : Int) depth v2 v3 v4 v5 v6 v7 v8 v9 v10 out s (0 : Int)) = some (.exit 0, uT_s6 down (s.length : Int) depth v2 v3 v4 v5 v6 v7 v8 v9 v10 (out ++ inRs (depth + (down + 1)) s) s (s.length : Int)) := by
  obtain ⟨h1, h2, h3⟩ := h
  have hw : IntKind.i64.wrap (down + 1) = down + 1 := wrap_id (by omega)
  have := (loop_fold (e := .exit 0) (L := uT_L6 m) (st := fun o i => uT_s6 down (s.length : Int) depth v2 v3 v4 v5 v6 v7 v8 v9 v10 o s i) (l := s) (d := zeroRel) (g := fun o x => o ++ inR (depth + (down + 1)) x) (fun i o => o.length + szRs (s.drop i) ≤ 2000000) hl
    (fun o i x hi hx hI => by
      have hil : i < s.length := by omega
      have hd := drop_getD (d := zeroRel) hil
      have hI' : o.length + szRs (s.drop i) ≤ 2000000 := hI
      have hmem : x ∈ s := by rw [← hx]; exact getD_mem hil
      have hsz := szRs_mem hmem
      have hht := htRs_mem hmem
      have hlen := inR_len (depth + (down + 1)) x
      rw [hd, hx] at hI'
      simp only [szRs] at hI'
      refine ⟨by show (o ++ inR (depth + (down + 1)) x).length + szRs (s.drop (i + 1)) ≤ 2000000; rw [List.length_append]; omega, ?_⟩
      rw [uT_l6]
      simp only [uT_c2, rel_eta, Rel.ids_eq, cndO_eq, hi, decide_true, if_true, and_true, Int.toNat_natCast, hx, hw]
      rw [obO_pos (by omega), obO_pos (by omega), obO_pos (show uOK _ _ _ _ from ⟨h1, by omega, by omega⟩), obO_pos (by omega), obO_pos (by omega)]
      simp only [uR, rel_eta]
      rw [← hx, set_getD hil])
    (fun o _ => by rw [uT_l6]; simp [cndO_eq]) out (by show out.length + szRs (s.drop 0) ≤ 2000000; rw [List.drop_zero]; omega)).1
  rw [inRs_fold] at this
  exact this
theorem uT_spec (m : Nat) (t : Term) (down depth : Int) (out : List Int) (ht : WS .term t) (_hd : WI down) (_ho : WL .int out) (hm : 2 * t.ht + 1 < m + 1) (h : uOK depth down out t.sz) : uT_fn m t down depth out = some (R_uT (uT t down depth out)) := by
  obtain ⟨h1, h2, h3⟩ := h
  have hsz := t.sz_eq
  have hk : htTs t.kids < t.ht ∧ htRs t.sub < t.ht := by cases t; simp only [Term.ht, Term.kids_mk, Term.sub_mk]; omega
  have hsl := szRs_len t.sub
  have key : ∀ o1 : List Int, o1.length + szTs t.kids + szRs t.sub ≤ 2000000 →
      (uT_L6 m (uT_s6 down (t.sub.length : Int) depth t.op t.v.kind t.v.n t.v.s t.depth t.at_ t.name t.kids t.type (o1 ++ inTs (depth + down) t.kids) t.sub (0 : Int))).bind (thenX (uT_C6 m)) = some (R_uT (t, depth, o1 ++ inTs (depth + down) t.kids ++ inRs (depth + down + 1) t.sub)) := by
    intro o1 ho1
    have hkl := inTs_len (depth + down) t.kids
    rw [loop_end (uT_loop m down depth _ _ _ _ _ _ _ _ _ t.sub _ (by have := (ht.term_sub).len; exact this) (by omega) ⟨h1, by omega, by rw [List.length_append]; omega⟩ h2.1), uT_a6_x0]
    rw [← Int.add_assoc]
    have : (⟨t.v.kind, t.v.n, t.v.s⟩ : Val) = t.v := rfl
    rw [this, term_eta]
  rw [uT_in]
  simp only [uT_c1, uT_c3, term_eta, uC, uTs, cndO_eq, beq_iff_eq]
  unfold uT
  rw [inT_eq]
  by_cases ho : t.op = 2
  · rw [if_pos ho, obO_pos (show uCOK _ _ _ from ⟨h1, by omega, by omega⟩), obO_pos (by omega)]
    obtain ⟨o1, he1⟩ : ∃ o1, o1 = if t.depth = depth + down then out ++ [t.at_] else out := ⟨_, rfl⟩
    have hl1 : o1.length ≤ out.length + 1 := by rw [he1]; split <;> simp
    rw [← he1, obO_pos (show uOK _ _ _ _ from ⟨h1, by omega, by omega⟩), obO_pos (by omega), key o1 (by omega), he1]
    congr 3
    by_cases hd : t.depth = depth + down
    · simp [ho, hd]
    · simp [hd]
  · rw [if_neg ho, obO_pos (by omega), obO_pos (show uOK _ _ _ _ from ⟨h1, by omega, by omega⟩), obO_pos (by omega), key out (by omega)]
    simp [ho]
theorem okGm_uT (m : Nat) (h_uT : GnOK 156 (Gm_uT m)) (h_uTs : GnOK 182 (Gm_uTs m)) (h_uR : GnOK 183 (Gm_uR m)) : GnOK 156 (Gm_uT (m + 1)) := by
  intro args bxs os ob rs bxs' os' h hob
  unfold Gm_uT at h
  dsimp only at h
  split at h
  · rename_i x0 x1 cells0 cells1 o0
    split at h
    · rename_i c0_depth ec0 ec1
      simp only [Option.bind_eq_some_iff, Option.some.injEq, Prod.mk.injEq] at h
      obtain ⟨t, e0, down, e1, depth, e2, out, e3, rfl, rfl, rfl, rfl⟩ := h
      obtain rfl := aS_eq e0
      obtain rfl := aI_eq e1
      have q2 := aI_eq e2
      have q3 := oM_eq e3
      refine ⟨GContract.weak ?_, hasBody_of Tryz.func156 (by kernel_rfl) (by kernel_rfl)⟩
      simp only [List.map_cons, List.map_nil, ec0, ec1]
      have hb : [(false, [c0_depth]), (false, [(C.ob 0 0 : C Un)])] = [(false, [(.s (.int .i64 depth))]), (false, [.ob 0 0])] := by
        simp only [A.c.injEq, A.agg.injEq] at q2
        simp only [q2]
        all_goals rfl
      rw [hb]
      rw [q3]
      refine gn_contract (M := (M_uT m)) rfl (nb := 2) rfl (tbl_ok (l1 := [(140, F_clone_rel)]) (l2 := []) (l3 := []) (l4 := [(182, Gm_uTs m), (183, Gm_uR m), (157, G_uC)]) (l5 := []) ⟨ok_clone_rel, trivial⟩ trivial trivial ⟨h_uTs, h_uR, okG_uC, trivial⟩ trivial) Tryz.func156 (by kernel_rfl) N_uT 2 [.d, .m, .d] (fun ha hb ho => ?_)
      have hsp := uT_spec m t down depth out (wfArgA ha (a := .agg (encC Ty.term t)) (by simp)) (wfArgA ha (a := .c (.s (.int .i64 down))) (by simp)) (wfObs (τ := .int) (l := out) (fr := some 0) ho (by simp)) (hob _ (List.mem_of_getElem? (i := 0) rfl)) (hob _ (List.mem_of_getElem? (i := 1) rfl))
      exact runG_of_awf (r := (_, _, _)) hsp
    · simp at h
  · simp at h
def M_uTs (m : Nat) : Mc Un := mach (tbl [(141, F_clone_term)]) (tbl []) (tbl []) (tbl [(156, Gm_uT m), (157, G_uC)]) (tbl [])
def R_uTs (r : List Term × Int × List Int) : RGF Un := (A_uTs r, B_uTs r, O_uTs r)
def N_uTs : Nat → NS := fun l => (look l [(3, { ts := bl 27 6151, bs := bl 29 3, nm := [(.sl 0, 116), (.cell 1 0, 117)] })]).getD ⟨[], [], [], [], []⟩
def uTs_s3 (l : List Term) (down : Int) (v0 : Int) (v1 : Int) (v2 : List Term) (v3 : List Int) : S Un := (st 27 29 118 2 [(0, ao 116), (1, ai down), (2, AV.one (A.c (C.fc (157 : Nat) [(0 : Nat), (1 : Nat)]))), (11, ai (↑l.length : Int)), (12, ai v0)] [(0, bi v1), (1, bo 117)] [(116, some ⟨(0 : Nat), Ty.term, v2, some (0 : Nat), true⟩), (117, some ⟨(0 : Nat), Ty.int, v3, some (0 : Nat), true⟩)])
def uTs_B3 : Code := sub (bodyOf Tryz.f182) [1, 1, 0, 1, 2, 2]
def uTs_L3 (m : Nat) : S Un → Option (EX Un) := loopF (N_uTs 3) (fun s Q => awf (M_uTs m) N_uTs uTs_B3 s Q)
def uTs_C3 (m : Nat) : Exit → S Un → Option (RGF Un) := ctxF (M_uTs m) N_uTs (bodyOf Tryz.f182) [1, 1, 0, 1, 2] (retGF (M_uTs m) 2 Tryz.f182.results.toList [.d, .m, .d])
def uTs_fn (m : Nat) (l : List Term) (down : Int) (depth : Int) (out : List Int) : Option (RGF Un) := awf (M_uTs m) N_uTs (bodyOf Tryz.f182) (entryG Tryz.f182.ntmps 2 [.c (.sl (U := Un) Ty.term l false), .c (.s (.int .i64 down)), .c (.fc 157 [0, 1])] [(false, [(.s (.int .i64 depth))]), (false, [.ob 0 0])] [⟨0, Ty.int, out, (some 0), true⟩]) (retGF (M_uTs m) 2 Tryz.f182.results.toList [.d, .m, .d])
theorem uTs_in (m : Nat) (l : List Term) (down : Int) (depth : Int) (out : List Int) : uTs_fn m l down depth out =
 obO (l.length ≤ (1000000000 : Nat))
  ((uTs_L3 m (uTs_s3 l down (0 : Int) depth l out)).bind (thenX (uTs_C3 m))) := by kernel_rfl
theorem uTs_l3 (m : Nat) (l : List Term) (down : Int) (v0 : Int) (v1 : Int) (v2 : List Term) (v3 : List Int) : uTs_L3 m (uTs_s3 l down v0 v1 v2 v3) =
 cndO (decide (v0 < (↑l.length : Int)))
  (obO (0 ≤ v0 ∧ v0 < (↑v2.length : Int))
   (obO ((2 : Nat) * (Term.ids (v2.getD v0.toNat zeroTerm)).ht + (1 : Nat) < m)
    (obO (uOK v1 down v3 (Term.ids (v2.getD v0.toNat zeroTerm)).sz)
     (obO (0 ≤ v0 ∧ v0 < (↑v2.length : Int))
      (obO ((0 : Nat) ≤ v0.toNat)
       (uTs_L3 m (uTs_s3 l down (IntKind.i64.wrap (v0 + 1)) ((uT (Term.ids (v2.getD v0.toNat zeroTerm)) down v1 v3).snd.fst) (v2.set v0.toNat (Term.mk (uT (Term.ids (v2.getD v0.toNat zeroTerm)) down v1 v3).fst.op (uT (Term.ids (v2.getD v0.toNat zeroTerm)) down v1 v3).fst.v (uT (Term.ids (v2.getD v0.toNat zeroTerm)) down v1 v3).fst.depth (uT (Term.ids (v2.getD v0.toNat zeroTerm)) down v1 v3).fst.at_ (uT (Term.ids (v2.getD v0.toNat zeroTerm)) down v1 v3).fst.name (uT (Term.ids (v2.getD v0.toNat zeroTerm)) down v1 v3).fst.kids (uT (Term.ids (v2.getD v0.toNat zeroTerm)) down v1 v3).fst.sub (uT (Term.ids (v2.getD v0.toNat zeroTerm)) down v1 v3).fst.type)) ((uT (Term.ids (v2.getD v0.toNat zeroTerm)) down v1 v3).snd.snd))))))))
  (some (.exit 0, (uTs_s3 l down v0 v1 v2 v3))) := (loopF_eq (N_uTs 3) uTs_B3 _).trans (by kernel_rfl)
theorem uTs_a3_x0 (m : Nat) (l : List Term) (down : Int) (v0 : Int) (v1 : Int) (v2 : List Term) (v3 : List Int) : uTs_C3 m (.exit 0) (uTs_s3 l down v0 v1 v2 v3) =
 some (R_uTs (v2, v1, v3)) := by kernel_rfl
theorem uTs_spec (m : Nat) (l : List Term) (down depth : Int) (out : List Int) (hl : WL .term l) (_hd : WI down) (_ho : WL .int out) (hm : 2 * htTs l + 2 < m + 1) (h : uOK depth down out (szTs l)) : uTs_fn m l down depth out = some (R_uTs (uTs l down depth out)) := by
  obtain ⟨h1, h2, h3⟩ := h
  have hsl := szTs_len l
  have := (loop_fold (e := .exit 0) (L := uTs_L3 m) (st := fun o i => uTs_s3 l down i depth l o) (l := l) (d := zeroTerm) (g := fun o x => o ++ inT (depth + down) x) (fun i o => o.length + szTs (l.drop i) ≤ 2000000) hl.len
    (fun o i x hi hx hI => by
      have hil : i < l.length := by omega
      have hd := drop_getD (d := zeroTerm) hil
      have hI' : o.length + szTs (l.drop i) ≤ 2000000 := hI
      have hmem : x ∈ l := by rw [← hx]; exact getD_mem hil
      have hsz := szTs_mem hmem
      have hht := htTs_mem hmem
      have hlen := inT_len (depth + down) x
      rw [hd, hx] at hI'
      simp only [szTs] at hI'
      refine ⟨by show (o ++ inT (depth + down) x).length + szTs (l.drop (i + 1)) ≤ 2000000; rw [List.length_append]; omega, ?_⟩
      rw [uTs_l3]
      simp only [Term.ids_eq, cndO_eq, hi, decide_true, if_true, and_true, Int.toNat_natCast, hx]
      rw [obO_pos (by omega), obO_pos (by omega), obO_pos (show uOK _ _ _ _ from ⟨h1, by omega, by omega⟩), obO_pos (by omega), obO_pos (by omega)]
      simp only [uT, term_eta]
      rw [← hx, set_getD hil])
    (fun o _ => by rw [uTs_l3]; simp [cndO_eq]) out (by show out.length + szTs (l.drop 0) ≤ 2000000; rw [List.drop_zero]; omega)).1
  rw [inTs_fold] at this
  rw [uTs_in, obO_pos (by omega), loop_end this, uTs_a3_x0]
  rfl
theorem okGm_uTs (m : Nat) (h_uT : GnOK 156 (Gm_uT m)) (h_uTs : GnOK 182 (Gm_uTs m)) (h_uR : GnOK 183 (Gm_uR m)) : GnOK 182 (Gm_uTs (m + 1)) := by
  intro args bxs os ob rs bxs' os' h hob
  unfold Gm_uTs at h
  dsimp only at h
  split at h
  · rename_i x0 x1 cells0 cells1 o0
    split at h
    · rename_i c0_depth ec0 ec1
      simp only [Option.bind_eq_some_iff, Option.some.injEq, Prod.mk.injEq] at h
      obtain ⟨l, e0, down, e1, depth, e2, out, e3, rfl, rfl, rfl, rfl⟩ := h
      obtain rfl := aL_eq e0
      obtain rfl := aI_eq e1
      have q2 := aI_eq e2
      have q3 := oM_eq e3
      refine ⟨GContract.weak ?_, hasBody_of Tryz.func182 (by kernel_rfl) (by kernel_rfl)⟩
      simp only [List.map_cons, List.map_nil, ec0, ec1]
      have hb : [(false, [c0_depth]), (false, [(C.ob 0 0 : C Un)])] = [(false, [(.s (.int .i64 depth))]), (false, [.ob 0 0])] := by
        simp only [A.c.injEq, A.agg.injEq] at q2
        simp only [q2]
        all_goals rfl
      rw [hb]
      rw [q3]
      refine gn_contract (M := (M_uTs m)) rfl (nb := 2) rfl (tbl_ok (l1 := [(141, F_clone_term)]) (l2 := []) (l3 := []) (l4 := [(156, Gm_uT m), (157, G_uC)]) (l5 := []) ⟨ok_clone_term, trivial⟩ trivial trivial ⟨h_uT, okG_uC, trivial⟩ trivial) Tryz.func182 (by kernel_rfl) N_uTs 2 [.d, .m, .d] (fun ha hb ho => ?_)
      have hsp := uTs_spec m l down depth out (wfArgA ha (a := .c (.sl (U := Un) Ty.term l false)) (by simp)) (wfArgA ha (a := .c (.s (.int .i64 down))) (by simp)) (wfObs (τ := .int) (l := out) (fr := some 0) ho (by simp)) (hob _ (List.mem_of_getElem? (i := 0) rfl)) (hob _ (List.mem_of_getElem? (i := 1) rfl))
      exact runG_of_awf (r := (_, _, _)) hsp
    · simp at h
  · simp at h
def M_uR (m : Nat) : Mc Un := mach (tbl [(82, F_clone_agg), (140, F_clone_rel)]) (tbl []) (tbl []) (tbl [(182, Gm_uTs m), (183, Gm_uR m), (157, G_uC)]) (tbl [])
def R_uR (r : Rel × Int × List Int) : RGF Un := (A_uR r, B_uR r, O_uR r)
def N_uR : Nat → NS := fun l => (look l [(4, { ts := bl 64 6291534, bs := bl 66 291, nm := [(.cell 1 0, 264), (.cell 5 5, 265)] }), (10, { ts := bl 64 211106232533070, bs := bl 66 291, nm := [(.cell 5 3, 266), (.cell 1 0, 267), (.cell 5 5, 268)] })]).getD ⟨[], [], [], [], []⟩
def uR_c1 (down : Int) (v1 : Int) (v2 : List Int) (v4 : Int) (v5 : List Rel) := uR (Rel.mk (Rel.op (v5.getD v4.toNat zeroRel)) (Rel.table (v5.getD v4.toNat zeroRel)) (Rel.cols (v5.getD v4.toNat zeroRel)) (Rel.kids (v5.getD v4.toNat zeroRel)) (Rel.terms (v5.getD v4.toNat zeroRel)) (Rel.aggs (v5.getD v4.toNat zeroRel)) (Rel.keys (v5.getD v4.toNat zeroRel)) (Rel.limit (v5.getD v4.toNat zeroRel)) (Rel.skip (v5.getD v4.toNat zeroRel)) (Rel.all (v5.getD v4.toNat zeroRel)) (Rel.rows (v5.getD v4.toNat zeroRel))) down v1 v2
def uR_s4 (r : Rel) (down : Int) (depth : Int) (out : List Int) (v0 : Int) (v1 : Int) (v2 : List Int) (v3 : List Agg) : S Un := (st 64 66 269 2 [(1, ai down), (2, AV.one (A.c (C.fc (157 : Nat) [(0 : Nat), (1 : Nat)]))), (3, ax 5), (6, ax 8), (21, ai (↑r.aggs.length : Int)), (22, ai v0)] [(0, bi v1), (1, bo 264), (5, some (false, [C.s (Value.int IntKind.i64 r.op), C.s (Value.string r.table), C.sl Ty.col r.cols false, C.sl Ty.rel r.kids false, C.sl Ty.term (uTs r.terms down depth out).fst false, C.ob (265 : Nat) (0 : Nat), C.sl Ty.by_ r.keys false, C.s (Value.int IntKind.i64 r.limit), C.s (Value.int IntKind.i64 r.skip), C.s (Value.bool r.all), C.sl Ty.row r.rows false])), (8, some (false, [C.s (Value.int IntKind.i64 (0 : Int)), C.s (Value.string (ByteArray.mk #[])), C.sl Ty.col [] true, C.sl Ty.rel [] true, C.sl Ty.term [] true, C.sl Ty.agg [] true, C.sl Ty.by_ [] true, C.s (Value.int IntKind.i64 (0 : Int)), C.s (Value.int IntKind.i64 (0 : Int)), C.s (Value.bool false), C.sl Ty.row [] true]))] [(264, some ⟨(0 : Nat), Ty.int, v2, some (0 : Nat), true⟩), (265, some ⟨(0 : Nat), Ty.agg, v3, some (0 : Nat), true⟩)])
def uR_s10 (r : Rel) (down : Int) (depth : Int) (out : List Int) (v1 : Int) (v2 : List Int) (v3 : List Agg) (v4 : Int) (v5 : List Rel) : S Un := (st 64 66 269 2 [(1, ai down), (2, AV.one (A.c (C.fc (157 : Nat) [(0 : Nat), (1 : Nat)]))), (3, ax 5), (6, ax 8), (46, ai (↑r.kids.length : Int)), (47, ai v4)] [(0, bi v1), (1, bo 267), (5, some (false, [C.s (Value.int IntKind.i64 r.op), C.s (Value.string r.table), C.sl Ty.col r.cols false, C.ob (266 : Nat) (0 : Nat), C.sl Ty.term (uTs r.terms down depth out).fst false, C.ob (268 : Nat) (0 : Nat), C.sl Ty.by_ r.keys false, C.s (Value.int IntKind.i64 r.limit), C.s (Value.int IntKind.i64 r.skip), C.s (Value.bool r.all), C.sl Ty.row r.rows false])), (8, some (false, [C.s (Value.int IntKind.i64 (0 : Int)), C.s (Value.string (ByteArray.mk #[])), C.sl Ty.col [] true, C.sl Ty.rel [] true, C.sl Ty.term [] true, C.sl Ty.agg [] true, C.sl Ty.by_ [] true, C.s (Value.int IntKind.i64 (0 : Int)), C.s (Value.int IntKind.i64 (0 : Int)), C.s (Value.bool false), C.sl Ty.row [] true]))] [(266, some ⟨(0 : Nat), Ty.rel, v5, some (0 : Nat), true⟩), (267, some ⟨(0 : Nat), Ty.int, v2, some (0 : Nat), true⟩), (268, some ⟨(0 : Nat), Ty.agg, v3, some (0 : Nat), true⟩)])
def uR_B4 : Code := sub (bodyOf Tryz.f183) [1, 1, 1, 0, 1, 2, 2]
def uR_L4 (m : Nat) : S Un → Option (EX Un) := loopF (N_uR 4) (fun s Q => awf (M_uR m) N_uR uR_B4 s Q)
def uR_B10 : Code := sub (bodyOf Tryz.f183) [1, 1, 1, 1, 1, 0, 1, 2, 2]
def uR_L10 (m : Nat) : S Un → Option (EX Un) := loopF (N_uR 10) (fun s Q => awf (M_uR m) N_uR uR_B10 s Q)
def uR_C4 (m : Nat) : Exit → S Un → Option (RGF Un) := ctxF (M_uR m) N_uR (bodyOf Tryz.f183) [1, 1, 1, 0, 1, 2] (retGF (M_uR m) 2 Tryz.f183.results.toList [.d, .m, .d])
def uR_C10 (m : Nat) : Exit → S Un → Option (RGF Un) := ctxF (M_uR m) N_uR (bodyOf Tryz.f183) [1, 1, 1, 1, 1, 0, 1, 2] (retGF (M_uR m) 2 Tryz.f183.results.toList [.d, .m, .d])
def uR_fn (m : Nat) (r : Rel) (down : Int) (depth : Int) (out : List Int) : Option (RGF Un) := awf (M_uR m) N_uR (bodyOf Tryz.f183) (entryG Tryz.f183.ntmps 5 [.agg (encC Ty.rel r), .c (.s (.int .i64 down)), .c (.fc 157 [0, 1])] [(false, [(.s (.int .i64 depth))]), (false, [.ob 0 0])] [⟨0, Ty.int, out, (some 0), true⟩]) (retGF (M_uR m) 2 Tryz.f183.results.toList [.d, .m, .d])
theorem uR_in (m : Nat) (r : Rel) (down : Int) (depth : Int) (out : List Int) : uR_fn m r down depth out =
 obO ((2 : Nat) * htTs r.terms + (2 : Nat) < m)
  (obO (uOK depth down out (szTs r.terms))
   (obO (r.aggs.length ≤ (1000000000 : Nat))
    ((uR_L4 m (uR_s4 r down depth out (0 : Int) ((uTs r.terms down depth out).snd.fst) ((uTs r.terms down depth out).snd.snd) r.aggs)).bind (thenX (uR_C4 m))))) := by kernel_rfl
theorem uR_l4 (m : Nat) (r : Rel) (down : Int) (depth : Int) (out : List Int) (v0 : Int) (v1 : Int) (v2 : List Int) (v3 : List Agg) : uR_L4 m (uR_s4 r down depth out v0 v1 v2 v3) =
 cndO (decide (v0 < (↑r.aggs.length : Int)))
  (obO (0 ≤ v0 ∧ v0 < (↑v3.length : Int))
   (obO ((2 : Nat) * htTs (Agg.t (v3.getD v0.toNat zeroAgg)) + (2 : Nat) < m)
    (obO (uOK v1 down v2 (szTs (Agg.t (v3.getD v0.toNat zeroAgg))))
     (obO (0 ≤ v0 ∧ v0 < (↑v3.length : Int))
      (obO ((0 : Nat) ≤ v0.toNat)
       (uR_L4 m (uR_s4 r down depth out (IntKind.i64.wrap (v0 + 1)) ((uTs (Agg.t (v3.getD v0.toNat zeroAgg)) down v1 v2).snd.fst) ((uTs (Agg.t (v3.getD v0.toNat zeroAgg)) down v1 v2).snd.snd) (v3.set v0.toNat (Agg.mk (Agg.name (v3.getD v0.toNat zeroAgg)) (Agg.distinct (v3.getD v0.toNat zeroAgg)) (uTs (Agg.t (v3.getD v0.toNat zeroAgg)) down v1 v2).fst)))))))))
  (some (.exit 0, (uR_s4 r down depth out v0 v1 v2 v3))) := (loopF_eq (N_uR 4) uR_B4 _).trans (by kernel_rfl)
theorem uR_a4_x0 (m : Nat) (r : Rel) (down : Int) (depth : Int) (out : List Int) (v0 : Int) (v1 : Int) (v2 : List Int) (v3 : List Agg) : uR_C4 m (.exit 0) (uR_s4 r down depth out v0 v1 v2 v3) =
 obO (r.kids.length ≤ (1000000000 : Nat))
  ((uR_L10 m (uR_s10 r down depth out v1 v2 v3 (0 : Int) r.kids)).bind (thenX (uR_C10 m))) := by kernel_rfl
theorem uR_l10 (m : Nat) (r : Rel) (down : Int) (depth : Int) (out : List Int) (v1 : Int) (v2 : List Int) (v3 : List Agg) (v4 : Int) (v5 : List Rel) : uR_L10 m (uR_s10 r down depth out v1 v2 v3 v4 v5) =
 cndO (decide (v4 < (↑r.kids.length : Int)))
  (obO (0 ≤ v4 ∧ v4 < (↑v5.length : Int))
   (obO ((2 : Nat) * (Rel.ids (v5.getD v4.toNat zeroRel)).ht + (1 : Nat) < m)
    (obO (uOK v1 down v2 (Rel.ids (v5.getD v4.toNat zeroRel)).sz)
     (obO (0 ≤ v4 ∧ v4 < (↑v5.length : Int))
      (obO ((0 : Nat) ≤ v4.toNat)
       (uR_L10 m (uR_s10 r down depth out ((uR_c1 down v1 v2 v4 v5).snd.fst) ((uR_c1 down v1 v2 v4 v5).snd.snd) v3 (IntKind.i64.wrap (v4 + 1)) (v5.set v4.toNat (Rel.mk (uR_c1 down v1 v2 v4 v5).fst.op (uR_c1 down v1 v2 v4 v5).fst.table (uR_c1 down v1 v2 v4 v5).fst.cols (uR_c1 down v1 v2 v4 v5).fst.kids (uR_c1 down v1 v2 v4 v5).fst.terms (uR_c1 down v1 v2 v4 v5).fst.aggs (uR_c1 down v1 v2 v4 v5).fst.keys (uR_c1 down v1 v2 v4 v5).fst.limit (uR_c1 down v1 v2 v4 v5).fst.skip (uR_c1 down v1 v2 v4 v5).fst.all (uR_c1 down v1 v2 v4 v5).fst.rows)))))))))
  (some (.exit 2, (uR_s10 r down depth out v1 v2 v3 v4 v5))) := (loopF_eq (N_uR 10) uR_B10 _).trans (by kernel_rfl)
theorem uR_a10_x2 (m : Nat) (r : Rel) (down : Int) (depth : Int) (out : List Int) (v1 : Int) (v2 : List Int) (v3 : List Agg) (v4 : Int) (v5 : List Rel) : uR_C10 m (.exit 2) (uR_s10 r down depth out v1 v2 v3 v4 v5) =
 some (R_uR (Rel.mk r.op r.table r.cols v5 (uTs r.terms down depth out).fst v3 r.keys r.limit r.skip r.all r.rows, v1, v2)) := by kernel_rfl
theorem uR_spec (m : Nat) (r : Rel) (down depth : Int) (out : List Int) (hr : WS .rel r) (_hd : WI down) (_ho : WL .int out) (hm : 2 * r.ht + 1 < m + 1) (h : uOK depth down out r.sz) : uR_fn m r down depth out = some (R_uR (uR r down depth out)) := by
  obtain ⟨h1, h2, h3⟩ := h
  have hsz := r.sz_eq
  have hk : htTs r.terms < r.ht ∧ htAs r.aggs < r.ht ∧ htRs r.kids < r.ht := by cases r; simp only [Rel.ht, Rel.kids_mk, Rel.terms_mk, Rel.aggs_mk]; omega
  have hal := szAs_len r.aggs
  have hkl := szRs_len r.kids
  have htl := inTs_len (depth + down) r.terms
  have hail := inAs_len (depth + down) r.aggs
  have l4 := (loop_fold (e := .exit 0) (L := uR_L4 m) (st := fun o i => uR_s4 r down depth out i depth o r.aggs) (l := r.aggs) (d := zeroAgg) (g := fun o x => o ++ inA (depth + down) x) (fun i o => o.length + szAs (r.aggs.drop i) + szRs r.kids ≤ 2000000) (hr.rel_aggs).len
    (fun o i x hi hx hI => by
      have hil : i < r.aggs.length := by omega
      have hd := drop_getD (d := zeroAgg) hil
      have hI' : o.length + szAs (r.aggs.drop i) + szRs r.kids ≤ 2000000 := hI
      have hmem : x ∈ r.aggs := by rw [← hx]; exact getD_mem hil
      have hsz := szAs_mem hmem
      have hxs := x.sz_eq
      have hht := htAs_mem hmem
      have hxh : htTs x.t < x.ht := by cases x; simp only [Agg.ht, Agg.t_mk]; omega
      have hlen := inA_len (depth + down) x
      rw [hd, hx] at hI'
      simp only [szAs] at hI'
      refine ⟨by show (o ++ inA (depth + down) x).length + szAs (r.aggs.drop (i + 1)) + szRs r.kids ≤ 2000000; rw [List.length_append]; omega, ?_⟩
      rw [uR_l4]
      simp only [cndO_eq, hi, decide_true, if_true, and_true, Int.toNat_natCast, hx]
      rw [obO_pos (by omega), obO_pos (by omega), obO_pos (show uOK _ _ _ _ from ⟨h1, by omega, by omega⟩), obO_pos (by omega), obO_pos (by omega)]
      simp only [uTs, agg_eta, inA_eq]
      rw [← hx, set_getD hil])
    (fun o _ => by rw [uR_l4]; simp [cndO_eq]) (out ++ inTs (depth + down) r.terms) (by show (out ++ inTs (depth + down) r.terms).length + szAs (r.aggs.drop 0) + szRs r.kids ≤ 2000000; rw [List.drop_zero, List.length_append]; omega)).1
  rw [inAs_fold] at l4
  have l10 := (loop_fold (e := .exit 2) (L := uR_L10 m) (st := fun o i => uR_s10 r down depth out depth o r.aggs i r.kids) (l := r.kids) (d := zeroRel) (g := fun o x => o ++ inR (depth + down) x) (fun i o => o.length + szRs (r.kids.drop i) ≤ 2000000) (hr.rel_kids).len
    (fun o i x hi hx hI => by
      have hil : i < r.kids.length := by omega
      have hd := drop_getD (d := zeroRel) hil
      have hI' : o.length + szRs (r.kids.drop i) ≤ 2000000 := hI
      have hmem : x ∈ r.kids := by rw [← hx]; exact getD_mem hil
      have hsz := szRs_mem hmem
      have hht := htRs_mem hmem
      have hlen := inR_len (depth + down) x
      rw [hd, hx] at hI'
      simp only [szRs] at hI'
      refine ⟨by show (o ++ inR (depth + down) x).length + szRs (r.kids.drop (i + 1)) ≤ 2000000; rw [List.length_append]; omega, ?_⟩
      rw [uR_l10]
      simp only [uR_c1, rel_eta, Rel.ids_eq, cndO_eq, hi, decide_true, if_true, and_true, Int.toNat_natCast, hx]
      rw [obO_pos (by omega), obO_pos (by omega), obO_pos (show uOK _ _ _ _ from ⟨h1, by omega, by omega⟩), obO_pos (by omega), obO_pos (by omega)]
      simp only [uR, rel_eta]
      rw [← hx, set_getD hil])
    (fun o _ => by rw [uR_l10]; simp [cndO_eq]) (out ++ inTs (depth + down) r.terms ++ inAs (depth + down) r.aggs) (by show (out ++ inTs (depth + down) r.terms ++ inAs (depth + down) r.aggs).length + szRs (r.kids.drop 0) ≤ 2000000; rw [List.drop_zero, List.length_append, List.length_append]; omega)).1
  rw [inRs_fold] at l10
  rw [uR_in]
  simp only [uTs]
  rw [obO_pos (by omega), obO_pos (show uOK _ _ _ _ from ⟨h1, by omega, by omega⟩), obO_pos (by omega), loop_end l4, uR_a4_x0, obO_pos (by omega), loop_end l10, uR_a10_x2]
  simp only [uTs, rel_eta]
  unfold uR
  rw [inR_eq]
  simp only [List.append_assoc]
theorem okGm_uR (m : Nat) (h_uT : GnOK 156 (Gm_uT m)) (h_uTs : GnOK 182 (Gm_uTs m)) (h_uR : GnOK 183 (Gm_uR m)) : GnOK 183 (Gm_uR (m + 1)) := by
  intro args bxs os ob rs bxs' os' h hob
  unfold Gm_uR at h
  dsimp only at h
  split at h
  · rename_i x0 x1 cells0 cells1 o0
    split at h
    · rename_i c0_depth ec0 ec1
      simp only [Option.bind_eq_some_iff, Option.some.injEq, Prod.mk.injEq] at h
      obtain ⟨r, e0, down, e1, depth, e2, out, e3, rfl, rfl, rfl, rfl⟩ := h
      obtain rfl := aS_eq e0
      obtain rfl := aI_eq e1
      have q2 := aI_eq e2
      have q3 := oM_eq e3
      refine ⟨GContract.weak ?_, hasBody_of Tryz.func183 (by kernel_rfl) (by kernel_rfl)⟩
      simp only [List.map_cons, List.map_nil, ec0, ec1]
      have hb : [(false, [c0_depth]), (false, [(C.ob 0 0 : C Un)])] = [(false, [(.s (.int .i64 depth))]), (false, [.ob 0 0])] := by
        simp only [A.c.injEq, A.agg.injEq] at q2
        simp only [q2]
        all_goals rfl
      rw [hb]
      rw [q3]
      refine gn_contract (M := (M_uR m)) rfl (nb := 2) rfl (tbl_ok (l1 := [(82, F_clone_agg), (140, F_clone_rel)]) (l2 := []) (l3 := []) (l4 := [(182, Gm_uTs m), (183, Gm_uR m), (157, G_uC)]) (l5 := []) ⟨ok_clone_agg, ok_clone_rel, trivial⟩ trivial trivial ⟨h_uTs, h_uR, okG_uC, trivial⟩ trivial) Tryz.func183 (by kernel_rfl) N_uR 5 [.d, .m, .d] (fun ha hb ho => ?_)
      have hsp := uR_spec m r down depth out (wfArgA ha (a := .agg (encC Ty.rel r)) (by simp)) (wfArgA ha (a := .c (.s (.int .i64 down))) (by simp)) (wfObs (τ := .int) (l := out) (fr := some 0) ho (by simp)) (hob _ (List.mem_of_getElem? (i := 0) rfl)) (hob _ (List.mem_of_getElem? (i := 1) rfl))
      exact runG_of_awf (r := (_, _, _)) hsp
    · simp at h
  · simp at h
theorem okAll_uG : ∀ m, GnOK 156 (Gm_uT m) ∧ GnOK 182 (Gm_uTs m) ∧ GnOK 183 (Gm_uR m)
  | 0 => by
    refine ⟨?_, ?_, ?_⟩
    · intro args bxs os ob rs bxs' os' h hob
      unfold Gm_uT at h
      dsimp only at h
      split at h
      · split at h
        · simp only [Option.bind_eq_some_iff, Option.some.injEq, Prod.mk.injEq] at h
          obtain ⟨_, _, _, _, _, _, _, _, rfl, _, _, _⟩ := h
          exact absurd (hob _ (List.mem_of_getElem? (i := 0) rfl)) (Nat.not_lt_zero _)
        · simp at h
      · simp at h
    · intro args bxs os ob rs bxs' os' h hob
      unfold Gm_uTs at h
      dsimp only at h
      split at h
      · split at h
        · simp only [Option.bind_eq_some_iff, Option.some.injEq, Prod.mk.injEq] at h
          obtain ⟨_, _, _, _, _, _, _, _, rfl, _, _, _⟩ := h
          exact absurd (hob _ (List.mem_of_getElem? (i := 0) rfl)) (Nat.not_lt_zero _)
        · simp at h
      · simp at h
    · intro args bxs os ob rs bxs' os' h hob
      unfold Gm_uR at h
      dsimp only at h
      split at h
      · split at h
        · simp only [Option.bind_eq_some_iff, Option.some.injEq, Prod.mk.injEq] at h
          obtain ⟨_, _, _, _, _, _, _, _, rfl, _, _, _⟩ := h
          exact absurd (hob _ (List.mem_of_getElem? (i := 0) rfl)) (Nat.not_lt_zero _)
        · simp at h
      · simp at h
  | m + 1 => by
    have ih := okAll_uG m
    exact ⟨okGm_uT m ih.1 ih.2.1 ih.2.2, okGm_uTs m ih.1 ih.2.1 ih.2.2, okGm_uR m ih.1 ih.2.1 ih.2.2⟩
def G_uT : List Bool × FnG Un := ([], fun args bxs os => match args, bxs, os with
  | [x0, x1, .c (.fc 157 [0, 1])], [(false, cells0), (false, cells1)], [o0] => match cells0.map C.weak, cells1.map C.weak with
    | [c0_depth], [.ob 0 0] => (aS .term x0).bind fun t => (aI .i64 x1).bind fun down => (aI .i64 (.c c0_depth)).bind fun depth => (oM .int o0).bind fun out => some ([uOK depth down out t.sz], A_uT (uT t down depth out), B_uT (uT t down depth out), O_uT (uT t down depth out))
    | _, _ => none
  | _, _, _ => none)
theorem okG_uT : GnOK 156 G_uT := by
  intro args bxs os ob rs bxs' os' h hob
  unfold G_uT at h
  dsimp only at h
  split at h
  · rename_i x0 x1 cells0 cells1 o0
    split at h
    · rename_i c0_depth ec0 ec1
      simp only [Option.bind_eq_some_iff, Option.some.injEq, Prod.mk.injEq] at h
      obtain ⟨t, e0, down, e1, depth, e2, out, e3, rfl, rfl, rfl, rfl⟩ := h
      refine ((okAll_uG (2 * t.ht + 1 + 1)).1) _ _ _ [2 * t.ht + 1 < 2 * t.ht + 1 + 1, uOK depth down out t.sz] _ _ _ (?_ : (Gm_uT (2 * t.ht + 1 + 1)).2 _ _ _ = some _) ?_
      · unfold Gm_uT
        dsimp only
        simp only [ec0, ec1, e0, e1, e2, e3, Option.bind_some]
      · intro p hp
        simp only [List.mem_cons, List.not_mem_nil, or_false] at hp
        rcases hp with rfl | rfl
        · exact Nat.lt_succ_self _
        · exact hob _ (List.mem_of_getElem? (i := 0) rfl)
    · simp at h
  · simp at h
def M_conj_Uses : Mc Un := mach (tbl []) (tbl []) (tbl []) (tbl [(156, G_uT), (159, G_compact_int)]) (tbl [(158, U_sort_int)])
def A_conj_Uses (r : List Int) : List (A Un) := [.c (.sl (U := Un) Ty.int r false)]
def O_conj_Uses (_r : List Int) : List (Ob Un) := []
def R_conj_Uses (r : List Int) : RF Un := (A_conj_Uses r, O_conj_Uses r)
def N_conj_Uses : Nat → NS := fun l => (look l []).getD ⟨[], [], [], [], []⟩
def conj_Uses_fn (t : Term) (depth : Int) : Option (RF Un) := awf M_conj_Uses N_conj_Uses (bodyOf Tryz.f113) (entry Tryz.f113.ntmps 0 [.d (.agg (enc Ty.term t)), .d (.v (.s (.int .i64 depth)))]) (retF M_conj_Uses Tryz.f113.results.toList [.d])
theorem conj_Uses_in (t : Term) (depth : Int) : conj_Uses_fn t depth =
 obO (uOK depth (0 : Int) [] (Term.ids t).sz)
  (obO ((uT (Term.ids t) (0 : Int) depth []).snd.snd.length ≤ (1000000000 : Nat))
   (some (R_conj_Uses (compactI (sortI (uT (Term.ids t) (0 : Int) depth []).snd.snd))))) := by kernel_rfl
def useOK (t : Term) (depth : Int) : Prop := (-2000000 ≤ depth ∧ depth ≤ 2000000) ∧ t.sz ≤ 2000000
def usesA (t : Term) (depth : Int) : List Int := riseI (inT depth t)
def conj_Uses (t : Term) (depth : Int) : List Int := usesA t depth
@[simp] theorem conj_Uses_eq (t : Term) (depth : Int) : conj_Uses t depth = usesA t depth := by unfold conj_Uses; rfl
theorem conj_Uses_spec (t : Term) (depth : Int) (_ht : WS .term t) (_hd : WI depth) (h : useOK t depth) : conj_Uses_fn t depth = some (R_conj_Uses (conj_Uses t depth)) := by
  obtain ⟨h1, h2⟩ := h
  have hl := inT_len depth t
  rw [conj_Uses_in, Term.ids_eq]
  simp only [uT, List.nil_append, Int.add_zero]
  rw [obO_pos (show uOK _ _ _ _ from ⟨h1, by omega, by simp; omega⟩), obO_pos (by omega), compact_sort]
  rfl
def F_conj_Uses : FnC Un := fun args => match args with
  | [x0, x1] => (dS .term x0).bind fun t => (dI .i64 x1).bind fun depth => some ([useOK t depth], A_conj_Uses (conj_Uses t depth), O_conj_Uses (conj_Uses t depth))
  | _ => none
theorem ok_conj_Uses : FnOK 113 F_conj_Uses := by
  intro args ob rs os h hob
  unfold F_conj_Uses at h
  split at h
  · simp only [Option.bind_eq_some_iff, Option.some.injEq, Prod.mk.injEq] at h
    obtain ⟨t, e0, depth, e1, rfl, rfl, rfl⟩ := h
    obtain rfl := dS_eq e0
    obtain rfl := dI_eq e1
    exact ⟨fn_contractF (M := M_conj_Uses) rfl (tbl_ok (l1 := []) (l2 := []) (l3 := []) (l4 := [(156, G_uT), (159, G_compact_int)]) (l5 := [(158, U_sort_int)]) trivial trivial trivial ⟨okG_uT, okG_compact_int, trivial⟩ ⟨okU_sort_int, trivial⟩) Tryz.func113 (by kernel_rfl) N_conj_Uses 0 [.d] (fun hwf => (conj_Uses_spec t depth (wfArg hwf (a := .d (.agg (enc Ty.term t))) (List.mem_of_getElem? (i := 0) rfl)) (wfArg hwf (a := .d (.v (.s (.int .i64 depth)))) (List.mem_of_getElem? (i := 1) rfl)) (hob _ (List.mem_of_getElem? (i := 0) rfl)))), hasBody_of Tryz.func113 (by kernel_rfl) (by kernel_rfl)⟩
  · simp at h
end
end Go.Proofs.YtmpnompddfhkeaaGreat.B
namespace Go.Proofs.YtmpnompddfhkeaaGreat.B
open Go Go.RowKit
set_option maxRecDepth 100000
noncomputable section
attribute [local irreducible] awp ctxK itersK iterK retQ retGQ awf ctxF loopF
def mapOK (down : Int) (p_o : Term → Int → Prop) (p : Term → Int → Term) (n : Nat) : Prop := ((∀ c d, p_o c d) ∧ KeepsAt p) ∧ 0 ≤ down ∧ down + n ≤ 2000000
def conj_mapped (t : Term) (down : Int) (_p_o : Term → Int → Prop) (p : Term → Int → Term) : Term := mapT p down t
def conj_terms (l : List Term) (down : Int) (_p_o : Term → Int → Prop) (p : Term → Int → Term) : List Term := mapTs p down l
def conj_relation (r : Rel) (down : Int) (_p_o : Term → Int → Prop) (p : Term → Int → Term) : Rel := mapR p down r
theorem loop_map {α : Type} {L : S Un → Option (EX Un)} {st : List α → Int → S Un} {l : List α} {d : α} {e : Exit} (f : α → α) (hl : l.length ≤ 9223372036854775807)
    (step : ∀ (xs : List α) (i : Nat) (x : α), (i : Int) < (l.length : Int) → xs.length = l.length → xs.getD i d = x → x ∈ l → L (st xs i) = L (st (xs.set i (f x)) (IntKind.i64.wrap ((i : Int) + 1))))
    (stop : ∀ xs : List α, xs.length = l.length → L (st xs (l.length : Int)) = some (e, st xs (l.length : Int))) : L (st l (0 : Int)) = some (e, st (l.map f) (l.length : Int)) := by
  have key : ∀ (k i : Nat), i + k = l.length → L (st ((l.take i).map f ++ l.drop i) (i : Int)) = some (e, st (l.map f) (l.length : Int)) := by
    intro k
    induction k with
    | zero =>
      intro i hi
      obtain rfl : i = l.length := by omega
      rw [List.take_length, List.drop_length, List.append_nil]
      exact stop _ (by simp)
    | succ k ih =>
      intro i hi
      have hil : i < l.length := by omega
      have hlen : ((l.take i).map f ++ l.drop i).length = l.length := by rw [List.length_append, List.length_map, List.length_take, List.length_drop]; omega
      have htl : ((l.take i).map f).length = i := by rw [List.length_map, List.length_take]; omega
      have hget : ((l.take i).map f ++ l.drop i).getD i d = l[i] := by
        rw [List.getD_eq_getElem?_getD, List.getElem?_append_right (by omega), htl, Nat.sub_self, List.getElem?_drop, Nat.add_zero, List.getElem?_eq_getElem hil]; rfl
      rw [step _ i l[i] (by omega) hlen hget (List.getElem_mem hil), wrap_next hil hl]
      have hset : ((l.take i).map f ++ l.drop i).set i (f l[i]) = (l.take (i + 1)).map f ++ l.drop (i + 1) := by
        rw [List.set_append_right _ _ (by omega), htl, Nat.sub_self, List.drop_eq_getElem_cons hil, List.set_cons_zero, List.take_add_one, List.getElem?_eq_getElem hil]
        simp only [Option.toList_some, List.map_append, List.map_cons, List.map_nil, List.append_assoc, List.cons_append, List.nil_append]
      rw [hset]
      exact ih (i + 1) (by omega)
  have := key l.length 0 (by omega)
  simpa using this
def A_conj_mapped (r : Term) : List (A Un) := [.agg (encC Ty.term r)]
def O_conj_mapped (_r : Term) : List (Ob Un) := []
def Fm_conj_mapped (m : Nat) : FnC Un := fun args => match args with
  | [x0, x1, x2] => (dS .term x0).bind fun t => (dI .i64 x1).bind fun down => (dF x2).bind fun p => some ([p = (fvo_S_term_i_i64_to_S_term (po_S_term_i_i64_to_S_term p) (pf_S_term_i_i64_to_S_term p)), 2 * t.ht + 1 < m, mapOK down (po_S_term_i_i64_to_S_term p) (pf_S_term_i_i64_to_S_term p) t.sz], A_conj_mapped (conj_mapped t down (po_S_term_i_i64_to_S_term p) (pf_S_term_i_i64_to_S_term p)), O_conj_mapped (conj_mapped t down (po_S_term_i_i64_to_S_term p) (pf_S_term_i_i64_to_S_term p)))
  | _ => none
def A_conj_terms (r : List Term) : List (A Un) := [.c (.sl (U := Un) Ty.term r false)]
def O_conj_terms (_r : List Term) : List (Ob Un) := []
def Fm_conj_terms (m : Nat) : FnC Un := fun args => match args with
  | [x0, x1, x2] => (dL .term x0).bind fun l => (dI .i64 x1).bind fun down => (dF x2).bind fun p => some ([p = (fvo_S_term_i_i64_to_S_term (po_S_term_i_i64_to_S_term p) (pf_S_term_i_i64_to_S_term p)), 2 * htTs l + 2 < m, mapOK down (po_S_term_i_i64_to_S_term p) (pf_S_term_i_i64_to_S_term p) (szTs l)], A_conj_terms (conj_terms l down (po_S_term_i_i64_to_S_term p) (pf_S_term_i_i64_to_S_term p)), O_conj_terms (conj_terms l down (po_S_term_i_i64_to_S_term p) (pf_S_term_i_i64_to_S_term p)))
  | _ => none
def A_conj_relation (r : Rel) : List (A Un) := [.agg (encC Ty.rel r)]
def O_conj_relation (_r : Rel) : List (Ob Un) := []
def Fm_conj_relation (m : Nat) : FnC Un := fun args => match args with
  | [x0, x1, x2] => (dS .rel x0).bind fun r => (dI .i64 x1).bind fun down => (dF x2).bind fun p => some ([p = (fvo_S_term_i_i64_to_S_term (po_S_term_i_i64_to_S_term p) (pf_S_term_i_i64_to_S_term p)), 2 * r.ht + 1 < m, mapOK down (po_S_term_i_i64_to_S_term p) (pf_S_term_i_i64_to_S_term p) r.sz], A_conj_relation (conj_relation r down (po_S_term_i_i64_to_S_term p) (pf_S_term_i_i64_to_S_term p)), O_conj_relation (conj_relation r down (po_S_term_i_i64_to_S_term p) (pf_S_term_i_i64_to_S_term p)))
  | _ => none
def M_conj_mapped (m : Nat) : Mc Un := mach (tbl [(182, Fm_conj_terms m), (140, F_clone_rel), (183, Fm_conj_relation m)]) (tbl []) (tbl []) (tbl []) (tbl [])
def R_conj_mapped (r : Term) : RF Un := (A_conj_mapped r, O_conj_mapped r)
def N_conj_mapped : Nat → NS := fun l => (look l [(6, { ts := bl 46 402653262, bs := bl 46 72, nm := [(.cell 3 8, 184)] })]).getD ⟨[], [], [], [], []⟩
def conj_mapped_c1 (down : Int) (p_o : Term → Int → Prop) (p : Term → Int → Term) (v10 : List Rel) (v11 : Int) := conj_relation (Rel.mk (Rel.op (v10.getD v11.toNat zeroRel)) (Rel.table (v10.getD v11.toNat zeroRel)) (Rel.cols (v10.getD v11.toNat zeroRel)) (Rel.kids (v10.getD v11.toNat zeroRel)) (Rel.terms (v10.getD v11.toNat zeroRel)) (Rel.aggs (v10.getD v11.toNat zeroRel)) (Rel.keys (v10.getD v11.toNat zeroRel)) (Rel.limit (v10.getD v11.toNat zeroRel)) (Rel.skip (v10.getD v11.toNat zeroRel)) (Rel.all (v10.getD v11.toNat zeroRel)) (Rel.rows (v10.getD v11.toNat zeroRel))) (IntKind.i64.wrap (down + 1)) (po_S_term_i_i64_to_S_term (fvo_S_term_i_i64_to_S_term p_o p)) (pf_S_term_i_i64_to_S_term (fvo_S_term_i_i64_to_S_term p_o p))
def conj_mapped_s6 (down : Int) (p_o : Term → Int → Prop) (p : Term → Int → Term) (v0 : Int) (v1 : Int) (v2 : Int) (v3 : Int) (v4 : ByteArray) (v5 : Int) (v6 : Int) (v7 : ByteArray) (v8 : List Term) (v9 : Int) (v10 : List Rel) (v11 : Int) : S Un := (st 46 46 185 0 [(1, ai down), (2, AV.one (A.c (C.fv (fvo_S_term_i_i64_to_S_term p_o p)))), (3, ax 3), (6, ax 6), (27, ai v0), (28, ai v11)] [(3, some (false, [C.s (Value.int IntKind.i64 v1), C.s (Value.int IntKind.i64 v2), C.s (Value.int IntKind.i64 v3), C.s (Value.string v4), C.s (Value.int IntKind.i64 v5), C.s (Value.int IntKind.i64 v6), C.s (Value.string v7), C.sl Ty.term v8 false, C.ob (184 : Nat) (0 : Nat), C.s (Value.int IntKind.i64 v9)])), (6, some (false, [C.s (Value.int IntKind.i64 (0 : Int)), C.s (Value.int IntKind.i64 (0 : Int)), C.s (Value.int IntKind.i64 (0 : Int)), C.s (Value.string (ByteArray.mk #[])), C.s (Value.int IntKind.i64 (0 : Int)), C.s (Value.int IntKind.i64 (0 : Int)), C.s (Value.string (ByteArray.mk #[])), C.sl Ty.term [] true, C.sl Ty.rel [] true, C.s (Value.int IntKind.i64 (0 : Int))]))] [(184, some ⟨(0 : Nat), Ty.rel, v10, some (0 : Nat), true⟩)])
def conj_mapped_B6 : Code := sub (bodyOf Tryz.f156) [1, 1, 1, 1, 0, 1, 2, 2]
def conj_mapped_L6 (m : Nat) : S Un → Option (EX Un) := loopF (N_conj_mapped 6) (fun s Q => awf (M_conj_mapped m) N_conj_mapped conj_mapped_B6 s Q)
def conj_mapped_C6 (m : Nat) : Exit → S Un → Option (RF Un) := ctxF (M_conj_mapped m) N_conj_mapped (bodyOf Tryz.f156) [1, 1, 1, 1, 0, 1, 2] (retF (M_conj_mapped m) Tryz.f156.results.toList [.d])
def conj_mapped_fn (m : Nat) (t : Term) (down : Int) (p_o : Term → Int → Prop) (p : Term → Int → Term) : Option (RF Un) := awf (M_conj_mapped m) N_conj_mapped (bodyOf Tryz.f156) (entry Tryz.f156.ntmps 1 [.d (.agg (enc Ty.term t)), .d (.v (.s (.int .i64 down))), .fn (fvo_S_term_i_i64_to_S_term p_o p)]) (retF (M_conj_mapped m) Tryz.f156.results.toList [.d])
theorem conj_mapped_in (m : Nat) (t : Term) (down : Int) (p_o : Term → Int → Prop) (p : Term → Int → Term) : conj_mapped_fn m t down p_o p =
 cndO (t.op == 2)
  (obO (p_o (Term.ids t) down)
   (obO (fvo_S_term_i_i64_to_S_term p_o p = fvo_S_term_i_i64_to_S_term (po_S_term_i_i64_to_S_term (fvo_S_term_i_i64_to_S_term p_o p)) (pf_S_term_i_i64_to_S_term (fvo_S_term_i_i64_to_S_term p_o p)))
    (obO ((2 : Nat) * htTs (p (Term.ids t) down).kids + (2 : Nat) < m)
     (obO (mapOK down (po_S_term_i_i64_to_S_term (fvo_S_term_i_i64_to_S_term p_o p)) (pf_S_term_i_i64_to_S_term (fvo_S_term_i_i64_to_S_term p_o p)) (szTs (p (Term.ids t) down).kids))
      (obO ((p (Term.ids t) down).sub.length ≤ (1000000000 : Nat))
       ((conj_mapped_L6 m (conj_mapped_s6 down p_o p (↑(p (Term.ids t) down).sub.length : Int) ((p (Term.ids t) down).op) ((p (Term.ids t) down).v.kind) ((p (Term.ids t) down).v.n) ((p (Term.ids t) down).v.s) ((p (Term.ids t) down).depth) ((p (Term.ids t) down).at_) ((p (Term.ids t) down).name) (conj_terms (p (Term.ids t) down).kids down (po_S_term_i_i64_to_S_term (fvo_S_term_i_i64_to_S_term p_o p)) (pf_S_term_i_i64_to_S_term (fvo_S_term_i_i64_to_S_term p_o p))) ((p (Term.ids t) down).type) ((p (Term.ids t) down).sub) (0 : Int))).bind (thenX (conj_mapped_C6 m))))))))
  (obO (fvo_S_term_i_i64_to_S_term p_o p = fvo_S_term_i_i64_to_S_term (po_S_term_i_i64_to_S_term (fvo_S_term_i_i64_to_S_term p_o p)) (pf_S_term_i_i64_to_S_term (fvo_S_term_i_i64_to_S_term p_o p)))
   (obO ((2 : Nat) * htTs t.kids + (2 : Nat) < m)
    (obO (mapOK down (po_S_term_i_i64_to_S_term (fvo_S_term_i_i64_to_S_term p_o p)) (pf_S_term_i_i64_to_S_term (fvo_S_term_i_i64_to_S_term p_o p)) (szTs t.kids))
     (obO (t.sub.length ≤ (1000000000 : Nat))
      ((conj_mapped_L6 m (conj_mapped_s6 down p_o p (↑t.sub.length : Int) t.op t.v.kind t.v.n t.v.s t.depth t.at_ t.name (conj_terms t.kids down (po_S_term_i_i64_to_S_term (fvo_S_term_i_i64_to_S_term p_o p)) (pf_S_term_i_i64_to_S_term (fvo_S_term_i_i64_to_S_term p_o p))) t.type t.sub (0 : Int))).bind (thenX (conj_mapped_C6 m))))))) := by kernel_rfl
theorem conj_mapped_l6 (m : Nat) (down : Int) (p_o : Term → Int → Prop) (p : Term → Int → Term) (v0 : Int) (v1 : Int) (v2 : Int) (v3 : Int) (v4 : ByteArray) (v5 : Int) (v6 : Int) (v7 : ByteArray) (v8 : List Term) (v9 : Int) (v10 : List Rel) (v11 : Int) : conj_mapped_L6 m (conj_mapped_s6 down p_o p v0 v1 v2 v3 v4 v5 v6 v7 v8 v9 v10 v11) =
 cndO (decide (v11 < v0))
  (obO (0 ≤ v11 ∧ v11 < (↑v10.length : Int))
   (obO (fvo_S_term_i_i64_to_S_term p_o p = fvo_S_term_i_i64_to_S_term (po_S_term_i_i64_to_S_term (fvo_S_term_i_i64_to_S_term p_o p)) (pf_S_term_i_i64_to_S_term (fvo_S_term_i_i64_to_S_term p_o p)))
    (obO ((2 : Nat) * (Rel.ids (v10.getD v11.toNat zeroRel)).ht + (1 : Nat) < m)
     (obO (mapOK (IntKind.i64.wrap (down + 1)) (po_S_term_i_i64_to_S_term (fvo_S_term_i_i64_to_S_term p_o p)) (pf_S_term_i_i64_to_S_term (fvo_S_term_i_i64_to_S_term p_o p)) (Rel.ids (v10.getD v11.toNat zeroRel)).sz)
      (obO (0 ≤ v11 ∧ v11 < (↑v10.length : Int))
       (obO ((0 : Nat) ≤ v11.toNat)
        (conj_mapped_L6 m (conj_mapped_s6 down p_o p v0 v1 v2 v3 v4 v5 v6 v7 v8 v9 (v10.set v11.toNat (Rel.mk (conj_mapped_c1 down p_o p v10 v11).op (conj_mapped_c1 down p_o p v10 v11).table (conj_mapped_c1 down p_o p v10 v11).cols (conj_mapped_c1 down p_o p v10 v11).kids (conj_mapped_c1 down p_o p v10 v11).terms (conj_mapped_c1 down p_o p v10 v11).aggs (conj_mapped_c1 down p_o p v10 v11).keys (conj_mapped_c1 down p_o p v10 v11).limit (conj_mapped_c1 down p_o p v10 v11).skip (conj_mapped_c1 down p_o p v10 v11).all (conj_mapped_c1 down p_o p v10 v11).rows)) (IntKind.i64.wrap (v11 + 1))))))))))
  (some (.exit 0, (conj_mapped_s6 down p_o p v0 v1 v2 v3 v4 v5 v6 v7 v8 v9 v10 v11))) := (loopF_eq (N_conj_mapped 6) conj_mapped_B6 _).trans (by kernel_rfl)
theorem conj_mapped_a6_x0 (m : Nat) (down : Int) (p_o : Term → Int → Prop) (p : Term → Int → Term) (v0 : Int) (v1 : Int) (v2 : Int) (v3 : Int) (v4 : ByteArray) (v5 : Int) (v6 : Int) (v7 : ByteArray) (v8 : List Term) (v9 : Int) (v10 : List Rel) (v11 : Int) : conj_mapped_C6 m (.exit 0) (conj_mapped_s6 down p_o p v0 v1 v2 v3 v4 v5 v6 v7 v8 v9 v10 v11) =
 some (R_conj_mapped (Term.mk v1 { kind := v2, n := v3, s := v4 } v5 v6 v7 v8 v10 v9)) := by kernel_rfl
theorem conj_mapped_loop (m : Nat) (down : Int) (p_o : Term → Int → Prop) (p : Term → Int → Term) (v1 v2 v3 : Int) (v4 : ByteArray) (v5 v6 : Int) (v7 : ByteArray) (v8 : List Term) (v9 : Int) (s : List Rel) (hl : s.length ≤ 9223372036854775807) (hm : 2 * htRs s + 1 < m) (h : mapOK (down + 1) p_o p (szRs s)) (h0 : 0 ≤ down) :
    conj_mapped_L6 m (conj_mapped_s6 down p_o p (s.length : Int) v1 v2 v3 v4 v5 v6 v7 v8 v9 s (0 : Int)) = some (.exit 0, conj_mapped_s6 down p_o p (s.length : Int) v1 v2 v3 v4 v5 v6 v7 v8 v9 (mapRs p (down + 1) s) (s.length : Int)) := by
  obtain ⟨h1, h2, h3⟩ := h
  have hw : IntKind.i64.wrap (down + 1) = down + 1 := wrap_id (by omega)
  rw [mapRs_map]
  exact loop_map (L := conj_mapped_L6 m) (st := fun xs i => conj_mapped_s6 down p_o p (s.length : Int) v1 v2 v3 v4 v5 v6 v7 v8 v9 xs i) (d := zeroRel) (mapR p (down + 1)) hl
    (fun xs i x hi hxl hx hmem => by
      have hsz := szRs_mem hmem
      have hht := htRs_mem hmem
      rw [conj_mapped_l6]
      simp only [conj_mapped_c1, rel_eta, Rel.ids_eq, pofvo_S_term_i_i64_to_S_term, pffvo_S_term_i_i64_to_S_term, cndO_eq, hi, decide_true, if_true, and_true, Int.toNat_natCast, hx, hxl, hw]
      rw [obO_pos (by omega), obO_pos trivial, obO_pos (by omega), obO_pos (show mapOK _ _ _ _ from ⟨h1, by omega, by omega⟩), obO_pos (by omega), obO_pos (by omega)]
      simp only [conj_relation])
    (fun xs _ => by rw [conj_mapped_l6]; simp [cndO_eq])
theorem conj_mapped_spec (m : Nat) (t : Term) (down : Int) (p_o : Term → Int → Prop) (p : Term → Int → Term) (ht : WS .term t) (_hd : WI down) (hm : 2 * t.ht + 1 < m + 1) (h : mapOK down p_o p t.sz) : conj_mapped_fn m t down p_o p = some (R_conj_mapped (conj_mapped t down p_o p)) := by
  obtain ⟨h1, h2, h3⟩ := h
  have hsz := t.sz_eq
  have hk : htTs t.kids < t.ht ∧ htRs t.sub < t.ht := by cases t; simp only [Term.ht, Term.kids_mk, Term.sub_mk]; omega
  have hsl := szRs_len t.sub
  have key : ∀ a : Int, (conj_mapped_L6 m (conj_mapped_s6 down p_o p (t.sub.length : Int) t.op t.v.kind t.v.n t.v.s t.depth a t.name (mapTs p down t.kids) t.type t.sub (0 : Int))).bind (thenX (conj_mapped_C6 m)) = some (R_conj_mapped (.mk t.op t.v t.depth a t.name (mapTs p down t.kids) (mapRs p (down + 1) t.sub) t.type)) := by
    intro a
    rw [loop_end (conj_mapped_loop m down p_o p _ _ _ _ _ _ _ _ _ t.sub (ht.term_sub).len (by omega) ⟨h1, by omega, by omega⟩ h2), conj_mapped_a6_x0]
  rw [conj_mapped_in]
  simp only [Term.ids_eq, pofvo_S_term_i_i64_to_S_term, pffvo_S_term_i_i64_to_S_term, cndO_eq, beq_iff_eq, conj_terms]
  unfold conj_mapped
  rw [mapT_eq]
  by_cases ho : t.op = 2
  · have hp := h1.2 t down
    generalize (p t down).at_ = a at hp ⊢
    rw [if_pos ho, if_pos ho, obO_pos (h1.1 t down), hp]
    simp only [setAt, Term.op_mk, Term.v_mk, Term.depth_mk, Term.at__mk, Term.name_mk, Term.kids_mk, Term.sub_mk, Term.type_mk]
    rw [obO_pos trivial, obO_pos (by omega), obO_pos (show mapOK _ _ _ _ from ⟨h1, by omega, by omega⟩), obO_pos (by omega), key a]
  · rw [if_neg ho, if_neg ho, obO_pos trivial, obO_pos (by omega), obO_pos (show mapOK _ _ _ _ from ⟨h1, by omega, by omega⟩), obO_pos (by omega), key t.at_]
theorem okm_conj_mapped (m : Nat) (h_conj_mapped : FnOK 156 (Fm_conj_mapped m)) (h_conj_terms : FnOK 182 (Fm_conj_terms m)) (h_conj_relation : FnOK 183 (Fm_conj_relation m)) : FnOK 156 (Fm_conj_mapped (m + 1)) := by
  intro args ob rs os h hob
  unfold Fm_conj_mapped at h
  split at h
  · simp only [Option.bind_eq_some_iff, Option.some.injEq, Prod.mk.injEq] at h
    obtain ⟨t, e0, down, e1, p, e2, rfl, rfl, rfl⟩ := h
    obtain rfl := dS_eq e0
    obtain rfl := dI_eq e1
    obtain rfl := dF_eq e2
    have hfv0 := hob _ (List.mem_of_getElem? (i := 0) rfl)
    generalize pf_S_term_i_i64_to_S_term p = pp0 at *
    generalize po_S_term_i_i64_to_S_term p = qq0 at *
    subst hfv0
    exact ⟨fn_contractF (M := (M_conj_mapped m)) rfl (tbl_ok (l1 := [(182, Fm_conj_terms m), (140, F_clone_rel), (183, Fm_conj_relation m)]) (l2 := []) (l3 := []) (l4 := []) (l5 := []) ⟨h_conj_terms, ok_clone_rel, h_conj_relation, trivial⟩ trivial trivial trivial trivial) Tryz.func156 (by kernel_rfl) N_conj_mapped 1 [.d] (fun hwf => (conj_mapped_spec m t down qq0 pp0 (wfArg hwf (a := .d (.agg (enc Ty.term t))) (List.mem_of_getElem? (i := 0) rfl)) (wfArg hwf (a := .d (.v (.s (.int .i64 down)))) (List.mem_of_getElem? (i := 1) rfl)) (hob _ (List.mem_of_getElem? (i := 1) rfl)) (hob _ (List.mem_of_getElem? (i := 2) rfl)))), hasBody_of Tryz.func156 (by kernel_rfl) (by kernel_rfl)⟩
  · simp at h
def M_conj_terms (m : Nat) : Mc Un := mach (tbl [(141, F_clone_term), (156, Fm_conj_mapped m)]) (tbl []) (tbl []) (tbl []) (tbl [])
def R_conj_terms (r : List Term) : RF Un := (A_conj_terms r, O_conj_terms r)
def N_conj_terms : Nat → NS := fun l => (look l [(3, { ts := bl 27 6151, bs := bl 27 0, nm := [(.sl 0, 108)] })]).getD ⟨[], [], [], [], []⟩
def conj_terms_s3 (l : List Term) (down : Int) (p_o : Term → Int → Prop) (p : Term → Int → Term) (v0 : Int) (v1 : List Term) : S Un := (st 27 27 109 0 [(0, ao 108), (1, ai down), (2, AV.one (A.c (C.fv (fvo_S_term_i_i64_to_S_term p_o p)))), (11, ai (↑l.length : Int)), (12, ai v0)] [] [(108, some ⟨(0 : Nat), Ty.term, v1, some (0 : Nat), true⟩)])
def conj_terms_B3 : Code := sub (bodyOf Tryz.f182) [1, 1, 0, 1, 2, 2]
def conj_terms_L3 (m : Nat) : S Un → Option (EX Un) := loopF (N_conj_terms 3) (fun s Q => awf (M_conj_terms m) N_conj_terms conj_terms_B3 s Q)
def conj_terms_C3 (m : Nat) : Exit → S Un → Option (RF Un) := ctxF (M_conj_terms m) N_conj_terms (bodyOf Tryz.f182) [1, 1, 0, 1, 2] (retF (M_conj_terms m) Tryz.f182.results.toList [.d])
def conj_terms_fn (m : Nat) (l : List Term) (down : Int) (p_o : Term → Int → Prop) (p : Term → Int → Term) : Option (RF Un) := awf (M_conj_terms m) N_conj_terms (bodyOf Tryz.f182) (entry Tryz.f182.ntmps 1 [.d (.v (.dat (U := Un) Ty.term l)), .d (.v (.s (.int .i64 down))), .fn (fvo_S_term_i_i64_to_S_term p_o p)]) (retF (M_conj_terms m) Tryz.f182.results.toList [.d])
theorem conj_terms_in (m : Nat) (l : List Term) (down : Int) (p_o : Term → Int → Prop) (p : Term → Int → Term) : conj_terms_fn m l down p_o p =
 obO (l.length ≤ (1000000000 : Nat))
  ((conj_terms_L3 m (conj_terms_s3 l down p_o p (0 : Int) l)).bind (thenX (conj_terms_C3 m))) := by kernel_rfl
theorem conj_terms_l3 (m : Nat) (l : List Term) (down : Int) (p_o : Term → Int → Prop) (p : Term → Int → Term) (v0 : Int) (v1 : List Term) : conj_terms_L3 m (conj_terms_s3 l down p_o p v0 v1) =
 cndO (decide (v0 < (↑l.length : Int)))
  (obO (0 ≤ v0 ∧ v0 < (↑v1.length : Int))
   (obO (fvo_S_term_i_i64_to_S_term p_o p = fvo_S_term_i_i64_to_S_term (po_S_term_i_i64_to_S_term (fvo_S_term_i_i64_to_S_term p_o p)) (pf_S_term_i_i64_to_S_term (fvo_S_term_i_i64_to_S_term p_o p)))
    (obO ((2 : Nat) * (Term.ids (v1.getD v0.toNat zeroTerm)).ht + (1 : Nat) < m)
     (obO (mapOK down (po_S_term_i_i64_to_S_term (fvo_S_term_i_i64_to_S_term p_o p)) (pf_S_term_i_i64_to_S_term (fvo_S_term_i_i64_to_S_term p_o p)) (Term.ids (v1.getD v0.toNat zeroTerm)).sz)
      (obO (0 ≤ v0 ∧ v0 < (↑v1.length : Int))
       (obO ((0 : Nat) ≤ v0.toNat)
        (conj_terms_L3 m (conj_terms_s3 l down p_o p (IntKind.i64.wrap (v0 + 1)) (v1.set v0.toNat (Term.mk (conj_mapped (Term.ids (v1.getD v0.toNat zeroTerm)) down (po_S_term_i_i64_to_S_term (fvo_S_term_i_i64_to_S_term p_o p)) (pf_S_term_i_i64_to_S_term (fvo_S_term_i_i64_to_S_term p_o p))).op (conj_mapped (Term.ids (v1.getD v0.toNat zeroTerm)) down (po_S_term_i_i64_to_S_term (fvo_S_term_i_i64_to_S_term p_o p)) (pf_S_term_i_i64_to_S_term (fvo_S_term_i_i64_to_S_term p_o p))).v (conj_mapped (Term.ids (v1.getD v0.toNat zeroTerm)) down (po_S_term_i_i64_to_S_term (fvo_S_term_i_i64_to_S_term p_o p)) (pf_S_term_i_i64_to_S_term (fvo_S_term_i_i64_to_S_term p_o p))).depth (conj_mapped (Term.ids (v1.getD v0.toNat zeroTerm)) down (po_S_term_i_i64_to_S_term (fvo_S_term_i_i64_to_S_term p_o p)) (pf_S_term_i_i64_to_S_term (fvo_S_term_i_i64_to_S_term p_o p))).at_ (conj_mapped (Term.ids (v1.getD v0.toNat zeroTerm)) down (po_S_term_i_i64_to_S_term (fvo_S_term_i_i64_to_S_term p_o p)) (pf_S_term_i_i64_to_S_term (fvo_S_term_i_i64_to_S_term p_o p))).name (conj_mapped (Term.ids (v1.getD v0.toNat zeroTerm)) down (po_S_term_i_i64_to_S_term (fvo_S_term_i_i64_to_S_term p_o p)) (pf_S_term_i_i64_to_S_term (fvo_S_term_i_i64_to_S_term p_o p))).kids (conj_mapped (Term.ids (v1.getD v0.toNat zeroTerm)) down (po_S_term_i_i64_to_S_term (fvo_S_term_i_i64_to_S_term p_o p)) (pf_S_term_i_i64_to_S_term (fvo_S_term_i_i64_to_S_term p_o p))).sub (conj_mapped (Term.ids (v1.getD v0.toNat zeroTerm)) down (po_S_term_i_i64_to_S_term (fvo_S_term_i_i64_to_S_term p_o p)) (pf_S_term_i_i64_to_S_term (fvo_S_term_i_i64_to_S_term p_o p))).type))))))))))
  (some (.exit 0, (conj_terms_s3 l down p_o p v0 v1))) := (loopF_eq (N_conj_terms 3) conj_terms_B3 _).trans (by kernel_rfl)
theorem conj_terms_a3_x0 (m : Nat) (l : List Term) (down : Int) (p_o : Term → Int → Prop) (p : Term → Int → Term) (v0 : Int) (v1 : List Term) : conj_terms_C3 m (.exit 0) (conj_terms_s3 l down p_o p v0 v1) =
 some (R_conj_terms (v1)) := by kernel_rfl
theorem conj_terms_spec (m : Nat) (l : List Term) (down : Int) (p_o : Term → Int → Prop) (p : Term → Int → Term) (hl : WL .term l) (_hd : WI down) (hm : 2 * htTs l + 2 < m + 1) (h : mapOK down p_o p (szTs l)) : conj_terms_fn m l down p_o p = some (R_conj_terms (conj_terms l down p_o p)) := by
  obtain ⟨h1, h2, h3⟩ := h
  have hsl := szTs_len l
  have lp := loop_map (e := .exit 0) (L := conj_terms_L3 m) (st := fun xs i => conj_terms_s3 l down p_o p i xs) (l := l) (d := zeroTerm) (mapT p down) hl.len
    (fun xs i x hi hxl hx hmem => by
      have hsz := szTs_mem hmem
      have hht := htTs_mem hmem
      rw [conj_terms_l3]
      simp only [Term.ids_eq, pofvo_S_term_i_i64_to_S_term, pffvo_S_term_i_i64_to_S_term, cndO_eq, hi, decide_true, if_true, and_true, Int.toNat_natCast, hx, hxl]
      rw [obO_pos (by omega), obO_pos trivial, obO_pos (by omega), obO_pos (show mapOK _ _ _ _ from ⟨h1, by omega, by omega⟩), obO_pos (by omega), obO_pos (by omega)]
      simp only [conj_mapped, term_eta])
    (fun xs _ => by rw [conj_terms_l3]; simp [cndO_eq])
  rw [conj_terms_in, obO_pos (by omega), loop_end lp, conj_terms_a3_x0]
  unfold conj_terms
  rw [mapTs_map]
theorem okm_conj_terms (m : Nat) (h_conj_mapped : FnOK 156 (Fm_conj_mapped m)) (h_conj_terms : FnOK 182 (Fm_conj_terms m)) (h_conj_relation : FnOK 183 (Fm_conj_relation m)) : FnOK 182 (Fm_conj_terms (m + 1)) := by
  intro args ob rs os h hob
  unfold Fm_conj_terms at h
  split at h
  · simp only [Option.bind_eq_some_iff, Option.some.injEq, Prod.mk.injEq] at h
    obtain ⟨l, e0, down, e1, p, e2, rfl, rfl, rfl⟩ := h
    obtain rfl := dL_eq e0
    obtain rfl := dI_eq e1
    obtain rfl := dF_eq e2
    have hfv0 := hob _ (List.mem_of_getElem? (i := 0) rfl)
    generalize pf_S_term_i_i64_to_S_term p = pp0 at *
    generalize po_S_term_i_i64_to_S_term p = qq0 at *
    subst hfv0
    exact ⟨fn_contractF (M := (M_conj_terms m)) rfl (tbl_ok (l1 := [(141, F_clone_term), (156, Fm_conj_mapped m)]) (l2 := []) (l3 := []) (l4 := []) (l5 := []) ⟨ok_clone_term, h_conj_mapped, trivial⟩ trivial trivial trivial trivial) Tryz.func182 (by kernel_rfl) N_conj_terms 1 [.d] (fun hwf => (conj_terms_spec m l down qq0 pp0 (wfArg hwf (a := .d (.v (.dat (U := Un) Ty.term l))) (List.mem_of_getElem? (i := 0) rfl)) (wfArg hwf (a := .d (.v (.s (.int .i64 down)))) (List.mem_of_getElem? (i := 1) rfl)) (hob _ (List.mem_of_getElem? (i := 1) rfl)) (hob _ (List.mem_of_getElem? (i := 2) rfl)))), hasBody_of Tryz.func182 (by kernel_rfl) (by kernel_rfl)⟩
  · simp at h
def M_conj_relation (m : Nat) : Mc Un := mach (tbl [(182, Fm_conj_terms m), (82, F_clone_agg), (140, F_clone_rel), (183, Fm_conj_relation m)]) (tbl []) (tbl []) (tbl []) (tbl [])
def R_conj_relation (r : Rel) : RF Un := (A_conj_relation r, O_conj_relation r)
def N_conj_relation : Nat → NS := fun l => (look l [(4, { ts := bl 64 6291534, bs := bl 64 72, nm := [(.cell 3 5, 256)] }), (10, { ts := bl 64 211106232533070, bs := bl 64 72, nm := [(.cell 3 3, 257), (.cell 3 5, 258)] })]).getD ⟨[], [], [], [], []⟩
def conj_relation_c1 (r : Rel) (down : Int) (p_o : Term → Int → Prop) (p : Term → Int → Term) := conj_terms r.terms down (po_S_term_i_i64_to_S_term (fvo_S_term_i_i64_to_S_term p_o p)) (pf_S_term_i_i64_to_S_term (fvo_S_term_i_i64_to_S_term p_o p))
def conj_relation_c2 (down : Int) (p_o : Term → Int → Prop) (p : Term → Int → Term) (v2 : Int) (v3 : List Rel) := conj_relation (Rel.mk (Rel.op (v3.getD v2.toNat zeroRel)) (Rel.table (v3.getD v2.toNat zeroRel)) (Rel.cols (v3.getD v2.toNat zeroRel)) (Rel.kids (v3.getD v2.toNat zeroRel)) (Rel.terms (v3.getD v2.toNat zeroRel)) (Rel.aggs (v3.getD v2.toNat zeroRel)) (Rel.keys (v3.getD v2.toNat zeroRel)) (Rel.limit (v3.getD v2.toNat zeroRel)) (Rel.skip (v3.getD v2.toNat zeroRel)) (Rel.all (v3.getD v2.toNat zeroRel)) (Rel.rows (v3.getD v2.toNat zeroRel))) down (po_S_term_i_i64_to_S_term (fvo_S_term_i_i64_to_S_term p_o p)) (pf_S_term_i_i64_to_S_term (fvo_S_term_i_i64_to_S_term p_o p))
def conj_relation_s4 (r : Rel) (down : Int) (p_o : Term → Int → Prop) (p : Term → Int → Term) (v0 : Int) (v1 : List Agg) : S Un := (st 64 64 259 0 [(1, ai down), (2, AV.one (A.c (C.fv (fvo_S_term_i_i64_to_S_term p_o p)))), (3, ax 3), (6, ax 6), (21, ai (↑r.aggs.length : Int)), (22, ai v0)] [(3, some (false, [C.s (Value.int IntKind.i64 r.op), C.s (Value.string r.table), C.sl Ty.col r.cols false, C.sl Ty.rel r.kids false, C.sl Ty.term (conj_relation_c1 r down p_o p) false, C.ob (256 : Nat) (0 : Nat), C.sl Ty.by_ r.keys false, C.s (Value.int IntKind.i64 r.limit), C.s (Value.int IntKind.i64 r.skip), C.s (Value.bool r.all), C.sl Ty.row r.rows false])), (6, some (false, [C.s (Value.int IntKind.i64 (0 : Int)), C.s (Value.string (ByteArray.mk #[])), C.sl Ty.col [] true, C.sl Ty.rel [] true, C.sl Ty.term [] true, C.sl Ty.agg [] true, C.sl Ty.by_ [] true, C.s (Value.int IntKind.i64 (0 : Int)), C.s (Value.int IntKind.i64 (0 : Int)), C.s (Value.bool false), C.sl Ty.row [] true]))] [(256, some ⟨(0 : Nat), Ty.agg, v1, some (0 : Nat), true⟩)])
def conj_relation_s10 (r : Rel) (down : Int) (p_o : Term → Int → Prop) (p : Term → Int → Term) (v1 : List Agg) (v2 : Int) (v3 : List Rel) : S Un := (st 64 64 259 0 [(1, ai down), (2, AV.one (A.c (C.fv (fvo_S_term_i_i64_to_S_term p_o p)))), (3, ax 3), (6, ax 6), (46, ai (↑r.kids.length : Int)), (47, ai v2)] [(3, some (false, [C.s (Value.int IntKind.i64 r.op), C.s (Value.string r.table), C.sl Ty.col r.cols false, C.ob (257 : Nat) (0 : Nat), C.sl Ty.term (conj_relation_c1 r down p_o p) false, C.ob (258 : Nat) (0 : Nat), C.sl Ty.by_ r.keys false, C.s (Value.int IntKind.i64 r.limit), C.s (Value.int IntKind.i64 r.skip), C.s (Value.bool r.all), C.sl Ty.row r.rows false])), (6, some (false, [C.s (Value.int IntKind.i64 (0 : Int)), C.s (Value.string (ByteArray.mk #[])), C.sl Ty.col [] true, C.sl Ty.rel [] true, C.sl Ty.term [] true, C.sl Ty.agg [] true, C.sl Ty.by_ [] true, C.s (Value.int IntKind.i64 (0 : Int)), C.s (Value.int IntKind.i64 (0 : Int)), C.s (Value.bool false), C.sl Ty.row [] true]))] [(257, some ⟨(0 : Nat), Ty.rel, v3, some (0 : Nat), true⟩), (258, some ⟨(0 : Nat), Ty.agg, v1, some (0 : Nat), true⟩)])
def conj_relation_B4 : Code := sub (bodyOf Tryz.f183) [1, 1, 1, 0, 1, 2, 2]
def conj_relation_L4 (m : Nat) : S Un → Option (EX Un) := loopF (N_conj_relation 4) (fun s Q => awf (M_conj_relation m) N_conj_relation conj_relation_B4 s Q)
def conj_relation_B10 : Code := sub (bodyOf Tryz.f183) [1, 1, 1, 1, 1, 0, 1, 2, 2]
def conj_relation_L10 (m : Nat) : S Un → Option (EX Un) := loopF (N_conj_relation 10) (fun s Q => awf (M_conj_relation m) N_conj_relation conj_relation_B10 s Q)
def conj_relation_C4 (m : Nat) : Exit → S Un → Option (RF Un) := ctxF (M_conj_relation m) N_conj_relation (bodyOf Tryz.f183) [1, 1, 1, 0, 1, 2] (retF (M_conj_relation m) Tryz.f183.results.toList [.d])
def conj_relation_C10 (m : Nat) : Exit → S Un → Option (RF Un) := ctxF (M_conj_relation m) N_conj_relation (bodyOf Tryz.f183) [1, 1, 1, 1, 1, 0, 1, 2] (retF (M_conj_relation m) Tryz.f183.results.toList [.d])
def conj_relation_fn (m : Nat) (r : Rel) (down : Int) (p_o : Term → Int → Prop) (p : Term → Int → Term) : Option (RF Un) := awf (M_conj_relation m) N_conj_relation (bodyOf Tryz.f183) (entry Tryz.f183.ntmps 3 [.d (.agg (enc Ty.rel r)), .d (.v (.s (.int .i64 down))), .fn (fvo_S_term_i_i64_to_S_term p_o p)]) (retF (M_conj_relation m) Tryz.f183.results.toList [.d])
theorem conj_relation_in (m : Nat) (r : Rel) (down : Int) (p_o : Term → Int → Prop) (p : Term → Int → Term) : conj_relation_fn m r down p_o p =
 obO (fvo_S_term_i_i64_to_S_term p_o p = fvo_S_term_i_i64_to_S_term (po_S_term_i_i64_to_S_term (fvo_S_term_i_i64_to_S_term p_o p)) (pf_S_term_i_i64_to_S_term (fvo_S_term_i_i64_to_S_term p_o p)))
  (obO ((2 : Nat) * htTs r.terms + (2 : Nat) < m)
   (obO (mapOK down (po_S_term_i_i64_to_S_term (fvo_S_term_i_i64_to_S_term p_o p)) (pf_S_term_i_i64_to_S_term (fvo_S_term_i_i64_to_S_term p_o p)) (szTs r.terms))
    (obO (r.aggs.length ≤ (1000000000 : Nat))
     ((conj_relation_L4 m (conj_relation_s4 r down p_o p (0 : Int) r.aggs)).bind (thenX (conj_relation_C4 m)))))) := by kernel_rfl
theorem conj_relation_l4 (m : Nat) (r : Rel) (down : Int) (p_o : Term → Int → Prop) (p : Term → Int → Term) (v0 : Int) (v1 : List Agg) : conj_relation_L4 m (conj_relation_s4 r down p_o p v0 v1) =
 cndO (decide (v0 < (↑r.aggs.length : Int)))
  (obO (0 ≤ v0 ∧ v0 < (↑v1.length : Int))
   (obO (fvo_S_term_i_i64_to_S_term p_o p = fvo_S_term_i_i64_to_S_term (po_S_term_i_i64_to_S_term (fvo_S_term_i_i64_to_S_term p_o p)) (pf_S_term_i_i64_to_S_term (fvo_S_term_i_i64_to_S_term p_o p)))
    (obO ((2 : Nat) * htTs (Agg.t (v1.getD v0.toNat zeroAgg)) + (2 : Nat) < m)
     (obO (mapOK down (po_S_term_i_i64_to_S_term (fvo_S_term_i_i64_to_S_term p_o p)) (pf_S_term_i_i64_to_S_term (fvo_S_term_i_i64_to_S_term p_o p)) (szTs (Agg.t (v1.getD v0.toNat zeroAgg))))
      (obO (0 ≤ v0 ∧ v0 < (↑v1.length : Int))
       (obO ((0 : Nat) ≤ v0.toNat)
        (conj_relation_L4 m (conj_relation_s4 r down p_o p (IntKind.i64.wrap (v0 + 1)) (v1.set v0.toNat (Agg.mk (Agg.name (v1.getD v0.toNat zeroAgg)) (Agg.distinct (v1.getD v0.toNat zeroAgg)) (conj_terms (Agg.t (v1.getD v0.toNat zeroAgg)) down (po_S_term_i_i64_to_S_term (fvo_S_term_i_i64_to_S_term p_o p)) (pf_S_term_i_i64_to_S_term (fvo_S_term_i_i64_to_S_term p_o p)))))))))))))
  (some (.exit 0, (conj_relation_s4 r down p_o p v0 v1))) := (loopF_eq (N_conj_relation 4) conj_relation_B4 _).trans (by kernel_rfl)
theorem conj_relation_a4_x0 (m : Nat) (r : Rel) (down : Int) (p_o : Term → Int → Prop) (p : Term → Int → Term) (v0 : Int) (v1 : List Agg) : conj_relation_C4 m (.exit 0) (conj_relation_s4 r down p_o p v0 v1) =
 obO (r.kids.length ≤ (1000000000 : Nat))
  ((conj_relation_L10 m (conj_relation_s10 r down p_o p v1 (0 : Int) r.kids)).bind (thenX (conj_relation_C10 m))) := by kernel_rfl
theorem conj_relation_l10 (m : Nat) (r : Rel) (down : Int) (p_o : Term → Int → Prop) (p : Term → Int → Term) (v1 : List Agg) (v2 : Int) (v3 : List Rel) : conj_relation_L10 m (conj_relation_s10 r down p_o p v1 v2 v3) =
 cndO (decide (v2 < (↑r.kids.length : Int)))
  (obO (0 ≤ v2 ∧ v2 < (↑v3.length : Int))
   (obO (fvo_S_term_i_i64_to_S_term p_o p = fvo_S_term_i_i64_to_S_term (po_S_term_i_i64_to_S_term (fvo_S_term_i_i64_to_S_term p_o p)) (pf_S_term_i_i64_to_S_term (fvo_S_term_i_i64_to_S_term p_o p)))
    (obO ((2 : Nat) * (Rel.ids (v3.getD v2.toNat zeroRel)).ht + (1 : Nat) < m)
     (obO (mapOK down (po_S_term_i_i64_to_S_term (fvo_S_term_i_i64_to_S_term p_o p)) (pf_S_term_i_i64_to_S_term (fvo_S_term_i_i64_to_S_term p_o p)) (Rel.ids (v3.getD v2.toNat zeroRel)).sz)
      (obO (0 ≤ v2 ∧ v2 < (↑v3.length : Int))
       (obO ((0 : Nat) ≤ v2.toNat)
        (conj_relation_L10 m (conj_relation_s10 r down p_o p v1 (IntKind.i64.wrap (v2 + 1)) (v3.set v2.toNat (Rel.mk (conj_relation_c2 down p_o p v2 v3).op (conj_relation_c2 down p_o p v2 v3).table (conj_relation_c2 down p_o p v2 v3).cols (conj_relation_c2 down p_o p v2 v3).kids (conj_relation_c2 down p_o p v2 v3).terms (conj_relation_c2 down p_o p v2 v3).aggs (conj_relation_c2 down p_o p v2 v3).keys (conj_relation_c2 down p_o p v2 v3).limit (conj_relation_c2 down p_o p v2 v3).skip (conj_relation_c2 down p_o p v2 v3).all (conj_relation_c2 down p_o p v2 v3).rows))))))))))
  (some (.exit 2, (conj_relation_s10 r down p_o p v1 v2 v3))) := (loopF_eq (N_conj_relation 10) conj_relation_B10 _).trans (by kernel_rfl)
theorem conj_relation_a10_x2 (m : Nat) (r : Rel) (down : Int) (p_o : Term → Int → Prop) (p : Term → Int → Term) (v1 : List Agg) (v2 : Int) (v3 : List Rel) : conj_relation_C10 m (.exit 2) (conj_relation_s10 r down p_o p v1 v2 v3) =
 some (R_conj_relation (Rel.mk r.op r.table r.cols v3 (conj_relation_c1 r down p_o p) v1 r.keys r.limit r.skip r.all r.rows)) := by kernel_rfl
theorem conj_relation_spec (m : Nat) (r : Rel) (down : Int) (p_o : Term → Int → Prop) (p : Term → Int → Term) (hr : WS .rel r) (_hd : WI down) (hm : 2 * r.ht + 1 < m + 1) (h : mapOK down p_o p r.sz) : conj_relation_fn m r down p_o p = some (R_conj_relation (conj_relation r down p_o p)) := by
  obtain ⟨h1, h2, h3⟩ := h
  have hsz := r.sz_eq
  have hk : htTs r.terms < r.ht ∧ htAs r.aggs < r.ht ∧ htRs r.kids < r.ht := by cases r; simp only [Rel.ht, Rel.kids_mk, Rel.terms_mk, Rel.aggs_mk]; omega
  have hal := szAs_len r.aggs
  have hkl := szRs_len r.kids
  have l4 := loop_map (e := .exit 0) (L := conj_relation_L4 m) (st := fun xs i => conj_relation_s4 r down p_o p i xs) (l := r.aggs) (d := zeroAgg) (mapA p down) (hr.rel_aggs).len
    (fun xs i x hi hxl hx hmem => by
      have hsz := szAs_mem hmem
      have hxs := x.sz_eq
      have hht := htAs_mem hmem
      have hxh : htTs x.t < x.ht := by cases x; simp only [Agg.ht, Agg.t_mk]; omega
      rw [conj_relation_l4]
      simp only [pofvo_S_term_i_i64_to_S_term, pffvo_S_term_i_i64_to_S_term, cndO_eq, hi, decide_true, if_true, and_true, Int.toNat_natCast, hx, hxl]
      rw [obO_pos (by omega), obO_pos trivial, obO_pos (by omega), obO_pos (show mapOK _ _ _ _ from ⟨h1, by omega, by omega⟩), obO_pos (by omega), obO_pos (by omega)]
      simp only [conj_terms, mapA_eq])
    (fun xs _ => by rw [conj_relation_l4]; simp [cndO_eq])
  have l10 := loop_map (e := .exit 2) (L := conj_relation_L10 m) (st := fun xs i => conj_relation_s10 r down p_o p (r.aggs.map (mapA p down)) i xs) (l := r.kids) (d := zeroRel) (mapR p down) (hr.rel_kids).len
    (fun xs i x hi hxl hx hmem => by
      have hsz := szRs_mem hmem
      have hht := htRs_mem hmem
      rw [conj_relation_l10]
      simp only [conj_relation_c2, rel_eta, Rel.ids_eq, pofvo_S_term_i_i64_to_S_term, pffvo_S_term_i_i64_to_S_term, cndO_eq, hi, decide_true, if_true, and_true, Int.toNat_natCast, hx, hxl]
      rw [obO_pos (by omega), obO_pos trivial, obO_pos (by omega), obO_pos (show mapOK _ _ _ _ from ⟨h1, by omega, by omega⟩), obO_pos (by omega), obO_pos (by omega)]
      simp only [conj_relation])
    (fun xs _ => by rw [conj_relation_l10]; simp [cndO_eq])
  rw [conj_relation_in]
  simp only [pofvo_S_term_i_i64_to_S_term, pffvo_S_term_i_i64_to_S_term]
  rw [obO_pos trivial, obO_pos (by omega), obO_pos (show mapOK _ _ _ _ from ⟨h1, by omega, by omega⟩), obO_pos (by omega), loop_end l4, conj_relation_a4_x0, obO_pos (by omega), loop_end l10, conj_relation_a10_x2]
  unfold conj_relation conj_relation_c1
  rw [mapR_eq, pofvo_S_term_i_i64_to_S_term, pffvo_S_term_i_i64_to_S_term, mapAs_map, mapRs_map]
  rfl
theorem okm_conj_relation (m : Nat) (h_conj_mapped : FnOK 156 (Fm_conj_mapped m)) (h_conj_terms : FnOK 182 (Fm_conj_terms m)) (h_conj_relation : FnOK 183 (Fm_conj_relation m)) : FnOK 183 (Fm_conj_relation (m + 1)) := by
  intro args ob rs os h hob
  unfold Fm_conj_relation at h
  split at h
  · simp only [Option.bind_eq_some_iff, Option.some.injEq, Prod.mk.injEq] at h
    obtain ⟨r, e0, down, e1, p, e2, rfl, rfl, rfl⟩ := h
    obtain rfl := dS_eq e0
    obtain rfl := dI_eq e1
    obtain rfl := dF_eq e2
    have hfv0 := hob _ (List.mem_of_getElem? (i := 0) rfl)
    generalize pf_S_term_i_i64_to_S_term p = pp0 at *
    generalize po_S_term_i_i64_to_S_term p = qq0 at *
    subst hfv0
    exact ⟨fn_contractF (M := (M_conj_relation m)) rfl (tbl_ok (l1 := [(182, Fm_conj_terms m), (82, F_clone_agg), (140, F_clone_rel), (183, Fm_conj_relation m)]) (l2 := []) (l3 := []) (l4 := []) (l5 := []) ⟨h_conj_terms, ok_clone_agg, ok_clone_rel, h_conj_relation, trivial⟩ trivial trivial trivial trivial) Tryz.func183 (by kernel_rfl) N_conj_relation 3 [.d] (fun hwf => (conj_relation_spec m r down qq0 pp0 (wfArg hwf (a := .d (.agg (enc Ty.rel r))) (List.mem_of_getElem? (i := 0) rfl)) (wfArg hwf (a := .d (.v (.s (.int .i64 down)))) (List.mem_of_getElem? (i := 1) rfl)) (hob _ (List.mem_of_getElem? (i := 1) rfl)) (hob _ (List.mem_of_getElem? (i := 2) rfl)))), hasBody_of Tryz.func183 (by kernel_rfl) (by kernel_rfl)⟩
  · simp at h
theorem okAll_mapG : ∀ m, FnOK 156 (Fm_conj_mapped m) ∧ FnOK 182 (Fm_conj_terms m) ∧ FnOK 183 (Fm_conj_relation m)
  | 0 => by
    refine ⟨?_, ?_, ?_⟩
    · intro args ob rs os h hob
      unfold Fm_conj_mapped at h
      split at h
      · simp only [Option.bind_eq_some_iff, Option.some.injEq, Prod.mk.injEq] at h
        obtain ⟨_, _, _, _, _, _, rfl, _, _⟩ := h
        exact absurd (hob _ (List.mem_of_getElem? (i := 1) rfl)) (Nat.not_lt_zero _)
      · simp at h
    · intro args ob rs os h hob
      unfold Fm_conj_terms at h
      split at h
      · simp only [Option.bind_eq_some_iff, Option.some.injEq, Prod.mk.injEq] at h
        obtain ⟨_, _, _, _, _, _, rfl, _, _⟩ := h
        exact absurd (hob _ (List.mem_of_getElem? (i := 1) rfl)) (Nat.not_lt_zero _)
      · simp at h
    · intro args ob rs os h hob
      unfold Fm_conj_relation at h
      split at h
      · simp only [Option.bind_eq_some_iff, Option.some.injEq, Prod.mk.injEq] at h
        obtain ⟨_, _, _, _, _, _, rfl, _, _⟩ := h
        exact absurd (hob _ (List.mem_of_getElem? (i := 1) rfl)) (Nat.not_lt_zero _)
      · simp at h
  | m + 1 => by
    have ih := okAll_mapG m
    exact ⟨okm_conj_mapped m ih.1 ih.2.1 ih.2.2, okm_conj_terms m ih.1 ih.2.1 ih.2.2, okm_conj_relation m ih.1 ih.2.1 ih.2.2⟩
def F_conj_mapped : FnC Un := fun args => match args with
  | [x0, x1, x2] => (dS .term x0).bind fun t => (dI .i64 x1).bind fun down => (dF x2).bind fun p => some ([p = (fvo_S_term_i_i64_to_S_term (po_S_term_i_i64_to_S_term p) (pf_S_term_i_i64_to_S_term p)), mapOK down (po_S_term_i_i64_to_S_term p) (pf_S_term_i_i64_to_S_term p) t.sz], A_conj_mapped (conj_mapped t down (po_S_term_i_i64_to_S_term p) (pf_S_term_i_i64_to_S_term p)), O_conj_mapped (conj_mapped t down (po_S_term_i_i64_to_S_term p) (pf_S_term_i_i64_to_S_term p)))
  | _ => none
theorem ok_conj_mapped : FnOK 156 F_conj_mapped := by
  intro args ob rs os h hob
  unfold F_conj_mapped at h
  split at h
  · simp only [Option.bind_eq_some_iff, Option.some.injEq, Prod.mk.injEq] at h
    obtain ⟨t, e0, down, e1, p, e2, rfl, rfl, rfl⟩ := h
    refine ((okAll_mapG (2 * t.ht + 1 + 1)).1) _ [p = (fvo_S_term_i_i64_to_S_term (po_S_term_i_i64_to_S_term p) (pf_S_term_i_i64_to_S_term p)), 2 * t.ht + 1 < 2 * t.ht + 1 + 1, mapOK down (po_S_term_i_i64_to_S_term p) (pf_S_term_i_i64_to_S_term p) t.sz] _ _ (?_ : Fm_conj_mapped (2 * t.ht + 1 + 1) _ = some _) ?_
    · unfold Fm_conj_mapped
      simp only [e0, e1, e2, Option.bind_some]
    · intro p hp
      simp only [List.mem_cons, List.not_mem_nil, or_false] at hp
      rcases hp with rfl | rfl | rfl
      · exact hob _ (List.mem_of_getElem? (i := 0) rfl)
      · exact Nat.lt_succ_self _
      · exact hob _ (List.mem_of_getElem? (i := 1) rfl)
  · simp at h
def M_moved1 : Mc Un := mach (tbl []) (tbl []) (tbl []) (tbl []) (tbl [])
def A_moved1 (r : Term) : List (A Un) := [.agg (encC Ty.term r)]
def O_moved1 (_r : Term) : List (Ob Un) := []
def R_moved1 (r : Term) : RF Un := (A_moved1 r, O_moved1 r)
def N_moved1 : Nat → NS := fun l => (look l []).getD ⟨[], [], [], [], []⟩
def moved1_fn (c : Term) (down : Int) (depth : Int) (to : Int → Int) : Option (RF Un) := awf M_moved1 N_moved1 (bodyOf Tryz.f161) (entry Tryz.f161.ntmps 0 [.d (.agg (enc Ty.term c)), .d (.v (.s (.int .i64 down))), .box [.v (.s (.int .i64 depth))], .box [.fn (fv_i_i64_to_i_i64 to)]]) (retF M_moved1 Tryz.f161.results.toList [.d])
theorem moved1_in (c : Term) (down : Int) (depth : Int) (to : Int → Int) : moved1_fn c down depth to =
 cndO (IntKind.i64.wrap (c.depth - down) == depth)
  (some (R_moved1 (Term.mk c.op c.v c.depth (to c.at_) c.name c.kids c.sub c.type)))
  (some (R_moved1 (c))) := by kernel_rfl
def moved1 (c : Term) (down depth : Int) (to : Int → Int) : Term := if IntKind.i64.wrap (c.depth - down) = depth then setAt c (to c.at_) else c
theorem moved1_spec (c : Term) (down depth : Int) (to : Int → Int) (_hc : WS .term c) (_hd : WI down) (_he : WI depth) : moved1_fn c down depth to = some (R_moved1 (moved1 c down depth to)) := by
  rw [moved1_in]
  unfold moved1 setAt
  simp only [cndO_eq, beq_iff_eq]
  split <;> rfl
theorem moved1_keeps (depth : Int) (to : Int → Int) : KeepsAt (fun c d => moved1 c d depth to) := by
  intro c d
  show moved1 c d depth to = setAt c (moved1 c d depth to).at_
  unfold moved1
  split
  · simp only [setAt, Term.at__mk]
  · unfold setAt; rw [term_eta]
def L_moved1 : List (List (DC Un)) → Option (FV Un) := fun dl => match dl with
  | [b0, b1] => (bI .i64 b0).bind fun depth => (bF b1).bind fun to => some (fvo_S_term_i_i64_to_S_term (fun c down => to = fv_i_i64_to_i_i64 (pf_i_i64_to_i_i64 to)) (fun c down => moved1 c down depth (pf_i_i64_to_i_i64 to)))
  | _ => none
theorem okL_moved1 : ClOK 161 L_moved1 := by
  refine ⟨hasBody_of Tryz.func161 (by kernel_rfl) (by kernel_rfl), fun dl φ args ob rs hF hφ hob => ?_⟩
  unfold L_moved1 at hF
  split at hF
  · simp only [Option.bind_eq_some_iff, Option.some.injEq] at hF
    obtain ⟨depth, g0, to, g1, hE⟩ := hF
    subst hE
    obtain rfl := bI_eq g0
    obtain rfl := bF_eq g1
    unfold fvo_S_term_i_i64_to_S_term at hφ
    split at hφ
    · simp only [Option.bind_eq_some_iff, Option.some.injEq, Prod.mk.injEq] at hφ
      obtain ⟨c, e0, down, e1, rfl, rfl⟩ := hφ
      simp only [List.map_cons, List.map_nil, List.cons_append, List.nil_append]
      rw [dS_eq e0]
      rw [dI_eq e1]
      have hfv0 := (hob _ (List.mem_of_getElem? (i := 0) rfl))
      generalize pf_i_i64_to_i_i64 to = pp0 at *
      subst hfv0
      exact Contract.data (fn_contractF (M := M_moved1) rfl (tbl_ok (l1 := []) (l2 := []) (l3 := []) (l4 := []) (l5 := []) trivial trivial trivial trivial trivial) Tryz.func161 (by kernel_rfl) N_moved1 0 [.d] (fun hwf => (moved1_spec c down depth pp0 (wfArg hwf (a := .d (.agg (enc Ty.term c))) (List.mem_of_getElem? (i := 0) rfl)) (wfArg hwf (a := .d (.v (.s (.int .i64 down)))) (List.mem_of_getElem? (i := 1) rfl)) (wfArg hwf (a := .box [.v (.s (.int .i64 depth))]) (List.mem_of_getElem? (i := 2) rfl)))))
    · simp at hφ
  · simp at hF
def M_move1 : Mc Un := mach (tbl []) (tbl []) (tbl []) (tbl []) (tbl [])
def A_move1 (r : Int) : List (A Un) := [.c (.s (.int .i64 r))]
def O_move1 (_r : Int) : List (Ob Un) := []
def R_move1 (r : Int) : RF Un := (A_move1 r, O_move1 r)
def N_move1 : Nat → NS := fun l => (look l []).getD ⟨[], [], [], [], []⟩
def move1_fn (i : Int) (at_ : List Int) : Option (RF Un) := awf M_move1 N_move1 (bodyOf Tryz.f118) (entry Tryz.f118.ntmps 0 [.d (.v (.s (.int .i64 i))), .box [.v (.dat (U := Un) Ty.int at_)]]) (retF M_move1 Tryz.f118.results.toList [.d])
theorem move1_in (i : Int) (at_ : List Int) : move1_fn i at_ =
 cndO (decide (i ≥ 0))
  (cndO (decide (i < (↑at_.length : Int)))
   (obO (0 ≤ i ∧ i < (↑at_.length : Int))
    (some (R_move1 (at_.getD i.toNat (0 : Int)))))
   (some (R_move1 (i))))
  (some (R_move1 (i))) := by kernel_rfl
def move1 (i : Int) (at_ : List Int) : Int := if 0 ≤ i ∧ i < (at_.length : Int) then at_.getD i.toNat 0 else i
theorem move1_spec (i : Int) (at_ : List Int) (_hi : WI i) (_ha : WL .int at_) : move1_fn i at_ = some (R_move1 (move1 i at_)) := by
  rw [move1_in]
  unfold move1
  simp only [cndO_eq, decide_eq_true_eq]
  by_cases h1 : i ≥ 0
  · by_cases h2 : i < (at_.length : Int)
    · rw [if_pos h1, if_pos h2, obO_pos ⟨h1, h2⟩, if_pos ⟨h1, h2⟩]
    · rw [if_pos h1, if_neg h2, if_neg (fun h => h2 h.2)]
  · rw [if_neg h1, if_neg (fun h => h1 h.1)]
def L_move1 : List (List (DC Un)) → Option (FV Un) := fun dl => match dl with
  | [b0] => (bL .int b0).bind fun at_ => some (fv_i_i64_to_i_i64 (fun i => move1 i at_))
  | _ => none
theorem okL_move1 : ClOK 118 L_move1 := by
  refine ⟨hasBody_of Tryz.func118 (by kernel_rfl) (by kernel_rfl), fun dl φ args ob rs hF hφ hob => ?_⟩
  unfold L_move1 at hF
  split at hF
  · simp only [Option.bind_eq_some_iff, Option.some.injEq] at hF
    obtain ⟨at_, g0, hE⟩ := hF
    subst hE
    obtain rfl := bL_eq g0
    unfold fv_i_i64_to_i_i64 at hφ
    split at hφ
    · simp only [Option.bind_eq_some_iff, Option.some.injEq, Prod.mk.injEq] at hφ
      obtain ⟨i, e0, rfl, rfl⟩ := hφ
      simp only [List.map_cons, List.map_nil, List.cons_append, List.nil_append]
      rw [dI_eq e0]
      exact Contract.data (fn_contractF (M := M_move1) rfl (tbl_ok (l1 := []) (l2 := []) (l3 := []) (l4 := []) (l5 := []) trivial trivial trivial trivial trivial) Tryz.func118 (by kernel_rfl) N_move1 0 [.d] (fun hwf => (move1_spec i at_ (wfArg hwf (a := .d (.v (.s (.int .i64 i)))) (List.mem_of_getElem? (i := 0) rfl)) (wfArg hwf (a := .box [.v (.dat (U := Un) Ty.int at_)]) (List.mem_of_getElem? (i := 1) rfl)))))
    · simp at hφ
  · simp at hF
def M_conj_Moved : Mc Un := mach (tbl [(156, F_conj_mapped)]) (tbl []) (tbl [(161, L_moved1)]) (tbl []) (tbl [])
def A_conj_Moved (r : Term) : List (A Un) := [.agg (encC Ty.term r)]
def O_conj_Moved (_r : Term) : List (Ob Un) := []
def R_conj_Moved (r : Term) : RF Un := (A_conj_Moved r, O_conj_Moved r)
def N_conj_Moved : Nat → NS := fun l => (look l []).getD ⟨[], [], [], [], []⟩
def conj_Moved_fn (t : Term) (depth : Int) (to : Int → Int) : Option (RF Un) := awf M_conj_Moved N_conj_Moved (bodyOf Tryz.f117) (entry Tryz.f117.ntmps 0 [.d (.agg (enc Ty.term t)), .d (.v (.s (.int .i64 depth))), .fn (fv_i_i64_to_i_i64 to)]) (retF M_conj_Moved Tryz.f117.results.toList [.d])
theorem conj_Moved_in (t : Term) (depth : Int) (to : Int → Int) : conj_Moved_fn t depth to =
 obO ((fvo_S_term_i_i64_to_S_term (fun c down => fv_i_i64_to_i_i64 to = fv_i_i64_to_i_i64 (pf_i_i64_to_i_i64 (fv_i_i64_to_i_i64 to))) fun c down => moved1 c down depth (pf_i_i64_to_i_i64 (fv_i_i64_to_i_i64 to))) = fvo_S_term_i_i64_to_S_term (po_S_term_i_i64_to_S_term (fvo_S_term_i_i64_to_S_term (fun c down => fv_i_i64_to_i_i64 to = fv_i_i64_to_i_i64 (pf_i_i64_to_i_i64 (fv_i_i64_to_i_i64 to))) fun c down => moved1 c down depth (pf_i_i64_to_i_i64 (fv_i_i64_to_i_i64 to)))) (pf_S_term_i_i64_to_S_term (fvo_S_term_i_i64_to_S_term (fun c down => fv_i_i64_to_i_i64 to = fv_i_i64_to_i_i64 (pf_i_i64_to_i_i64 (fv_i_i64_to_i_i64 to))) fun c down => moved1 c down depth (pf_i_i64_to_i_i64 (fv_i_i64_to_i_i64 to)))))
  (obO (mapOK (0 : Int) (po_S_term_i_i64_to_S_term (fvo_S_term_i_i64_to_S_term (fun c down => fv_i_i64_to_i_i64 to = fv_i_i64_to_i_i64 (pf_i_i64_to_i_i64 (fv_i_i64_to_i_i64 to))) fun c down => moved1 c down depth (pf_i_i64_to_i_i64 (fv_i_i64_to_i_i64 to)))) (pf_S_term_i_i64_to_S_term (fvo_S_term_i_i64_to_S_term (fun c down => fv_i_i64_to_i_i64 to = fv_i_i64_to_i_i64 (pf_i_i64_to_i_i64 (fv_i_i64_to_i_i64 to))) fun c down => moved1 c down depth (pf_i_i64_to_i_i64 (fv_i_i64_to_i_i64 to)))) (Term.ids t).sz)
   (some (R_conj_Moved (conj_mapped (Term.ids t) (0 : Int) (po_S_term_i_i64_to_S_term (fvo_S_term_i_i64_to_S_term (fun c down => fv_i_i64_to_i_i64 to = fv_i_i64_to_i_i64 (pf_i_i64_to_i_i64 (fv_i_i64_to_i_i64 to))) fun c down => moved1 c down depth (pf_i_i64_to_i_i64 (fv_i_i64_to_i_i64 to)))) (pf_S_term_i_i64_to_S_term (fvo_S_term_i_i64_to_S_term (fun c down => fv_i_i64_to_i_i64 to = fv_i_i64_to_i_i64 (pf_i_i64_to_i_i64 (fv_i_i64_to_i_i64 to))) fun c down => moved1 c down depth (pf_i_i64_to_i_i64 (fv_i_i64_to_i_i64 to)))))))) := by kernel_rfl
def conj_Moved (t : Term) (depth : Int) (to : Int → Int) : Term := mapT (fun c d => moved1 c d depth to) 0 t
@[simp] theorem conj_Moved_eq (t : Term) (depth : Int) (to : Int → Int) : conj_Moved t depth to = mapT (fun c d => moved1 c d depth to) 0 t := by unfold conj_Moved; rfl
theorem conj_Moved_spec (t : Term) (depth : Int) (to : Int → Int) (_ht : WS .term t) (_hd : WI depth) (h : t.sz ≤ 2000000) : conj_Moved_fn t depth to = some (R_conj_Moved (conj_Moved t depth to)) := by
  rw [conj_Moved_in]
  simp only [Term.ids_eq, pofvo_S_term_i_i64_to_S_term, pffvo_S_term_i_i64_to_S_term, pfv_i_i64_to_i_i64]
  rw [obO_pos trivial, obO_pos (show mapOK _ _ _ _ from ⟨⟨fun _ _ => trivial, moved1_keeps depth to⟩, by omega, by omega⟩)]
  unfold conj_Moved conj_mapped
  rfl
def F_conj_Moved : FnC Un := fun args => match args with
  | [x0, x1, x2] => (dS .term x0).bind fun t => (dI .i64 x1).bind fun depth => (dF x2).bind fun to => some ([to = (fv_i_i64_to_i_i64 (pf_i_i64_to_i_i64 to)), t.sz ≤ 2000000], A_conj_Moved (conj_Moved t depth (pf_i_i64_to_i_i64 to)), O_conj_Moved (conj_Moved t depth (pf_i_i64_to_i_i64 to)))
  | _ => none
theorem ok_conj_Moved : FnOK 117 F_conj_Moved := by
  intro args ob rs os h hob
  unfold F_conj_Moved at h
  split at h
  · simp only [Option.bind_eq_some_iff, Option.some.injEq, Prod.mk.injEq] at h
    obtain ⟨t, e0, depth, e1, to, e2, rfl, rfl, rfl⟩ := h
    obtain rfl := dS_eq e0
    obtain rfl := dI_eq e1
    obtain rfl := dF_eq e2
    have hfv0 := hob _ (List.mem_of_getElem? (i := 0) rfl)
    generalize pf_i_i64_to_i_i64 to = pp0 at *
    subst hfv0
    exact ⟨fn_contractF (M := M_conj_Moved) rfl (tbl_ok (l1 := [(156, F_conj_mapped)]) (l2 := []) (l3 := [(161, L_moved1)]) (l4 := []) (l5 := []) ⟨ok_conj_mapped, trivial⟩ trivial ⟨okL_moved1, trivial⟩ trivial trivial) Tryz.func117 (by kernel_rfl) N_conj_Moved 0 [.d] (fun hwf => (conj_Moved_spec t depth pp0 (wfArg hwf (a := .d (.agg (enc Ty.term t))) (List.mem_of_getElem? (i := 0) rfl)) (wfArg hwf (a := .d (.v (.s (.int .i64 depth)))) (List.mem_of_getElem? (i := 1) rfl)) (hob _ (List.mem_of_getElem? (i := 1) rfl)))), hasBody_of Tryz.func117 (by kernel_rfl) (by kernel_rfl)⟩
  · simp at h
def M_conj_Move : Mc Un := mach (tbl [(117, F_conj_Moved)]) (tbl []) (tbl [(118, L_move1)]) (tbl []) (tbl [])
def A_conj_Move (r : Term) : List (A Un) := [.agg (encC Ty.term r)]
def O_conj_Move (_r : Term) : List (Ob Un) := []
def R_conj_Move (r : Term) : RF Un := (A_conj_Move r, O_conj_Move r)
def N_conj_Move : Nat → NS := fun l => (look l []).getD ⟨[], [], [], [], []⟩
def conj_Move_fn (t : Term) (depth : Int) (at_ : List Int) : Option (RF Un) := awf M_conj_Move N_conj_Move (bodyOf Tryz.f45) (entry Tryz.f45.ntmps 0 [.d (.agg (enc Ty.term t)), .d (.v (.s (.int .i64 depth))), .d (.v (.dat (U := Un) Ty.int at_))]) (retF M_conj_Move Tryz.f45.results.toList [.d])
theorem conj_Move_in (t : Term) (depth : Int) (at_ : List Int) : conj_Move_fn t depth at_ =
 obO ((fv_i_i64_to_i_i64 fun i => move1 i at_) = fv_i_i64_to_i_i64 (pf_i_i64_to_i_i64 (fv_i_i64_to_i_i64 fun i => move1 i at_)))
  (obO ((Term.ids t).sz ≤ (2000000 : Nat))
   (some (R_conj_Move (conj_Moved (Term.ids t) depth (pf_i_i64_to_i_i64 (fv_i_i64_to_i_i64 fun i => move1 i at_)))))) := by kernel_rfl
def moveA (t : Term) (depth : Int) (at_ : List Int) : Term := mapT (fun c d => moved1 c d depth (fun i => move1 i at_)) 0 t
def conj_Move (t : Term) (depth : Int) (at_ : List Int) : Term := moveA t depth at_
@[simp] theorem conj_Move_eq (t : Term) (depth : Int) (at_ : List Int) : conj_Move t depth at_ = moveA t depth at_ := by unfold conj_Move; rfl
theorem conj_Move_spec (t : Term) (depth : Int) (at_ : List Int) (_ht : WS .term t) (_hd : WI depth) (_ha : WL .int at_) (h : t.sz ≤ 2000000) : conj_Move_fn t depth at_ = some (R_conj_Move (conj_Move t depth at_)) := by
  rw [conj_Move_in]
  simp only [Term.ids_eq, pfv_i_i64_to_i_i64, conj_Moved_eq]
  rw [obO_pos trivial, obO_pos h]
  rfl
def F_conj_Move : FnC Un := fun args => match args with
  | [x0, x1, x2] => (dS .term x0).bind fun t => (dI .i64 x1).bind fun depth => (dL .int x2).bind fun at_ => some ([t.sz ≤ 2000000], A_conj_Move (conj_Move t depth at_), O_conj_Move (conj_Move t depth at_))
  | _ => none
theorem ok_conj_Move : FnOK 45 F_conj_Move := by
  intro args ob rs os h hob
  unfold F_conj_Move at h
  split at h
  · simp only [Option.bind_eq_some_iff, Option.some.injEq, Prod.mk.injEq] at h
    obtain ⟨t, e0, depth, e1, at_, e2, rfl, rfl, rfl⟩ := h
    obtain rfl := dS_eq e0
    obtain rfl := dI_eq e1
    obtain rfl := dL_eq e2
    exact ⟨fn_contractF (M := M_conj_Move) rfl (tbl_ok (l1 := [(117, F_conj_Moved)]) (l2 := []) (l3 := [(118, L_move1)]) (l4 := []) (l5 := []) ⟨ok_conj_Moved, trivial⟩ trivial ⟨okL_move1, trivial⟩ trivial trivial) Tryz.func45 (by kernel_rfl) N_conj_Move 0 [.d] (fun hwf => (conj_Move_spec t depth at_ (wfArg hwf (a := .d (.agg (enc Ty.term t))) (List.mem_of_getElem? (i := 0) rfl)) (wfArg hwf (a := .d (.v (.s (.int .i64 depth)))) (List.mem_of_getElem? (i := 1) rfl)) (wfArg hwf (a := .d (.v (.dat (U := Un) Ty.int at_))) (List.mem_of_getElem? (i := 2) rfl)) (hob _ (List.mem_of_getElem? (i := 0) rfl)))), hasBody_of Tryz.func45 (by kernel_rfl) (by kernel_rfl)⟩
  · simp at h
end
end Go.Proofs.YtmpnompddfhkeaaGreat.B
namespace Go.Proofs.YtmpnompddfhkeaaGreat.B
open Go Go.RowKit
set_option maxRecDepth 100000
noncomputable section
attribute [local irreducible] awp ctxK itersK iterK retQ retGQ awf ctxF loopF
def M_idxf_int : Mc Un := mach (tbl []) (tbl []) (tbl []) (tbl []) (tbl [])
def A_idxf_int (r : Int) : List (A Un) := [.c (.s (.int .i64 r))]
def O_idxf_int (_r : Int) : List (Ob Un) := []
def R_idxf_int (r : Int) : RF Un := (A_idxf_int r, O_idxf_int r)
def N_idxf_int : Nat → NS := fun l => (look l [(2, { ts := bl 19 403, bs := bl 19 0, nm := [] })]).getD ⟨[], [], [], [], []⟩
def idxf_int_s2 (s : List Int) (f : Int → Bool) (v0 : Int) : S Un := (st 19 19 76 0 [(0, al .int s), (1, AV.one (A.c (C.fv (fv_i_i64_to_b f)))), (4, ai (0 : Int)), (7, ai (↑s.length : Int)), (8, ai v0)] [] [])
def idxf_int_e2_ret (s : List Int) (f : Int → Bool) (v0 : Int) (v1 : Int) : S Un := (st 19 19 76 0 [(0, al .int s), (1, AV.one (A.c (C.fv (fv_i_i64_to_b f)))), (4, ai v1), (7, ai (↑s.length : Int)), (8, ai v0)] [] [])
def idxf_int_B2 : Code := sub (bodyOf Tryz.f160) [1, 0, 1, 2, 2]
def idxf_int_L2 : S Un → Option (EX Un) := loopF (N_idxf_int 2) (fun s Q => awf M_idxf_int N_idxf_int idxf_int_B2 s Q)
def idxf_int_C2 : Exit → S Un → Option (RF Un) := ctxF M_idxf_int N_idxf_int (bodyOf Tryz.f160) [1, 0, 1, 2] (retF M_idxf_int Tryz.f160.results.toList [.d])
def idxf_int_fn (s : List Int) (f : Int → Bool) : Option (RF Un) := awf M_idxf_int N_idxf_int (bodyOf Tryz.f160) (entry Tryz.f160.ntmps 0 [.d (.v (.dat (U := Un) Ty.int s)), .fn (fv_i_i64_to_b f)]) (retF M_idxf_int Tryz.f160.results.toList [.d])
theorem idxf_int_in (s : List Int) (f : Int → Bool) : idxf_int_fn s f =
 (idxf_int_L2 (idxf_int_s2 s f (0 : Int))).bind (thenX idxf_int_C2) := by kernel_rfl
theorem idxf_int_l2 (s : List Int) (f : Int → Bool) (v0 : Int) : idxf_int_L2 (idxf_int_s2 s f v0) =
 cndO (decide (v0 < (↑s.length : Int)))
  (obO (0 ≤ v0 ∧ v0 < (↑s.length : Int))
   (cndO (f (s.getD v0.toNat (0 : Int)))
    (some (.ret, (idxf_int_e2_ret s f v0 v0)))
    (idxf_int_L2 (idxf_int_s2 s f (IntKind.i64.wrap (v0 + 1))))))
  (some (.exit 0, (idxf_int_s2 s f v0))) := (loopF_eq (N_idxf_int 2) idxf_int_B2 _).trans (by kernel_rfl)
theorem idxf_int_a2_ret (s : List Int) (f : Int → Bool) (v0 : Int) (v1 : Int) : idxf_int_C2 .ret (idxf_int_e2_ret s f v0 v1) =
 some (R_idxf_int (v1)) := by kernel_rfl
theorem idxf_int_a2_x0 (s : List Int) (f : Int → Bool) (v0 : Int) : idxf_int_C2 (.exit 0) (idxf_int_s2 s f v0) =
 some (R_idxf_int ((-1 : Int))) := by kernel_rfl
def idxf_int (s : List Int) (f : Int → Bool) : Int := match s.findIdx? f with | some i => (i : Int) | none => -1
theorem idxf_int_nonneg (s : List Int) (f : Int → Bool) : 0 ≤ idxf_int s f ↔ s.any f = true := by
  unfold idxf_int
  cases h : s.findIdx? f with
  | none =>
    have := List.findIdx?_eq_none_iff.1 h
    simp only [List.any_eq_true]
    constructor
    · intro h1; exact absurd h1 (by decide)
    · rintro ⟨x, hx, hf⟩; rw [this x hx] at hf; simp at hf
  | some i =>
    obtain ⟨h1, h2, _⟩ := List.findIdx?_eq_some_iff_getElem.1 h
    simp only [List.any_eq_true]
    exact ⟨fun _ => ⟨s[i], List.getElem_mem h1, h2⟩, fun _ => by omega⟩
theorem idxf_int_spec (s : List Int) (f : Int → Bool) (hs : WL .int s) : idxf_int_fn s f = some (R_idxf_int (idxf_int s f)) := by
  have key : ∀ (r : List Int) (i : Nat), s.drop i = r → i ≤ s.length → (idxf_int_L2 (idxf_int_s2 s f i)).bind (thenX idxf_int_C2) = some (R_idxf_int (match r.findIdx? f with | some k => ((i + k : Nat) : Int) | none => -1)) := by
    intro r
    induction r with
    | nil =>
      intro i hr hi
      have : s.length ≤ i := by rw [← List.drop_eq_nil_iff]; exact hr
      have e : idxf_int_L2 (idxf_int_s2 s f i) = some (.exit 0, idxf_int_s2 s f i) := by rw [idxf_int_l2, cndO_eq, if_neg (by simp; omega)]
      rw [loop_end e, idxf_int_a2_x0]; rfl
    | cons x r ih =>
      intro i hr hi
      obtain ⟨a1, a2, a3, _⟩ := drop_cons hr
      have hx : s.getD i 0 = x := a2 0
      by_cases hf : f x = true
      · have e : idxf_int_L2 (idxf_int_s2 s f i) = some (.ret, idxf_int_e2_ret s f i i) := by
          rw [idxf_int_l2, cndO_eq, if_pos (by simp; omega), obO_pos (by omega), Int.toNat_natCast, hx, cndO_eq, if_pos hf]
        rw [loop_end e, idxf_int_a2_ret]
        simp [List.findIdx?_cons, hf]
      · have e : idxf_int_L2 (idxf_int_s2 s f i) = idxf_int_L2 (idxf_int_s2 s f ((i + 1 : Nat) : Int)) := by
          rw [idxf_int_l2, cndO_eq, if_pos (by simp; omega), obO_pos (by omega), Int.toNat_natCast, hx, cndO_eq, if_neg hf, wrap_next a1 hs.len]
        rw [e, ih (i + 1) a3 (by omega)]
        congr 2
        simp only [List.findIdx?_cons, hf]
        cases r.findIdx? f with
        | none => rfl
        | some k => simp; omega
  rw [idxf_int_in]
  have := key s 0 rfl (Nat.zero_le _)
  refine Eq.trans this ?_
  unfold idxf_int
  cases s.findIdx? f <;> simp
def F_idxf_int : FnC Un := fun args => match args with
  | [x0, x1] => (dL .int x0).bind fun s => (dF x1).bind fun f => some ([f = (fv_i_i64_to_b (pf_i_i64_to_b f))], A_idxf_int (idxf_int s (pf_i_i64_to_b f)), O_idxf_int (idxf_int s (pf_i_i64_to_b f)))
  | _ => none
theorem ok_idxf_int : FnOK 160 F_idxf_int := by
  intro args ob rs os h hob
  unfold F_idxf_int at h
  split at h
  · simp only [Option.bind_eq_some_iff, Option.some.injEq, Prod.mk.injEq] at h
    obtain ⟨s, e0, f, e1, rfl, rfl, rfl⟩ := h
    obtain rfl := dL_eq e0
    obtain rfl := dF_eq e1
    have hfv0 := hob _ (List.mem_of_getElem? (i := 0) rfl)
    generalize pf_i_i64_to_b f = pp0 at *
    subst hfv0
    exact ⟨fn_contractF (M := M_idxf_int) rfl (tbl_ok (l1 := []) (l2 := []) (l3 := []) (l4 := []) (l5 := []) trivial trivial trivial trivial trivial) Tryz.func160 (by kernel_rfl) N_idxf_int 0 [.d] (fun hwf => (idxf_int_spec s pp0 (wfArg hwf (a := .d (.v (.dat (U := Un) Ty.int s))) (List.mem_of_getElem? (i := 0) rfl)))), hasBody_of Tryz.func160 (by kernel_rfl) (by kernel_rfl)⟩
  · simp at h
def M_conf_int : Mc Un := mach (tbl [(160, F_idxf_int)]) (tbl []) (tbl []) (tbl []) (tbl [])
def A_conf_int (r : Bool) : List (A Un) := [.c (.s (.bool r))]
def O_conf_int (_r : Bool) : List (Ob Un) := []
def R_conf_int (r : Bool) : RF Un := (A_conf_int r, O_conf_int r)
def N_conf_int : Nat → NS := fun l => (look l []).getD ⟨[], [], [], [], []⟩
def conf_int_fn (s : List Int) (f : Int → Bool) : Option (RF Un) := awf M_conf_int N_conf_int (bodyOf Tryz.f114) (entry Tryz.f114.ntmps 0 [.d (.v (.dat (U := Un) Ty.int s)), .fn (fv_i_i64_to_b f)]) (retF M_conf_int Tryz.f114.results.toList [.d])
theorem conf_int_in (s : List Int) (f : Int → Bool) : conf_int_fn s f =
 obO (fv_i_i64_to_b f = fv_i_i64_to_b (pf_i_i64_to_b (fv_i_i64_to_b f)))
  (some (R_conf_int (decide (idxf_int s (pf_i_i64_to_b (fv_i_i64_to_b f)) ≥ 0)))) := by kernel_rfl
def conf_int (s : List Int) (f : Int → Bool) : Bool := s.any f
@[simp] theorem conf_int_eq (s : List Int) (f : Int → Bool) : conf_int s f = s.any f := by unfold conf_int; rfl
theorem conf_int_spec (s : List Int) (f : Int → Bool) (_hs : WL .int s) : conf_int_fn s f = some (R_conf_int (conf_int s f)) := by
  rw [conf_int_in]
  simp only [pfv_i_i64_to_b]
  rw [obO_pos trivial]
  unfold conf_int
  congr 2
  have := idxf_int_nonneg s f
  cases h : s.any f with
  | true => simp; exact this.2 h
  | false =>
    have : ¬ 0 ≤ idxf_int s f := fun e => by rw [this.1 e] at h; simp at h
    simpa using this
def F_conf_int : FnC Un := fun args => match args with
  | [x0, x1] => (dL .int x0).bind fun s => (dF x1).bind fun f => some ([f = (fv_i_i64_to_b (pf_i_i64_to_b f))], A_conf_int (conf_int s (pf_i_i64_to_b f)), O_conf_int (conf_int s (pf_i_i64_to_b f)))
  | _ => none
theorem ok_conf_int : FnOK 114 F_conf_int := by
  intro args ob rs os h hob
  unfold F_conf_int at h
  split at h
  · simp only [Option.bind_eq_some_iff, Option.some.injEq, Prod.mk.injEq] at h
    obtain ⟨s, e0, f, e1, rfl, rfl, rfl⟩ := h
    obtain rfl := dL_eq e0
    obtain rfl := dF_eq e1
    have hfv0 := hob _ (List.mem_of_getElem? (i := 0) rfl)
    generalize pf_i_i64_to_b f = pp0 at *
    subst hfv0
    exact ⟨fn_contractF (M := M_conf_int) rfl (tbl_ok (l1 := [(160, F_idxf_int)]) (l2 := []) (l3 := []) (l4 := []) (l5 := []) ⟨ok_idxf_int, trivial⟩ trivial trivial trivial trivial) Tryz.func114 (by kernel_rfl) N_conf_int 0 [.d] (fun hwf => (conf_int_spec s pp0 (wfArg hwf (a := .d (.v (.dat (U := Un) Ty.int s))) (List.mem_of_getElem? (i := 0) rfl)))), hasBody_of Tryz.func114 (by kernel_rfl) (by kernel_rfl)⟩
  · simp at h
mutual
def splitT : Term → List Term
  | .mk op v depth at_ name kids sub type => if op = 17 ∧ kids.length = 2 then splitTs kids else [.mk op v depth at_ name kids sub type]
def splitTs : List Term → List Term
  | [] => []
  | t :: r => splitT t ++ splitTs r
end
theorem splitT_eq (t : Term) : splitT t = if t.op = 17 ∧ t.kids.length = 2 then splitTs t.kids else [t] := by cases t; simp only [splitT]; rfl
mutual
theorem splitT_len : ∀ t : Term, (splitT t).length ≤ t.sz
  | .mk op v depth at_ name kids sub type => by
    have := splitTs_len kids
    simp only [splitT, Term.sz]
    split
    · omega
    · simp
theorem splitTs_len : ∀ l : List Term, (splitTs l).length ≤ szTs l
  | [] => by simp [splitTs, szTs]
  | t :: r => by have := splitT_len t; have := splitTs_len r; simp only [splitTs, szTs, List.length_append]; omega
end
def conj_Split (t : Term) : List Term := splitT t
@[simp] theorem conj_Split_eq (t : Term) : conj_Split t = splitT t := by unfold conj_Split; rfl
def A_conj_Split (r : List Term) : List (A Un) := [.c (.ob 0 0)]
def O_conj_Split (r : List Term) : List (Ob Un) := [⟨0, Ty.term, r, none, true⟩]
def Fm_conj_Split (m : Nat) : FnC Un := fun args => match args with
  | [x0] => (dS .term x0).bind fun t => some ([t.ht < m, t.sz ≤ 2000000], A_conj_Split (conj_Split t), O_conj_Split (conj_Split t))
  | _ => none
def M_conj_Split (m : Nat) : Mc Un := mach (tbl [(46, Fm_conj_Split m)]) (tbl []) (tbl []) (tbl []) (tbl [])
def R_conj_Split (r : List Term) : RF Un := (A_conj_Split r, O_conj_Split r)
def N_conj_Split : Nat → NS := fun l => (look l []).getD ⟨[], [], [], [], []⟩
def conj_Split_fn (m : Nat) (t : Term) : Option (RF Un) := awf (M_conj_Split m) N_conj_Split (bodyOf Tryz.f46) (entry Tryz.f46.ntmps 0 [.d (.agg (enc Ty.term t))]) (retF (M_conj_Split m) Tryz.f46.results.toList [.o])
theorem conj_Split_in (m : Nat) (t : Term) : conj_Split_fn m t =
 cndO (t.op != 17)
  (some (R_conj_Split ([(Term.ids t)])))
  (cndO ((↑t.kids.length : Int) != (2 : Int))
   (some (R_conj_Split ([(Term.ids t)])))
   (obO ((0 : Int) ≤ (0 : Int) ∧ (0 : Int) < (↑t.kids.length : Int))
    (obO ((Term.ids (t.kids.getD 0 zeroTerm)).ht < m)
     (obO ((Term.ids (t.kids.getD 0 zeroTerm)).sz ≤ (2000000 : Nat))
      (obO ((0 : Int) ≤ (1 : Int) ∧ (1 : Int) < (↑t.kids.length : Int))
       (obO ((Term.ids (t.kids.getD 1 zeroTerm)).ht < m)
        (obO ((Term.ids (t.kids.getD 1 zeroTerm)).sz ≤ (2000000 : Nat))
         (obO (((conj_Split (Term.ids (t.kids.getD 0 zeroTerm))).length + (conj_Split (Term.ids (t.kids.getD 1 zeroTerm))).length) * (128 : Nat) ≤ roomB)
          (some (R_conj_Split (conj_Split (Term.ids (t.kids.getD 0 zeroTerm)) ++ conj_Split (Term.ids (t.kids.getD 1 zeroTerm))))))))))))) := by kernel_rfl
theorem conj_Split_spec (m : Nat) (t : Term) (_ht : WS .term t) (hm : t.ht < m + 1) (h : t.sz ≤ 2000000) : conj_Split_fn m t = some (R_conj_Split (conj_Split t)) := by
  rw [conj_Split_in]
  simp only [conj_Split_eq, Term.ids_eq, cndO_eq]
  conv => rhs; rw [splitT_eq]
  by_cases h1 : t.op = 17
  · by_cases h2 : t.kids.length = 2
    · obtain ⟨a, b, hab⟩ : ∃ a b, t.kids = [a, b] := by
        match hk : t.kids, h2 with
        | [a, b], _ => exact ⟨a, b, rfl⟩
      have ha : a ∈ t.kids := by rw [hab]; simp
      have hb : b ∈ t.kids := by rw [hab]; simp
      have hta := Term.ht_kid ha
      have htb := Term.ht_kid hb
      have hsz := t.sz_eq
      have hs : szTs t.kids = a.sz + b.sz := by rw [hab]; simp [szTs]
      have la := splitT_len a
      have lb := splitT_len b
      rw [if_neg (by simp [h1]), if_neg (by simp [h2]), if_pos ⟨h1, h2⟩, hab]
      have e0 : [a, b].getD 0 zeroTerm = a := rfl
      have e1 : [a, b].getD 1 zeroTerm = b := rfl
      rw [e0, e1, obO_pos (by simp), obO_pos (by omega), obO_pos (by omega), obO_pos (by simp), obO_pos (by omega), obO_pos (by omega), obO_pos (by unfold roomB; omega)]
      simp [splitTs]
    · rw [if_neg (by simp [h1]), if_pos (by simp; omega), if_neg (fun e => h2 e.2)]
  · rw [if_pos (by simpa using h1), if_neg (fun e => h1 e.1)]
theorem okm_conj_Split (m : Nat) (h_conj_Split : FnOK 46 (Fm_conj_Split m)) : FnOK 46 (Fm_conj_Split (m + 1)) := by
  intro args ob rs os h hob
  unfold Fm_conj_Split at h
  split at h
  · simp only [Option.bind_eq_some_iff, Option.some.injEq, Prod.mk.injEq] at h
    obtain ⟨t, e0, rfl, rfl, rfl⟩ := h
    obtain rfl := dS_eq e0
    exact ⟨fn_contractF (M := (M_conj_Split m)) rfl (tbl_ok (l1 := [(46, Fm_conj_Split m)]) (l2 := []) (l3 := []) (l4 := []) (l5 := []) ⟨h_conj_Split, trivial⟩ trivial trivial trivial trivial) Tryz.func46 (by kernel_rfl) N_conj_Split 0 [.o] (fun hwf => (conj_Split_spec m t (wfArg hwf (a := .d (.agg (enc Ty.term t))) (List.mem_of_getElem? (i := 0) rfl)) (hob _ (List.mem_of_getElem? (i := 0) rfl)) (hob _ (List.mem_of_getElem? (i := 1) rfl)))), hasBody_of Tryz.func46 (by kernel_rfl) (by kernel_rfl)⟩
  · simp at h
theorem okAll_splitG : ∀ m, FnOK 46 (Fm_conj_Split m)
  | 0 => by
    skip
    intro args ob rs os h hob
    unfold Fm_conj_Split at h
    split at h
    · simp only [Option.bind_eq_some_iff, Option.some.injEq, Prod.mk.injEq] at h
      obtain ⟨_, _, rfl, _, _⟩ := h
      exact absurd (hob _ (List.mem_of_getElem? (i := 0) rfl)) (Nat.not_lt_zero _)
    · simp at h
  | m + 1 => by
    have ih := okAll_splitG m
    exact okm_conj_Split m ih
def F_conj_Split : FnC Un := fun args => match args with
  | [x0] => (dS .term x0).bind fun t => some ([t.sz ≤ 2000000], A_conj_Split (conj_Split t), O_conj_Split (conj_Split t))
  | _ => none
theorem ok_conj_Split : FnOK 46 F_conj_Split := by
  intro args ob rs os h hob
  unfold F_conj_Split at h
  split at h
  · simp only [Option.bind_eq_some_iff, Option.some.injEq, Prod.mk.injEq] at h
    obtain ⟨t, e0, rfl, rfl, rfl⟩ := h
    refine ((okAll_splitG (t.ht + 1))) _ [t.ht < t.ht + 1, t.sz ≤ 2000000] _ _ (?_ : Fm_conj_Split (t.ht + 1) _ = some _) ?_
    · unfold Fm_conj_Split
      simp only [e0, Option.bind_some]
    · intro p hp
      simp only [List.mem_cons, List.not_mem_nil, or_false] at hp
      rcases hp with rfl | rfl
      · exact Nat.lt_succ_self _
      · exact hob _ (List.mem_of_getElem? (i := 0) rfl)
  · simp at h
end
end Go.Proofs.YtmpnompddfhkeaaGreat.B
namespace Go.Proofs.YtmpnompddfhkeaaGreat.B
open Go Go.RowKit
set_option maxRecDepth 100000
noncomputable section
attribute [local irreducible] awp ctxK itersK iterK retQ retGQ awf ctxF loopF
def kidsN (op : Int) : Int := if op = 1 ∨ op = 2 then 0 else if op = 3 ∨ op = 4 ∨ op = 7 ∨ op = 8 ∨ op = 12 ∨ op = 13 then 1 else if op = 5 ∨ op = 6 ∨ op = 9 ∨ op = 10 ∨ op = 11 then 2 else -1
mutual
def widthR : Rel → Int
  | .mk op _ cols kids terms aggs _ _ _ _ _ =>
    if kidsN op < 0 ∨ (kids.length : Int) < kidsN op then 0
    else if op = 1 ∨ op = 2 then cols.length
    else if op = 4 then terms.length
    else if op = 7 then IntKind.i64.wrap ((terms.length : Int) + aggs.length)
    else if op = 5 ∨ op = 6 then IntKind.i64.wrap ((widthsR kids).getD 0 0 + (widthsR kids).getD 1 0)
    else (widthsR kids).getD 0 0
def widthsR : List Rel → List Int
  | [] => []
  | r :: l => widthR r :: widthsR l
end
mutual
def joinR : Rel → Bool
  | .mk op _ _ kids _ _ _ _ _ _ _ => if op = 5 then decide (kids.length = 2) else decide (op = 3 ∧ kids.length = 1) && joinH kids
def joinH : List Rel → Bool
  | [] => false
  | r :: _ => joinR r
end
def placesR (kids : List Rel) : List Int := (List.range ((widthsR kids).getD 1 0).toNat).map fun i : Nat => IntKind.i64.wrap ((i : Int) + (widthsR kids).getD 0 0)
mutual
def leavesM (mv : Term → List Int → Term) : Rel → List Rel × List Term
  | .mk op table cols kids terms aggs keys limit skip all rows =>
    if joinR (.mk op table cols kids terms aggs keys limit skip all rows) = true then
      (if op = 5 then
        (((leavesMs mv kids).getD 0 ([], [])).1 ++ ((leavesMs mv kids).getD 1 ([], [])).1, ((leavesMs mv kids).getD 0 ([], [])).2 ++ (((leavesMs mv kids).getD 1 ([], [])).2.map fun t => mv t (placesR kids)) ++ splitTs terms)
       else (((leavesMs mv kids).getD 0 ([], [])).1, ((leavesMs mv kids).getD 0 ([], [])).2 ++ splitTs terms))
    else ([.mk op table cols kids terms aggs keys limit skip all rows], [])
def leavesMs (mv : Term → List Int → Term) : List Rel → List (List Rel × List Term)
  | [] => []
  | r :: l => leavesM mv r :: leavesMs mv l
end
mutual
theorem splitT_sz : ∀ t : Term, szTs (splitT t) ≤ t.sz
  | .mk op v depth at_ name kids sub type => by
    have := splitTs_sz kids
    simp only [splitT]
    split
    · simp only [Term.sz]; omega
    · simp only [szTs, Nat.add_zero]; exact Nat.le_refl _
theorem splitTs_sz : ∀ l : List Term, szTs (splitTs l) ≤ szTs l
  | [] => by simp [splitTs]
  | t :: r => by
    have h1 := splitT_sz t
    have h2 := splitTs_sz r
    simp only [splitTs, szTs, szTs_append]; omega
end
theorem szTs_map {f : Term → Term} (h : ∀ t, (f t).sz = t.sz) : ∀ l : List Term, szTs (l.map f) = szTs l
  | [] => rfl
  | t :: r => by simp only [List.map_cons, szTs, h, szTs_map h r]
section
variable {mv : Term → List Int → Term}
mutual
theorem leaves_sz (h : ∀ t a, (mv t a).sz = t.sz) : ∀ r : Rel, (leavesM mv r).1.length ≤ r.sz ∧ szTs (leavesM mv r).2 ≤ r.sz
  | .mk op table cols kids terms aggs keys limit skip all rows => by
    obtain ⟨k1, k2, k3, k4⟩ := leavess_sz h kids
    have k5 := splitTs_sz terms
    simp only [leavesM]
    split
    · split
      · constructor
        · simp only [List.length_append, Rel.sz]; omega
        · simp only [szTs_append, szTs_map (f := fun t => mv t (placesR kids)) (fun t => h t _), Rel.sz]; omega
      · constructor
        · simp only [Rel.sz]; omega
        · simp only [szTs_append, Rel.sz]; omega
    · constructor
      · simp only [List.length_singleton, Rel.sz]; omega
      · simp only [szTs]; omega
theorem leavess_sz (h : ∀ t a, (mv t a).sz = t.sz) : ∀ l : List Rel, ((leavesMs mv l).getD 0 ([], [])).1.length ≤ szRs l ∧ ((leavesMs mv l).getD 0 ([], [])).1.length + ((leavesMs mv l).getD 1 ([], [])).1.length ≤ szRs l ∧ szTs ((leavesMs mv l).getD 0 ([], [])).2 ≤ szRs l ∧ szTs ((leavesMs mv l).getD 0 ([], [])).2 + szTs ((leavesMs mv l).getD 1 ([], [])).2 ≤ szRs l
  | [] => by simp [leavesMs, szTs]
  | r :: l => by
    obtain ⟨h1, h2⟩ := leaves_sz h r
    obtain ⟨k1, _, k3, _⟩ := leavess_sz h l
    simp only [leavesMs, List.getD_cons_zero, List.getD_cons_succ, szRs]
    omega
end
end
mutual
theorem mapT_sz (p : Term → Int → Term) : ∀ (t : Term) (d : Int), (mapT p d t).sz = t.sz
  | .mk op v depth at_ name kids sub type, d => by
    simp only [mapT, Term.sz]
    rw [mapTs_sz p kids d, mapRs_sz p sub (d + 1)]
theorem mapTs_sz (p : Term → Int → Term) : ∀ (l : List Term) (d : Int), szTs (mapTs p d l) = szTs l
  | [], _ => rfl
  | t :: r, d => by simp only [mapTs, szTs]; rw [mapT_sz p t d, mapTs_sz p r d]
theorem mapA_sz (p : Term → Int → Term) : ∀ (a : Agg) (d : Int), (mapA p d a).sz = a.sz
  | .mk name distinct t, d => by simp only [mapA, Agg.sz]; rw [mapTs_sz p t d]
theorem mapAs_sz (p : Term → Int → Term) : ∀ (l : List Agg) (d : Int), szAs (mapAs p d l) = szAs l
  | [], _ => rfl
  | t :: r, d => by simp only [mapAs, szAs]; rw [mapA_sz p t d, mapAs_sz p r d]
theorem mapR_sz (p : Term → Int → Term) : ∀ (r : Rel) (d : Int), (mapR p d r).sz = r.sz
  | .mk op table cols kids terms aggs keys limit skip all rows, d => by
    simp only [mapR, Rel.sz]
    rw [mapRs_sz p kids d, mapTs_sz p terms d, mapAs_sz p aggs d]
theorem mapRs_sz (p : Term → Int → Term) : ∀ (l : List Rel) (d : Int), szRs (mapRs p d l) = szRs l
  | [], _ => rfl
  | t :: r, d => by simp only [mapRs, szRs]; rw [mapR_sz p t d, mapRs_sz p r d]
end
mutual
def DT : Term → Prop
  | .mk _ _ depth _ _ kids sub _ => WI depth ∧ DTs kids ∧ DRs sub
def DTs : List Term → Prop
  | [] => True
  | t :: r => DT t ∧ DTs r
def DA : Agg → Prop
  | .mk _ _ t => DTs t
def DAs : List Agg → Prop
  | [] => True
  | t :: r => DA t ∧ DAs r
def DR : Rel → Prop
  | .mk _ _ _ kids terms aggs _ _ _ _ _ => DRs kids ∧ DTs terms ∧ DAs aggs
def DRs : List Rel → Prop
  | [] => True
  | t :: r => DR t ∧ DRs r
end
mutual
theorem DT_of : ∀ t : Term, WS .term t → DT t
  | .mk op v depth at_ name kids sub type, h => by
    have hk : WL .term kids := h.term_kids
    have hs : WL .rel sub := h.term_sub
    exact ⟨h.term_depth, DTs_of kids hk, DRs_of sub hs⟩
theorem DTs_of : ∀ l : List Term, WL .term l → DTs l
  | [], _ => trivial
  | t :: r, h => ⟨DT_of t (h.get List.mem_cons_self), DTs_of r (h.drop 1)⟩
theorem DA_of : ∀ a : Agg, WS .agg a → DA a
  | .mk name distinct t, h => by
    have hk : WL .term t := h.agg_t
    exact DTs_of t hk
theorem DAs_of : ∀ l : List Agg, WL .agg l → DAs l
  | [], _ => trivial
  | t :: r, h => ⟨DA_of t (h.get List.mem_cons_self), DAs_of r (h.drop 1)⟩
theorem DR_of : ∀ r : Rel, WS .rel r → DR r
  | .mk op table cols kids terms aggs keys limit skip all rows, h => by
    have hk : WL .rel kids := h.rel_kids
    have ht : WL .term terms := h.rel_terms
    have ha : WL .agg aggs := h.rel_aggs
    exact ⟨DRs_of kids hk, DTs_of terms ht, DAs_of aggs ha⟩
theorem DRs_of : ∀ l : List Rel, WL .rel l → DRs l
  | [], _ => trivial
  | t :: r, h => ⟨DR_of t (h.get List.mem_cons_self), DRs_of r (h.drop 1)⟩
end
mutual
theorem DT_map (p : Term → Int → Term) : ∀ (t : Term) (d : Int), DT t → DT (mapT p d t)
  | .mk op v depth at_ name kids sub type, d, h => by
    obtain ⟨h1, h2, h3⟩ := h
    simp only [mapT]
    exact ⟨h1, DTs_map p kids d h2, DRs_map p sub (d + 1) h3⟩
theorem DTs_map (p : Term → Int → Term) : ∀ (l : List Term) (d : Int), DTs l → DTs (mapTs p d l)
  | [], _, _ => trivial
  | t :: r, d, h => ⟨DT_map p t d h.1, DTs_map p r d h.2⟩
theorem DA_map (p : Term → Int → Term) : ∀ (a : Agg) (d : Int), DA a → DA (mapA p d a)
  | .mk name distinct t, d, h => by
    have h' : DTs t := h
    simp only [mapA]
    exact DTs_map p t d h'
theorem DAs_map (p : Term → Int → Term) : ∀ (l : List Agg) (d : Int), DAs l → DAs (mapAs p d l)
  | [], _, _ => trivial
  | t :: r, d, h => ⟨DA_map p t d h.1, DAs_map p r d h.2⟩
theorem DR_map (p : Term → Int → Term) : ∀ (r : Rel) (d : Int), DR r → DR (mapR p d r)
  | .mk op table cols kids terms aggs keys limit skip all rows, d, h => by
    obtain ⟨h1, h2, h3⟩ := h
    simp only [mapR]
    exact ⟨DRs_map p kids d h1, DTs_map p terms d h2, DAs_map p aggs d h3⟩
theorem DRs_map (p : Term → Int → Term) : ∀ (l : List Rel) (d : Int), DRs l → DRs (mapRs p d l)
  | [], _, _ => trivial
  | t :: r, d, h => ⟨DR_map p t d h.1, DRs_map p r d h.2⟩
end
theorem DTs_append : ∀ {a b : List Term}, DTs a → DTs b → DTs (a ++ b)
  | [], _, _, h => h
  | _ :: _, _, h, h2 => ⟨h.1, DTs_append h.2 h2⟩
mutual
theorem DT_split : ∀ t : Term, DT t → DTs (splitT t)
  | .mk op v depth at_ name kids sub type, h => by
    simp only [splitT]
    split
    · exact DTs_split kids h.2.1
    · exact ⟨h, trivial⟩
theorem DTs_split : ∀ l : List Term, DTs l → DTs (splitTs l)
  | [], _ => trivial
  | t :: r, h => by
    simp only [splitTs]
    exact DTs_append (DT_split t h.1) (DTs_split r h.2)
end
def ShD (p q : Term → Int → Term) (D : Int) : Prop := ∀ (c : Term) (d : Int), WI c.depth → 0 ≤ d → d ≤ 3000000 → (p c d).at_ = (q c (D + d)).at_
section
variable {p q : Term → Int → Term} {D : Int}
mutual
theorem shDT (H : ShD p q D) : ∀ (t : Term) (d : Int), DT t → 0 ≤ d → d + t.sz ≤ 3000000 → mapT p d t = mapT q (D + d) t
  | .mk op v depth at_ name kids sub type, d, hw, h0, h1 => by
    obtain ⟨g1, g2, g3⟩ := hw
    simp only [Term.sz] at h1
    have e1 := H (.mk op v depth at_ name kids sub type) d g1 h0 (by omega)
    simp only [mapT]
    rw [e1, shDTs H kids d g2 h0 (by omega), shDRs H sub (d + 1) g3 (by omega) (by omega), Int.add_assoc]
theorem shDTs (H : ShD p q D) : ∀ (l : List Term) (d : Int), DTs l → 0 ≤ d → d + szTs l ≤ 3000000 → mapTs p d l = mapTs q (D + d) l
  | [], _, _, _, _ => rfl
  | t :: r, d, hw, h0, h1 => by
    simp only [szTs] at h1
    simp only [mapTs]
    rw [shDT H t d hw.1 h0 (by omega), shDTs H r d hw.2 h0 (by omega)]
theorem shDA (H : ShD p q D) : ∀ (a : Agg) (d : Int), DA a → 0 ≤ d → d + a.sz ≤ 3000000 → mapA p d a = mapA q (D + d) a
  | .mk name distinct t, d, hw, h0, h1 => by
    have hk : DTs t := hw
    simp only [Agg.sz] at h1
    simp only [mapA]
    rw [shDTs H t d hk h0 (by omega)]
theorem shDAs (H : ShD p q D) : ∀ (l : List Agg) (d : Int), DAs l → 0 ≤ d → d + szAs l ≤ 3000000 → mapAs p d l = mapAs q (D + d) l
  | [], _, _, _, _ => rfl
  | t :: r, d, hw, h0, h1 => by
    simp only [szAs] at h1
    simp only [mapAs]
    rw [shDA H t d hw.1 h0 (by omega), shDAs H r d hw.2 h0 (by omega)]
theorem shDR (H : ShD p q D) : ∀ (r : Rel) (d : Int), DR r → 0 ≤ d → d + r.sz ≤ 3000000 → mapR p d r = mapR q (D + d) r
  | .mk op table cols kids terms aggs keys limit skip all rows, d, hw, h0, h1 => by
    obtain ⟨g1, g2, g3⟩ := hw
    simp only [Rel.sz] at h1
    simp only [mapR]
    rw [shDRs H kids d g1 h0 (by omega), shDTs H terms d g2 h0 (by omega), shDAs H aggs d g3 h0 (by omega)]
theorem shDRs (H : ShD p q D) : ∀ (l : List Rel) (d : Int), DRs l → 0 ≤ d → d + szRs l ≤ 3000000 → mapRs p d l = mapRs q (D + d) l
  | [], _, _, _, _ => rfl
  | t :: r, d, hw, h0, h1 => by
    simp only [szRs] at h1
    simp only [mapRs]
    rw [shDR H t d hw.1 h0 (by omega), shDRs H r d hw.2 h0 (by omega)]
end
end
theorem DTs_mem : ∀ {l : List Term}, DTs l → ∀ t ∈ l, DT t
  | x :: l, h, t, ht => by
    rcases List.mem_cons.1 ht with rfl | ht
    · exact h.1
    · exact DTs_mem h.2 t ht
theorem DTs_mapd {f : Term → Term} (h : ∀ t, DT t → DT (f t)) : ∀ {l : List Term}, DTs l → DTs (l.map f)
  | [], _ => trivial
  | _ :: _, g => ⟨h _ g.1, DTs_mapd h g.2⟩
section
variable {ma mb : Term → List Int → Term} {B : Nat}
mutual
theorem leaves_eq (H : ∀ t a, DT t → t.sz ≤ B → ma t a = mb t a) (hD : ∀ t a, DT t → DT (mb t a)) (hs : ∀ t a, (mb t a).sz = t.sz) : ∀ r : Rel, DR r → r.sz ≤ B → leavesM ma r = leavesM mb r ∧ DTs (leavesM mb r).2
  | .mk op table cols kids terms aggs keys limit skip all rows, hd, hb => by
    obtain ⟨g1, g2, _⟩ := hd
    simp only [Rel.sz] at hb
    obtain ⟨e, k0, k1⟩ := leavess_eq H hD hs kids g1 (by omega)
    obtain ⟨_, _, s3, s4⟩ := leavess_sz (mv := mb) hs kids
    have gs := DTs_split terms g2
    simp only [leavesM]
    rw [e]
    have em : ((leavesMs mb kids).getD 1 ([], [])).2.map (fun t => ma t (placesR kids)) = ((leavesMs mb kids).getD 1 ([], [])).2.map (fun t => mb t (placesR kids)) := by
      refine List.map_congr_left fun t ht => H t _ (DTs_mem k1 t ht) ?_
      have := szTs_mem ht
      omega
    rw [em]
    refine ⟨rfl, ?_⟩
    split
    · split
      · exact DTs_append (DTs_append k0 (DTs_mapd (fun t ht => hD t _ ht) k1)) gs
      · exact DTs_append k0 gs
    · trivial
theorem leavess_eq (H : ∀ t a, DT t → t.sz ≤ B → ma t a = mb t a) (hD : ∀ t a, DT t → DT (mb t a)) (hs : ∀ t a, (mb t a).sz = t.sz) : ∀ l : List Rel, DRs l → szRs l ≤ B → leavesMs ma l = leavesMs mb l ∧ DTs ((leavesMs mb l).getD 0 ([], [])).2 ∧ DTs ((leavesMs mb l).getD 1 ([], [])).2
  | [], _, _ => ⟨rfl, trivial, trivial⟩
  | r :: l, hd, hb => by
    simp only [szRs] at hb
    obtain ⟨e1, k1⟩ := leaves_eq H hD hs r hd.1 (by omega)
    obtain ⟨e2, k2, _⟩ := leavess_eq H hD hs l hd.2 (by omega)
    simp only [leavesMs]
    rw [e1, e2]
    exact ⟨rfl, k1, k2⟩
end
end
mutual
def csR : Rel → Nat
  | .mk _ _ cols kids terms aggs _ _ _ _ _ => cols.length + terms.length + aggs.length + csRs kids
def csRs : List Rel → Nat
  | [] => 0
  | r :: l => csR r + csRs l
end
mutual
theorem width_cs : ∀ r : Rel, csR r ≤ 2000000 → 0 ≤ widthR r ∧ widthR r ≤ csR r
  | .mk op table cols kids terms aggs keys limit skip all rows, h => by
    simp only [csR] at h
    obtain ⟨k1, k2, k3, k4, k5⟩ := widths_cs kids (by omega)
    simp only [widthR, csR]
    split
    · omega
    · split
      · omega
      · split
        · omega
        · split
          · rw [wrap_id (by omega)]; omega
          · split
            · rw [wrap_id (by omega)]; omega
            · omega
theorem widths_cs : ∀ l : List Rel, csRs l ≤ 2000000 → 0 ≤ (widthsR l).getD 0 0 ∧ 0 ≤ (widthsR l).getD 1 0 ∧ (widthsR l).getD 0 0 ≤ csRs l ∧ (widthsR l).getD 1 0 ≤ csRs l ∧ (widthsR l).getD 0 0 + (widthsR l).getD 1 0 ≤ csRs l
  | [], _ => by simp [widthsR, csRs]
  | r :: l, h => by
    simp only [csRs] at h
    obtain ⟨h1, h2⟩ := width_cs r (by omega)
    obtain ⟨k1, _, k3, _, _⟩ := widths_cs l (by omega)
    simp only [widthsR, List.getD_cons_zero, List.getD_cons_succ, csRs]
    omega
end
theorem widthR_eq (r : Rel) : widthR r = if kidsN r.op < 0 ∨ (r.kids.length : Int) < kidsN r.op then 0 else if r.op = 1 ∨ r.op = 2 then (r.cols.length : Int) else if r.op = 4 then (r.terms.length : Int) else if r.op = 7 then IntKind.i64.wrap ((r.terms.length : Int) + r.aggs.length) else if r.op = 5 ∨ r.op = 6 then IntKind.i64.wrap ((widthsR r.kids).getD 0 0 + (widthsR r.kids).getD 1 0) else (widthsR r.kids).getD 0 0 := by cases r; simp only [widthR]; rfl
theorem widthsR_get : ∀ (l : List Rel) (i : Nat), i < l.length → (widthsR l).getD i 0 = widthR (l.getD i zeroRel)
  | r :: l, 0, _ => rfl
  | r :: l, i + 1, h => by
    simp only [widthsR, List.getD_cons_succ]
    exact widthsR_get l i (by simpa using h)
theorem leavesMs_get (mv : Term → List Int → Term) : ∀ (l : List Rel) (i : Nat), i < l.length → (leavesMs mv l).getD i ([], []) = leavesM mv (l.getD i zeroRel)
  | r :: l, 0, _ => rfl
  | r :: l, i + 1, h => by
    simp only [leavesMs, List.getD_cons_succ]
    exact leavesMs_get mv l i (by simpa using h)
end
end Go.Proofs.YtmpnompddfhkeaaGreat.B
namespace Go.Proofs.YtmpnompddfhkeaaGreat.B
open Go Go.RowKit
set_option linter.unusedVariables false
theorem BKS.cons_inv {v : V Un} {vs : List (V Un)} {n : Nat} (h : BKS (v :: vs) n) : ∃ a b, BK v a ∧ BKS vs b ∧ a + b ≤ n := by
  cases h with
  | cons _ _ a b _ h1 h2 hn => exact ⟨a, b, h1, h2, hn⟩
theorem BKL.cons_inv {τ : Ty} {x : Den τ} {xs : List (Den τ)} {n : Nat} (h : BKL τ (x :: xs) n) : ∃ a b, BKS (enc τ x) a ∧ BKL τ xs b ∧ a + 1 + b ≤ n := by
  cases h with
  | cons _ _ _ a b _ h1 h2 hn => exact ⟨a, b, h1, h2, hn⟩
theorem BK.dat_inv {τ : Ty} {xs : List (Den τ)} {n : Nat} (h : BK (.dat (U := Un) τ xs) n) : BKL τ xs n := by
  cases h with
  | dat _ _ _ h => exact h
theorem BKL.len {τ : Ty} : ∀ {xs : List (Den τ)} {n : Nat}, BKL τ xs n → xs.length ≤ n
  | [], _, _ => Nat.zero_le _
  | x :: xs, n, h => by
    obtain ⟨a, b, _, h2, hn⟩ := h.cons_inv
    have := BKL.len h2
    rw [List.length_cons]; omega
mutual
theorem bkT : ∀ (t : Term) (n : Nat), BKS (enc .term t) n → t.sz ≤ n + 1
  | .mk op v depth at_ name kids sub type, n, h => by
    obtain ⟨_, _, _, h, _⟩ := h.cons_inv
    obtain ⟨_, _, _, h, _⟩ := h.cons_inv
    obtain ⟨_, _, _, h, _⟩ := h.cons_inv
    obtain ⟨_, _, _, h, _⟩ := h.cons_inv
    obtain ⟨_, _, _, h, _⟩ := h.cons_inv
    obtain ⟨_, _, _, h, _⟩ := h.cons_inv
    obtain ⟨_, _, _, h, _⟩ := h.cons_inv
    obtain ⟨_, _, k1, h, _⟩ := h.cons_inv
    obtain ⟨_, _, k2, _, _⟩ := h.cons_inv
    have e1 := bkTs kids _ k1.dat_inv
    have e2 := bkRs sub _ k2.dat_inv
    simp only [Term.sz]; omega
theorem bkTs : ∀ (l : List Term) (n : Nat), BKL .term l n → szTs l ≤ n
  | [], _, _ => Nat.zero_le _
  | t :: r, n, h => by
    obtain ⟨_, _, h1, h2, _⟩ := h.cons_inv
    have e1 := bkT t _ h1
    have e2 := bkTs r _ h2
    simp only [szTs]; omega
theorem bkA : ∀ (a : Agg) (n : Nat), BKS (enc .agg a) n → a.sz ≤ n + 1
  | .mk name distinct t, n, h => by
    obtain ⟨_, _, _, h, _⟩ := h.cons_inv
    obtain ⟨_, _, _, h, _⟩ := h.cons_inv
    obtain ⟨_, _, k1, _, _⟩ := h.cons_inv
    have e1 := bkTs t _ k1.dat_inv
    simp only [Agg.sz]; omega
theorem bkAs : ∀ (l : List Agg) (n : Nat), BKL .agg l n → szAs l ≤ n
  | [], _, _ => Nat.zero_le _
  | t :: r, n, h => by
    obtain ⟨_, _, h1, h2, _⟩ := h.cons_inv
    have e1 := bkA t _ h1
    have e2 := bkAs r _ h2
    simp only [szAs]; omega
theorem bkR : ∀ (r : Rel) (n : Nat), BKS (enc .rel r) n → r.sz ≤ n + 1
  | .mk op table cols kids terms aggs keys limit skip all rows, n, h => by
    obtain ⟨_, _, _, h, _⟩ := h.cons_inv
    obtain ⟨_, _, _, h, _⟩ := h.cons_inv
    obtain ⟨_, _, _, h, _⟩ := h.cons_inv
    obtain ⟨_, _, k1, h, _⟩ := h.cons_inv
    obtain ⟨_, _, k2, h, _⟩ := h.cons_inv
    obtain ⟨_, _, k3, h, _⟩ := h.cons_inv
    obtain ⟨_, _, _, h, _⟩ := h.cons_inv
    obtain ⟨_, _, _, h, _⟩ := h.cons_inv
    obtain ⟨_, _, _, h, _⟩ := h.cons_inv
    obtain ⟨_, _, _, h, _⟩ := h.cons_inv
    obtain ⟨_, _, k4, _, _⟩ := h.cons_inv
    have e1 := bkRs kids _ k1.dat_inv
    have e2 := bkTs terms _ k2.dat_inv
    have e3 := bkAs aggs _ k3.dat_inv
    have e4 : (rows : List (List Val)).length ≤ _ := (BK.dat_inv k4).len
    simp only [Rel.sz]; omega
theorem bkRs : ∀ (l : List Rel) (n : Nat), BKL .rel l n → szRs l ≤ n
  | [], _, _ => Nat.zero_le _
  | t :: r, n, h => by
    obtain ⟨_, _, h1, h2, _⟩ := h.cons_inv
    have e1 := bkR t _ h1
    have e2 := bkRs r _ h2
    simp only [szRs]; omega
end
mutual
theorem bkC : ∀ (r : Rel) (n : Nat), BKS (enc .rel r) n → csR r ≤ n
  | .mk op table cols kids terms aggs keys limit skip all rows, n, h => by
    obtain ⟨_, _, _, h, _⟩ := h.cons_inv
    obtain ⟨_, _, _, h, _⟩ := h.cons_inv
    obtain ⟨_, _, k0, h, _⟩ := h.cons_inv
    obtain ⟨_, _, k1, h, _⟩ := h.cons_inv
    obtain ⟨_, _, k2, h, _⟩ := h.cons_inv
    obtain ⟨_, _, k3, h, _⟩ := h.cons_inv
    have e0 : (cols : List Col).length ≤ _ := (BK.dat_inv k0).len
    have e1 := bkCs kids _ k1.dat_inv
    have e2 : (terms : List Term).length ≤ _ := (BK.dat_inv k2).len
    have e3 : (aggs : List Agg).length ≤ _ := (BK.dat_inv k3).len
    simp only [csR]; omega
theorem bkCs : ∀ (l : List Rel) (n : Nat), BKL .rel l n → csRs l ≤ n
  | [], _, _ => Nat.zero_le _
  | t :: r, n, h => by
    obtain ⟨_, _, h1, h2, _⟩ := h.cons_inv
    have e1 := bkC t _ h1
    have e2 := bkCs r _ h2
    simp only [csRs]; omega
end
end Go.Proofs.YtmpnompddfhkeaaGreat.B
