/- Part 26 of the proof: Spush5. -/
import Derived.Test.YtolbngdhgcbmgaaGreatPonce25
namespace Go.Proofs.YtolbngdhgcbmgaaGreat.B
open Go Go.RowKit
set_option maxRecDepth 100000
noncomputable section
attribute [local irreducible] awp ctxK itersK iterK retQ retGQ awf ctxF loopF
def mapO {α β:Type} (f:α→Option β) : List α→Option (List β)
  | []=>some []
  | x::l=>match f x with
    | some y=>match mapO f l with
      | some r=>some (y::r)
      | none=>none
    | none=>none
theorem mapO_cons {α β:Type} {f:α→Option β} {x:α} {l:List α} {s:List β} (h:mapO f (x::l)=some s) : ∃ y r,f x=some y∧mapO f l=some r∧s=y::r:=by
  simp only[mapO] at h
  split at h
  · rename_i y hy
    split at h
    · rename_i r hr;exact⟨y,r,hy,hr,(Option.some.inj h).symm⟩
    · simp at h
  · simp at h
theorem mapO_mono {α β:Type} {f g:α→Option β} (h:∀ x y,f x=some y→g x=some y) : ∀ (l:List α) (s:List β),mapO f l=some s→mapO g l=some s
  | [],s,e=>e
  | x::l,s,e=>by
    obtain⟨y,r,h1,h2,rfl⟩:=mapO_cons e
    simp only[mapO,h x y h1,mapO_mono h l r h2]
theorem mapO_mem {α β:Type} {f:α→Option β} : ∀ {l:List α} {s:List β},mapO f l=some s→∀ x∈l,∃ y,f x=some y
  | [],_,_,x,hx=>absurd hx List.not_mem_nil
  | a::l,s,e,x,hx=>by
    obtain⟨y,r,h1,h2,rfl⟩:=mapO_cons e
    rcases List.mem_cons.1 hx with rfl | hx
    · exact⟨y,h1⟩
    · exact mapO_mem h2 x hx
theorem mapO_map {α β:Type} {f:α→Option β} {g:α→β} : ∀ {l:List α} {s:List β},mapO f l=some s→(∀ x∈l,∀ y,f x=some y→g x=y)→l.map g=s
  | [],s,e,_=>Option.some.inj e
  | a::l,s,e,h=>by
    obtain⟨y,r,h1,h2,rfl⟩:=mapO_cons e
    rw[List.map_cons,h a List.mem_cons_self y h1,mapO_map h2 fun x hx=>h x (List.mem_cons_of_mem _ hx)]
def mapL {α β:Type} (f:α→Option β) (l:List α) : Option (List β):=if l.length≤1000000000 then mapO f l else none
theorem mapL_some {α β:Type} {f:α→Option β} {l:List α} {s:List β} (h:mapL f l=some s) : l.length≤1000000000∧mapO f l=some s:=by
  unfold mapL at h
  split at h
  · rename_i hl;exact⟨hl,h⟩
  · simp at h
theorem mapL_mono {α β:Type} {f g:α→Option β} (h:∀ x y,f x=some y→g x=some y) {l:List α} {s:List β} (e:mapL f l=some s) : mapL g l=some s:=by
  obtain⟨h1,h2⟩:=mapL_some e
  unfold mapL
  rw[if_pos h1];exact mapO_mono h l s h2
def ruleK (op:Int) (t:Term) (q:Rel) : Bool :=
  decide (t.sz≤2000000∧(op=3→q.kids.length=1∧q.terms.length=1∧(q.terms.getD 0 zeroTerm).sz≤2000000)∧(op=5→t.sz≤2000000∧q.kids.length=2∧(0≤joinW q∧joinW q≤2000000)∧(q.terms.getD 0 zeroTerm).sz≤2000000)∧(op=6→q.kids.length=2)∧(op=4∨op=7→q.kids.length=1)∧q.kids.length≤2000000)
theorem ruleK_ok {op:Int} {t:Term} {q:Rel} (h:ruleK op t q=true) : ruleOK op t q:=by
  unfold ruleK at h
  rw[decide_eq_true_eq] at h
  obtain⟨h1,h2,h3,h4,h5,h6⟩:=h
  exact⟨h1,h2,h3,h4,h5,h6⟩
def onceK (r:Rel) : Bool:=!(decide (r.op=3∧r.kids.length=1∧r.terms.length=1)) || ruleK (r.kids.getD 0 zeroRel).op (r.terms.getD 0 zeroTerm) (r.kids.getD 0 zeroRel)
theorem onceK_ok {r:Rel} (h:onceK r=true) : onceOK r:=by
  intro h1 h2 h3 _
  unfold onceK at h
  rw[decide_eq_true ⟨h1,h2,h3⟩,Bool.not_true,Bool.false_or] at h
  exact ruleK_ok h
def aggS (f:Term→Option Term) (a:Agg) : Option Agg:=match mapL f a.t with
  | some ts=>some (.mk a.name a.distinct ts)
  | none=>none
def relW (r:Rel) (ks:List Rel) (ts:List Term) (gs:List Agg) : Rel:=.mk r.op r.table r.cols ks ts gs r.keys r.limit r.skip r.all r.rows
def relS (f:Rel→Option Rel) (g:Term→Option Term) (r:Rel) : Option Rel:=match mapL f r.kids with
  | none=>none
  | some ks=>match mapL g r.terms with
    | none=>none
    | some ts=>match mapL (aggS g) r.aggs with
      | none=>none
      | some gs=>if onceK (relW r ks ts gs)=true then (if (pushOnce (relW r ks ts gs)).2=true then f (pushOnce (relW r ks ts gs)).1 else some (relW r ks ts gs)) else none
def termW (t:Term) (ks:List Term) (ss:List Rel) : Term:=.mk t.op t.v t.depth t.at_ t.name ks ss t.type
def termS (f:Rel→Option Rel) (g:Term→Option Term) (t:Term) : Option Term:=match mapL g t.kids with
  | none=>none
  | some ks=>match mapL f t.sub with
    | none=>none
    | some ss=>some (termW t ks ss)
def pF : Nat→(Rel→Option Rel)×(Term→Option Term)
  | 0=>(fun _=>none,fun _=>none)
  | n+1=>(relS (pF n).1 (pF n).2,termS (pF n).1 (pF n).2)
theorem relS_some {f:Rel→Option Rel} {g:Term→Option Term} {r s:Rel} (h:relS f g r=some s) : ∃ ks ts gs,mapL f r.kids=some ks∧mapL g r.terms=some ts∧mapL (aggS g) r.aggs=some gs∧onceK (relW r ks ts gs)=true ∧
    (if (pushOnce (relW r ks ts gs)).2=true then f (pushOnce (relW r ks ts gs)).1 else some (relW r ks ts gs))=some s:=by
  unfold relS at h
  split at h
  · simp at h
  rename_i ks h1
  split at h
  · simp at h
  rename_i ts h2
  split at h
  · simp at h
  rename_i gs h3
  split at h
  · rename_i h4;exact⟨ks,ts,gs,h1,h2,h3,h4,h⟩
  · simp at h
theorem termS_some {f:Rel→Option Rel} {g:Term→Option Term} {t s:Term} (h:termS f g t=some s) : ∃ ks ss,mapL g t.kids=some ks∧mapL f t.sub=some ss∧s=termW t ks ss:=by
  unfold termS at h
  split at h
  · simp at h
  rename_i ks h1
  split at h
  · simp at h
  rename_i ss h2
  exact⟨ks,ss,h1,h2,(Option.some.inj h).symm⟩
theorem aggS_mono {f g:Term→Option Term} (h:∀ x y,f x=some y→g x=some y) (a b:Agg) (e:aggS f a=some b) : aggS g a=some b:=by
  unfold aggS at e ⊢
  split at e
  · rename_i ts h1;rw[mapL_mono h h1];exact e
  · simp at e
theorem relS_mono {f f':Rel→Option Rel} {g g':Term→Option Term} (hf:∀ x y,f x=some y→f' x=some y) (hg:∀ x y,g x=some y→g' x=some y) (r s:Rel) (e:relS f g r=some s) : relS f' g' r=some s:=by
  obtain⟨ks,ts,gs,h1,h2,h3,h4,h5⟩:=relS_some e
  unfold relS
  rw[mapL_mono hf h1,mapL_mono hg h2,mapL_mono (aggS_mono hg) h3]
  simp only[if_pos h4]
  by_cases hc : (pushOnce (relW r ks ts gs)).2=true
  · rw[if_pos hc] at h5 ⊢;exact hf _ _ h5
  · rw[if_neg hc] at h5 ⊢;exact h5
theorem termS_mono {f f':Rel→Option Rel} {g g':Term→Option Term} (hf:∀ x y,f x=some y→f' x=some y) (hg:∀ x y,g x=some y→g' x=some y) (t s:Term) (e:termS f g t=some s) : termS f' g' t=some s:=by
  obtain⟨ks,ss,h1,h2,rfl⟩:=termS_some e
  unfold termS
  rw[mapL_mono hg h1,mapL_mono hf h2]
theorem pF_step : ∀ n,(∀ r s,(pF n).1 r=some s→(pF (n+1)).1 r=some s)∧∀ t s,(pF n).2 t=some s→(pF (n+1)).2 t=some s
  | 0=>⟨fun _ _ h=>by simp [pF] at h,fun _ _ h=>by simp [pF] at h⟩
  | n+1=>⟨fun r s h=>relS_mono (pF_step n).1 (pF_step n).2 r s h,fun t s h=>termS_mono (pF_step n).1 (pF_step n).2 t s h⟩
theorem pF_mono {n:Nat} : ∀ k,(∀ r s,(pF n).1 r=some s→(pF (n+k)).1 r=some s)∧∀ t s,(pF n).2 t=some s→(pF (n+k)).2 t=some s
  | 0=>⟨fun _ _ h=>h,fun _ _ h=>h⟩
  | k+1=>⟨fun r s h=>(pF_step (n+k)).1 r s ((pF_mono k).1 r s h),fun t s h=>(pF_step (n+k)).2 t s ((pF_mono k).2 t s h)⟩
theorem pF_le {n m:Nat} (h:n≤m) : (∀ r s,(pF n).1 r=some s→(pF m).1 r=some s)∧∀ t s,(pF n).2 t=some s→(pF m).2 t=some s:=by
  obtain⟨k,rfl⟩ : ∃ k,m=n+k:=⟨m - n,by omega⟩
  exact pF_mono k
noncomputable def least (P:Nat→Prop) : Nat:=@Classical.epsilon Nat ⟨0⟩ fun n=>P n∧∀ k,P k→n≤k
theorem least_ex {P:Nat→Prop} : ∀ n,P n→∃ n,P n∧∀ k,P k→n≤k:=by
  intro n
  induction n using Nat.strongRecOn with
  | ind n ih =>
    intro h
    by_cases hk : ∃ k,k<n∧P k
    · obtain⟨k,h1,h2⟩:=hk;exact ih k h1 h2
    · exact⟨n,h,fun k hp=>by
        rcases Nat.lt_or_ge k n with g | g
        · exact (hk ⟨k,g,hp⟩).elim
        · exact g⟩
theorem least_ok {P:Nat→Prop} (h:∃ n,P n) : P (least P)∧∀ k,P k→least P≤k:=by
  obtain⟨n,hn⟩:=h
  exact @Classical.epsilon_spec Nat (fun n=>P n∧∀ k,P k→n≤k) (least_ex n hn)
def hasR (r:Rel) (n:Nat) : Prop:=∃ s,(pF n).1 r=some s
def hasT (t:Term) (n:Nat) : Prop:=∃ s,(pF n).2 t=some s
def hasRs (l:List Rel) (n:Nat) : Prop:=∃ s,mapL (pF n).1 l=some s
def hasTs (l:List Term) (n:Nat) : Prop:=∃ s,mapL (pF n).2 l=some s
def relD (r:Rel) : Prop:=∃ n,hasR r n
def relsD (l:List Rel) : Prop:=∃ n,hasRs l n
def termD (t:Term) : Prop:=∃ n,hasT t n
def termsD (l:List Term) : Prop:=∃ n,hasTs l n
noncomputable def mR (r:Rel) : Nat:=2*least (hasR r)
noncomputable def mRs (l:List Rel) : Nat:=2*least (hasRs l)+1
noncomputable def mT (t:Term) : Nat:=2*least (hasT t)
noncomputable def mTs (l:List Term) : Nat:=2*least (hasTs l)+1
noncomputable def push_Rel (r:Rel) : Rel:=((pF (least (hasR r))).1 r).getD r
noncomputable def push_rels (l:List Rel) : List Rel:=(mapL (pF (least (hasRs l))).1 l).getD l
noncomputable def push_term (t:Term) : Term:=((pF (least (hasT t))).2 t).getD t
noncomputable def push_terms (l:List Term) : List Term:=(mapL (pF (least (hasTs l))).2 l).getD l
theorem push_Rel_of {r s:Rel} {n:Nat} (h:(pF n).1 r=some s) : push_Rel r=s∧relD r∧mR r≤2*n:=by
  obtain⟨⟨s',h1⟩,h2⟩:=least_ok (P:=hasR r) ⟨n,s,h⟩
  have h3:=h2 n ⟨s,h⟩
  have h4:=(pF_le h3).1 r s' h1
  rw[h] at h4
  refine⟨?_,⟨n,s,h⟩,by unfold mR;omega⟩
  unfold push_Rel
  rw[h1,Option.getD_some];exact (Option.some.inj h4).symm
theorem push_term_of {t s:Term} {n:Nat} (h:(pF n).2 t=some s) : push_term t=s∧termD t∧mT t≤2*n:=by
  obtain⟨⟨s',h1⟩,h2⟩:=least_ok (P:=hasT t) ⟨n,s,h⟩
  have h3:=h2 n ⟨s,h⟩
  have h4:=(pF_le h3).2 t s' h1
  rw[h] at h4
  refine⟨?_,⟨n,s,h⟩,by unfold mT;omega⟩
  unfold push_term
  rw[h1,Option.getD_some];exact (Option.some.inj h4).symm
theorem push_rels_of {l s:List Rel} {n:Nat} (h:mapL (pF n).1 l=some s) : push_rels l=s∧relsD l∧mRs l≤2*n+1:=by
  obtain⟨⟨s',h1⟩,h2⟩:=least_ok (P:=hasRs l) ⟨n,s,h⟩
  have h3:=h2 n ⟨s,h⟩
  have h4:=mapL_mono (pF_le h3).1 h1
  rw[h] at h4
  refine⟨?_,⟨n,s,h⟩,by unfold mRs;omega⟩
  unfold push_rels
  rw[h1,Option.getD_some];exact (Option.some.inj h4).symm
theorem push_terms_of {l s:List Term} {n:Nat} (h:mapL (pF n).2 l=some s) : push_terms l=s∧termsD l∧mTs l≤2*n+1:=by
  obtain⟨⟨s',h1⟩,h2⟩:=least_ok (P:=hasTs l) ⟨n,s,h⟩
  have h3:=h2 n ⟨s,h⟩
  have h4:=mapL_mono (pF_le h3).2 h1
  rw[h] at h4
  refine⟨?_,⟨n,s,h⟩,by unfold mTs;omega⟩
  unfold push_terms
  rw[h1,Option.getD_some];exact (Option.some.inj h4).symm
theorem relD_open {r:Rel} (h:relD r) : ∃ n ks ts gs s,mR r=2*(n+1)∧mapL (pF n).1 r.kids=some ks∧mapL (pF n).2 r.terms=some ts∧mapL (aggS (pF n).2) r.aggs=some gs∧onceK (relW r ks ts gs)=true ∧
    (if (pushOnce (relW r ks ts gs)).2=true then (pF n).1 (pushOnce (relW r ks ts gs)).1 else some (relW r ks ts gs))=some s∧push_Rel r=s:=by
  obtain⟨⟨s,h1⟩,_⟩:=least_ok h
  have hp:=(push_Rel_of h1).1
  cases hn : least (hasR r) with
  | zero=>rw[hn] at h1;simp [pF] at h1
  | succ n =>
    rw[hn] at h1
    obtain⟨ks,ts,gs,g1,g2,g3,g4,g5⟩:=relS_some (f:=(pF n).1) (g:=(pF n).2) h1
    exact⟨n,ks,ts,gs,s,by unfold mR;rw[hn],g1,g2,g3,g4,g5,hp⟩
theorem termD_open {t:Term} (h:termD t) : ∃ n ks ss,mT t=2*(n+1)∧mapL (pF n).2 t.kids=some ks∧mapL (pF n).1 t.sub=some ss∧push_term t=termW t ks ss:=by
  obtain⟨⟨s,h1⟩,_⟩:=least_ok h
  have hp:=(push_term_of h1).1
  cases hn : least (hasT t) with
  | zero=>rw[hn] at h1;simp [pF] at h1
  | succ n =>
    rw[hn] at h1
    obtain⟨ks,ss,g1,g2,g3⟩:=termS_some (f:=(pF n).1) (g:=(pF n).2) h1
    exact⟨n,ks,ss,by unfold mT;rw[hn],g1,g2,by rw[hp,g3]⟩
def A_push_Rel (r:Rel) : List (A Un):=[.agg (encC Ty.rel r)]
def O_push_Rel (_r:Rel) : List (Ob Un):=[]
def Fm_push_Rel (m:Nat) : FnC Un:=fun args=>match args with
  | [x0]=>(dS .rel x0).bind fun r=>some ([mR r<m,relD r],A_push_Rel (push_Rel r),O_push_Rel (push_Rel r))
  | _=>none
def A_push_rels (r:List Rel) : List (A Un):=[.c (.sl (U:=Un) Ty.rel r false)]
def O_push_rels (_r:List Rel) : List (Ob Un):=[]
def Fm_push_rels (m:Nat) : FnC Un:=fun args=>match args with
  | [x0]=>(dL .rel x0).bind fun l=>some ([mRs l<m,relsD l],A_push_rels (push_rels l),O_push_rels (push_rels l))
  | _=>none
def A_push_terms (r:List Term) : List (A Un):=[.c (.sl (U:=Un) Ty.term r false)]
def O_push_terms (_r:List Term) : List (Ob Un):=[]
def Fm_push_terms (m:Nat) : FnC Un:=fun args=>match args with
  | [x0]=>(dL .term x0).bind fun l=>some ([mTs l<m,termsD l],A_push_terms (push_terms l),O_push_terms (push_terms l))
  | _=>none
def A_push_term (r:Term) : List (A Un):=[.agg (encC Ty.term r)]
def O_push_term (_r:Term) : List (Ob Un):=[]
def Fm_push_term (m:Nat) : FnC Un:=fun args=>match args with
  | [x0]=>(dS .term x0).bind fun t=>some ([mT t<m,termD t],A_push_term (push_term t),O_push_term (push_term t))
  | _=>none
def M_push_Rel (m:Nat) : Mc Un:=mach (tbl [(45,Fm_push_rels m),(46,Fm_push_terms m),(47,F_clone_agg),(8,F_push_Once),(12,Fm_push_Rel m)]) (tbl []) (tbl []) (tbl []) (tbl [])
def R_push_Rel (r:Rel) : RF Un:=(A_push_Rel r,O_push_Rel r)
def N_push_Rel : Nat→NS:=fun l=>(look l [(4,{ ts:=bl 46 3145734,bs:=bl 46 6,nm:=[(.cell 1 5,184)],cs:=true })]).getD ⟨[],[],[],[],[],true⟩
def push_Rel_s4 (r:Rel) (v0:Int) (v1:List Agg) : S Un:=(st 46 46 185 0 [(1,ax 1),(2,ax 2),(20,ai (↑r.aggs.length:Int)),(21,ai v0)] [(1,some (false,[C.s (Value.int IntKind.i64 r.op),C.s (Value.string r.table),C.sl Ty.col r.cols false,C.sl Ty.rel (push_rels r.kids) false,C.sl Ty.term (push_terms r.terms) false,C.ob (184:Nat) (0:Nat),C.sl Ty.by_ r.keys false,C.s (Value.int IntKind.i64 r.limit),C.s (Value.int IntKind.i64 r.skip),C.s (Value.bool r.all),C.sl Ty.row r.rows false])),(2,some (false,[C.s (Value.int IntKind.i64 (0:Int)),C.s (Value.string (ByteArray.mk #[])),C.sl Ty.col [] true,C.sl Ty.rel [] true,C.sl Ty.term [] true,C.sl Ty.agg [] true,C.sl Ty.by_ [] true,C.s (Value.int IntKind.i64 (0:Int)),C.s (Value.int IntKind.i64 (0:Int)),C.s (Value.bool false),C.sl Ty.row [] true]))] [(184,some ⟨(0:Nat),Ty.agg,v1,some (0:Nat),true⟩)])
def push_Rel_B4 : Code:=sub (bodyOf Tryz.f12) [1,1,1,0,1,2,2]
def push_Rel_L4 (m:Nat) : S Un→Option (EX Un):=loopF (N_push_Rel 4) (fun s Q=>awf (M_push_Rel m) N_push_Rel push_Rel_B4 s Q)
def push_Rel_C4 (m:Nat) : Exit→S Un→Option (RF Un):=ctxF (M_push_Rel m) N_push_Rel (bodyOf Tryz.f12) [1,1,1,0,1,2] (retF (M_push_Rel m) Tryz.f12.results.toList [.d])
def push_Rel_fn (m:Nat) (r:Rel) : Option (RF Un):=awf (M_push_Rel m) N_push_Rel (bodyOf Tryz.f12) (entry Tryz.f12.ntmps 1 [.d (.agg (enc Ty.rel r))]) (retF (M_push_Rel m) Tryz.f12.results.toList [.d])
theorem push_Rel_in (m:Nat) (r:Rel) : push_Rel_fn m r=obO (mRs r.kids<m) (obO (relsD r.kids) (obO (mTs r.terms<m) (obO (termsD r.terms) (obO (r.aggs.length≤(1000000000:Nat)) ((push_Rel_L4 m (push_Rel_s4 r (0:Int) r.aggs)).bind (thenX (push_Rel_C4 m))))))):=by kernel_rfl
theorem push_Rel_l4 (m:Nat) (r:Rel) (v0:Int) (v1:List Agg) : push_Rel_L4 m (push_Rel_s4 r v0 v1)=cndO (decide (v0<(↑r.aggs.length:Int))) (obO (0≤v0∧v0<(↑v1.length:Int)) (obO (mTs (Agg.t (v1.getD v0.toNat zeroAgg))<m) (obO (termsD (Agg.t (v1.getD v0.toNat zeroAgg))) (obO (0≤v0∧v0<(↑v1.length:Int)) (obO ((0:Nat)≤v0.toNat) (push_Rel_L4 m (push_Rel_s4 r (IntKind.i64.wrap (v0+1)) (v1.set v0.toNat (Agg.mk (Agg.name (v1.getD v0.toNat zeroAgg)) (Agg.distinct (v1.getD v0.toNat zeroAgg)) (push_terms (Agg.t (v1.getD v0.toNat zeroAgg)))))))))))) (some (.exit 0,(push_Rel_s4 r v0 v1))):=(loopF_eq (N_push_Rel 4) push_Rel_B4 _).trans (by kernel_rfl)
theorem push_Rel_a4_x0 (m:Nat) (r:Rel) (v0:Int) (v1:List Agg) : push_Rel_C4 m (.exit 0) (push_Rel_s4 r v0 v1)=obO (onceOK (Rel.mk r.op r.table r.cols (push_rels r.kids) (push_terms r.terms) v1 r.keys r.limit r.skip r.all r.rows)) (cndO ((push_Once (Rel.mk r.op r.table r.cols (push_rels r.kids) (push_terms r.terms) v1 r.keys r.limit r.skip r.all r.rows)).snd) (obO (mR (Rel.ids ((push_Once (Rel.mk r.op r.table r.cols (push_rels r.kids) (push_terms r.terms) v1 r.keys r.limit r.skip r.all r.rows)).fst))<m) (obO (relD (Rel.ids ((push_Once (Rel.mk r.op r.table r.cols (push_rels r.kids) (push_terms r.terms) v1 r.keys r.limit r.skip r.all r.rows)).fst))) (some (R_push_Rel (push_Rel (Rel.ids ((push_Once (Rel.mk r.op r.table r.cols (push_rels r.kids) (push_terms r.terms) v1 r.keys r.limit r.skip r.all r.rows)).fst))))))) (some (R_push_Rel (Rel.mk r.op r.table r.cols (push_rels r.kids) (push_terms r.terms) v1 r.keys r.limit r.skip r.all r.rows)))):=by kernel_rfl
theorem push_Rel_spec (m:Nat) (r:Rel) (hr:WS .rel r) (hm:mR r<m+1) (h:relD r) : push_Rel_fn m r=some (R_push_Rel (push_Rel r)):=by
  obtain⟨n,ks,ts,gs,s,g0,g1,g2,g3,g4,g5,g6⟩:=relD_open h
  obtain⟨k1,k2,k3⟩:=push_rels_of g1
  obtain⟨t1,t2,t3⟩:=push_terms_of g2
  obtain⟨a1,a2⟩:=mapL_some g3
  have hag:∀ a∈r.aggs,termsD a.t∧mTs a.t<m∧∀ b,aggS (pF n).2 a=some b→Agg.mk a.name a.distinct (push_terms a.t)=b:=fun a ha=>by
    obtain⟨b,hb⟩:=mapO_mem a2 a ha
    unfold aggS at hb
    split at hb
    · rename_i us hu
      obtain⟨u1,u2,u3⟩:=push_terms_of hu
      exact⟨u2,by omega,fun c hc=>by unfold aggS at hc;rw[hu] at hc;rw[u1];exact Option.some.inj hc⟩
    · simp at hb
  have hmap:r.aggs.map (fun a=>Agg.mk a.name a.distinct (push_terms a.t))=gs:=mapO_map a2 fun a ha b hb=>(hag a ha).2.2 b hb
  have lp:=loop_map (L:=push_Rel_L4 m) (st:=fun xs i=>push_Rel_s4 r i xs) (l:=r.aggs) (d:=zeroAgg) (e:=.exit 0) (fun a=>Agg.mk a.name a.distinct (push_terms a.t)) (hr.rel_aggs).len
    (fun xs i x hi hxl hx hmem=>by
      rw[push_Rel_l4]
      simp only[cndO_eq,hi,decide_true,if_true,Int.toNat_natCast,hx]
      rw[obO_pos (by omega),obO_pos (hag x hmem).2.1,obO_pos (hag x hmem).1,obO_pos (by omega),obO_pos (by omega)])
    (fun xs hxl=>by rw[push_Rel_l4];simp [cndO_eq])
  rw[hmap] at lp
  rw[push_Rel_in,obO_pos (by omega),obO_pos k2,obO_pos (by omega),obO_pos t2,obO_pos a1]
  refine (loop_end lp).trans ?_
  rw[push_Rel_a4_x0,k1,t1]
  have hw:Rel.mk r.op r.table r.cols ks ts gs r.keys r.limit r.skip r.all r.rows=relW r ks ts gs:=rfl
  rw[hw,obO_pos (onceK_ok g4)]
  have ho:push_Once (relW r ks ts gs)=pushOnce (relW r ks ts gs):=rfl
  rw[ho,cndO_eq,g6]
  by_cases hc : (pushOnce (relW r ks ts gs)).2=true
  · rw[if_pos hc] at g5
    obtain⟨p1,p2,p3⟩:=push_Rel_of g5
    rw[if_pos hc,Rel.ids_eq,obO_pos (by omega),obO_pos p2,p1]
  · rw[if_neg hc] at g5
    rw[if_neg hc,Option.some.inj g5]
theorem okm_push_Rel (m:Nat) (h_push_Rel:FnOK 12 (Fm_push_Rel m)) (h_push_rels:FnOK 45 (Fm_push_rels m)) (h_push_terms:FnOK 46 (Fm_push_terms m)) (h_push_term:FnOK 99 (Fm_push_term m)) : FnOK 12 (Fm_push_Rel (m+1)):=by
  intro args ob rs os h hob
  unfold Fm_push_Rel at h
  split at h
  · simp only[Option.bind_eq_some_iff,Option.some.injEq,Prod.mk.injEq] at h
    obtain⟨r,e0,rfl,rfl,rfl⟩:=h
    obtain rfl:=dS_eq e0
    exact⟨fn_contractF (M:=(M_push_Rel m)) rfl (tbl_ok (l1:=[(45,Fm_push_rels m),(46,Fm_push_terms m),(47,F_clone_agg),(8,F_push_Once),(12,Fm_push_Rel m)]) (l2:=[]) (l3:=[]) (l4:=[]) (l5:=[]) ⟨h_push_rels,h_push_terms,ok_clone_agg,ok_push_Once,h_push_Rel,trivial⟩ trivial trivial trivial trivial) Tryz.func12 (by kernel_rfl) N_push_Rel 1 [.d] (fun hwf=>(push_Rel_spec m r (wfArg hwf (a:=.d (.agg (enc Ty.rel r))) (List.mem_of_getElem? (i:=0) rfl)) (hob _ (List.mem_of_getElem? (i:=0) rfl)) (hob _ (List.mem_of_getElem? (i:=1) rfl)))),hasBody_of Tryz.func12 (by kernel_rfl) (by kernel_rfl)⟩
  · simp at h
def M_push_rels (m:Nat) : Mc Un:=mach (tbl [(97,F_clone_rel),(12,Fm_push_Rel m)]) (tbl []) (tbl []) (tbl []) (tbl [])
def R_push_rels (r:List Rel) : RF Un:=(A_push_rels r,O_push_rels r)
def N_push_rels : Nat→NS:=fun l=>(look l [(3,{ ts:=bl 21 385,bs:=bl 21 0,nm:=[(.sl 0,84)],cs:=true })]).getD ⟨[],[],[],[],[],true⟩
def push_rels_s3 (l:List Rel) (v0:Int) (v1:List Rel) : S Un:=(st 21 21 85 0 [(0,ao 84),(7,ai (↑l.length:Int)),(8,ai v0)] [] [(84,some ⟨(0:Nat),Ty.rel,v1,some (0:Nat),true⟩)])
def push_rels_B3 : Code:=sub (bodyOf Tryz.f45) [1,1,0,1,2,2]
def push_rels_L3 (m:Nat) : S Un→Option (EX Un):=loopF (N_push_rels 3) (fun s Q=>awf (M_push_rels m) N_push_rels push_rels_B3 s Q)
def push_rels_C3 (m:Nat) : Exit→S Un→Option (RF Un):=ctxF (M_push_rels m) N_push_rels (bodyOf Tryz.f45) [1,1,0,1,2] (retF (M_push_rels m) Tryz.f45.results.toList [.d])
def push_rels_fn (m:Nat) (l:List Rel) : Option (RF Un):=awf (M_push_rels m) N_push_rels (bodyOf Tryz.f45) (entry Tryz.f45.ntmps 1 [.d (.v (.dat (U:=Un) Ty.rel l))]) (retF (M_push_rels m) Tryz.f45.results.toList [.d])
theorem push_rels_in (m:Nat) (l:List Rel) : push_rels_fn m l=obO (l.length≤(1000000000:Nat)) ((push_rels_L3 m (push_rels_s3 l (0:Int) l)).bind (thenX (push_rels_C3 m))):=by kernel_rfl
theorem push_rels_l3 (m:Nat) (l:List Rel) (v0:Int) (v1:List Rel) : push_rels_L3 m (push_rels_s3 l v0 v1)=cndO (decide (v0<(↑l.length:Int))) (obO (0≤v0∧v0<(↑v1.length:Int)) (obO (mR (Rel.ids (v1.getD v0.toNat zeroRel))<m) (obO (relD (Rel.ids (v1.getD v0.toNat zeroRel))) (obO (0≤v0∧v0<(↑v1.length:Int)) (obO ((0:Nat)≤v0.toNat) (push_rels_L3 m (push_rels_s3 l (IntKind.i64.wrap (v0+1)) (v1.set v0.toNat (Rel.ids (push_Rel (Rel.ids (v1.getD v0.toNat zeroRel)))))))))))) (some (.exit 0,(push_rels_s3 l v0 v1))):=(loopF_eq (N_push_rels 3) push_rels_B3 _).trans (by kernel_rfl)
theorem push_rels_a3_x0 (m:Nat) (l:List Rel) (v0:Int) (v1:List Rel) : push_rels_C3 m (.exit 0) (push_rels_s3 l v0 v1)=some (R_push_rels (v1)):=by kernel_rfl
theorem push_rels_spec (m:Nat) (l:List Rel) (hl:WL .rel l) (hm:mRs l<m+1) (h:relsD l) : push_rels_fn m l=some (R_push_rels (push_rels l)):=by
  obtain⟨⟨s,h1⟩,_⟩:=least_ok h
  obtain⟨n,hn⟩ : ∃ n,n=least (hasRs l):=⟨_,rfl⟩
  rw[← hn] at h1
  have hms:mRs l=2*n+1:=by rw[hn];rfl
  obtain⟨p1,_,_⟩:=push_rels_of h1
  obtain⟨a1,a2⟩:=mapL_some h1
  have hx:∀ x∈l,relD x∧mR x<m∧∀ y,(pF n).1 x=some y→push_Rel x=y:=fun x hx=>by
    obtain⟨y,hy⟩:=mapO_mem a2 x hx
    obtain⟨q1,q2,q3⟩:=push_Rel_of hy
    exact⟨q2,by omega,fun z hz=>(push_Rel_of hz).1⟩
  have hmap:l.map push_Rel=s:=mapO_map a2 fun x hm y hy=>(hx x hm).2.2 y hy
  have lp:=loop_map (L:=push_rels_L3 m) (st:=fun xs i=>push_rels_s3 l i xs) (l:=l) (d:=zeroRel) (e:=.exit 0) push_Rel hl.len
    (fun xs i x hi hxl hxx hmem=>by
      rw[push_rels_l3]
      simp only[cndO_eq,hi,decide_true,if_true,Int.toNat_natCast,hxx,Rel.ids_eq]
      rw[obO_pos (by omega),obO_pos (hx x hmem).2.1,obO_pos (hx x hmem).1,obO_pos (by omega),obO_pos (by omega)])
    (fun xs hxl=>by rw[push_rels_l3];simp [cndO_eq])
  rw[push_rels_in,obO_pos a1]
  refine (loop_end lp).trans ?_
  rw[push_rels_a3_x0,hmap,p1]
theorem okm_push_rels (m:Nat) (h_push_Rel:FnOK 12 (Fm_push_Rel m)) (h_push_rels:FnOK 45 (Fm_push_rels m)) (h_push_terms:FnOK 46 (Fm_push_terms m)) (h_push_term:FnOK 99 (Fm_push_term m)) : FnOK 45 (Fm_push_rels (m+1)):=by
  intro args ob rs os h hob
  unfold Fm_push_rels at h
  split at h
  · simp only[Option.bind_eq_some_iff,Option.some.injEq,Prod.mk.injEq] at h
    obtain⟨l,e0,rfl,rfl,rfl⟩:=h
    obtain rfl:=dL_eq e0
    exact⟨fn_contractF (M:=(M_push_rels m)) rfl (tbl_ok (l1:=[(97,F_clone_rel),(12,Fm_push_Rel m)]) (l2:=[]) (l3:=[]) (l4:=[]) (l5:=[]) ⟨ok_clone_rel,h_push_Rel,trivial⟩ trivial trivial trivial trivial) Tryz.func45 (by kernel_rfl) N_push_rels 1 [.d] (fun hwf=>(push_rels_spec m l (wfArg hwf (a:=.d (.v (.dat (U:=Un) Ty.rel l))) (List.mem_of_getElem? (i:=0) rfl)) (hob _ (List.mem_of_getElem? (i:=0) rfl)) (hob _ (List.mem_of_getElem? (i:=1) rfl)))),hasBody_of Tryz.func45 (by kernel_rfl) (by kernel_rfl)⟩
  · simp at h
def M_push_terms (m:Nat) : Mc Un:=mach (tbl [(98,F_clone_term),(99,Fm_push_term m)]) (tbl []) (tbl []) (tbl []) (tbl [])
def R_push_terms (r:List Term) : RF Un:=(A_push_terms r,O_push_terms r)
def N_push_terms : Nat→NS:=fun l=>(look l [(3,{ ts:=bl 21 385,bs:=bl 21 0,nm:=[(.sl 0,84)],cs:=true })]).getD ⟨[],[],[],[],[],true⟩
def push_terms_s3 (l:List Term) (v0:Int) (v1:List Term) : S Un:=(st 21 21 85 0 [(0,ao 84),(7,ai (↑l.length:Int)),(8,ai v0)] [] [(84,some ⟨(0:Nat),Ty.term,v1,some (0:Nat),true⟩)])
def push_terms_B3 : Code:=sub (bodyOf Tryz.f46) [1,1,0,1,2,2]
def push_terms_L3 (m:Nat) : S Un→Option (EX Un):=loopF (N_push_terms 3) (fun s Q=>awf (M_push_terms m) N_push_terms push_terms_B3 s Q)
def push_terms_C3 (m:Nat) : Exit→S Un→Option (RF Un):=ctxF (M_push_terms m) N_push_terms (bodyOf Tryz.f46) [1,1,0,1,2] (retF (M_push_terms m) Tryz.f46.results.toList [.d])
def push_terms_fn (m:Nat) (l:List Term) : Option (RF Un):=awf (M_push_terms m) N_push_terms (bodyOf Tryz.f46) (entry Tryz.f46.ntmps 1 [.d (.v (.dat (U:=Un) Ty.term l))]) (retF (M_push_terms m) Tryz.f46.results.toList [.d])
theorem push_terms_in (m:Nat) (l:List Term) : push_terms_fn m l=obO (l.length≤(1000000000:Nat)) ((push_terms_L3 m (push_terms_s3 l (0:Int) l)).bind (thenX (push_terms_C3 m))):=by kernel_rfl
theorem push_terms_l3 (m:Nat) (l:List Term) (v0:Int) (v1:List Term) : push_terms_L3 m (push_terms_s3 l v0 v1)=cndO (decide (v0<(↑l.length:Int))) (obO (0≤v0∧v0<(↑v1.length:Int)) (obO (mT (Term.ids (v1.getD v0.toNat zeroTerm))<m) (obO (termD (Term.ids (v1.getD v0.toNat zeroTerm))) (obO (0≤v0∧v0<(↑v1.length:Int)) (obO ((0:Nat)≤v0.toNat) (push_terms_L3 m (push_terms_s3 l (IntKind.i64.wrap (v0+1)) (v1.set v0.toNat (Term.ids (push_term (Term.ids (v1.getD v0.toNat zeroTerm)))))))))))) (some (.exit 0,(push_terms_s3 l v0 v1))):=(loopF_eq (N_push_terms 3) push_terms_B3 _).trans (by kernel_rfl)
theorem push_terms_a3_x0 (m:Nat) (l:List Term) (v0:Int) (v1:List Term) : push_terms_C3 m (.exit 0) (push_terms_s3 l v0 v1)=some (R_push_terms (v1)):=by kernel_rfl
theorem push_terms_spec (m:Nat) (l:List Term) (hl:WL .term l) (hm:mTs l<m+1) (h:termsD l) : push_terms_fn m l=some (R_push_terms (push_terms l)):=by
  obtain⟨⟨s,h1⟩,_⟩:=least_ok h
  obtain⟨n,hn⟩ : ∃ n,n=least (hasTs l):=⟨_,rfl⟩
  rw[← hn] at h1
  have hms:mTs l=2*n+1:=by rw[hn];rfl
  obtain⟨p1,_,_⟩:=push_terms_of h1
  obtain⟨a1,a2⟩:=mapL_some h1
  have hx:∀ x∈l,termD x∧mT x<m∧∀ y,(pF n).2 x=some y→push_term x=y:=fun x hx=>by
    obtain⟨y,hy⟩:=mapO_mem a2 x hx
    obtain⟨q1,q2,q3⟩:=push_term_of hy
    exact⟨q2,by omega,fun z hz=>(push_term_of hz).1⟩
  have hmap:l.map push_term=s:=mapO_map a2 fun x hm y hy=>(hx x hm).2.2 y hy
  have lp:=loop_map (L:=push_terms_L3 m) (st:=fun xs i=>push_terms_s3 l i xs) (l:=l) (d:=zeroTerm) (e:=.exit 0) push_term hl.len
    (fun xs i x hi hxl hxx hmem=>by
      rw[push_terms_l3]
      simp only[cndO_eq,hi,decide_true,if_true,Int.toNat_natCast,hxx,Term.ids_eq]
      rw[obO_pos (by omega),obO_pos (hx x hmem).2.1,obO_pos (hx x hmem).1,obO_pos (by omega),obO_pos (by omega)])
    (fun xs hxl=>by rw[push_terms_l3];simp [cndO_eq])
  rw[push_terms_in,obO_pos a1]
  refine (loop_end lp).trans ?_
  rw[push_terms_a3_x0,hmap,p1]
theorem okm_push_terms (m:Nat) (h_push_Rel:FnOK 12 (Fm_push_Rel m)) (h_push_rels:FnOK 45 (Fm_push_rels m)) (h_push_terms:FnOK 46 (Fm_push_terms m)) (h_push_term:FnOK 99 (Fm_push_term m)) : FnOK 46 (Fm_push_terms (m+1)):=by
  intro args ob rs os h hob
  unfold Fm_push_terms at h
  split at h
  · simp only[Option.bind_eq_some_iff,Option.some.injEq,Prod.mk.injEq] at h
    obtain⟨l,e0,rfl,rfl,rfl⟩:=h
    obtain rfl:=dL_eq e0
    exact⟨fn_contractF (M:=(M_push_terms m)) rfl (tbl_ok (l1:=[(98,F_clone_term),(99,Fm_push_term m)]) (l2:=[]) (l3:=[]) (l4:=[]) (l5:=[]) ⟨ok_clone_term,h_push_term,trivial⟩ trivial trivial trivial trivial) Tryz.func46 (by kernel_rfl) N_push_terms 1 [.d] (fun hwf=>(push_terms_spec m l (wfArg hwf (a:=.d (.v (.dat (U:=Un) Ty.term l))) (List.mem_of_getElem? (i:=0) rfl)) (hob _ (List.mem_of_getElem? (i:=0) rfl)) (hob _ (List.mem_of_getElem? (i:=1) rfl)))),hasBody_of Tryz.func46 (by kernel_rfl) (by kernel_rfl)⟩
  · simp at h
def M_push_term (m:Nat) : Mc Un:=mach (tbl [(46,Fm_push_terms m),(45,Fm_push_rels m)]) (tbl []) (tbl []) (tbl []) (tbl [])
def R_push_term (r:Term) : RF Un:=(A_push_term r,O_push_term r)
def N_push_term : Nat→NS:=fun l=>(look l []).getD ⟨[],[],[],[],[],true⟩
def push_term_fn (m:Nat) (t:Term) : Option (RF Un):=awf (M_push_term m) N_push_term (bodyOf Tryz.f99) (entry Tryz.f99.ntmps 0 [.d (.agg (enc Ty.term t))]) (retF (M_push_term m) Tryz.f99.results.toList [.d])
theorem push_term_in (m:Nat) (t:Term) : push_term_fn m t=obO (mTs t.kids<m) (obO (termsD t.kids) (obO (mRs t.sub<m) (obO (relsD t.sub) (some (R_push_term (Term.mk t.op t.v t.depth t.at_ t.name (push_terms t.kids) (push_rels t.sub) t.type)))))):=by kernel_rfl
theorem push_term_spec (m:Nat) (t:Term) (_ht:WS .term t) (hm:mT t<m+1) (h:termD t) : push_term_fn m t=some (R_push_term (push_term t)):=by
  obtain⟨n,ks,ss,g0,g1,g2,g3⟩:=termD_open h
  obtain⟨k1,k2,k3⟩:=push_terms_of g1
  obtain⟨s1,s2,s3⟩:=push_rels_of g2
  rw[push_term_in,obO_pos (by omega),obO_pos k2,obO_pos (by omega),obO_pos s2,k1,s1,g3]
  rfl
theorem okm_push_term (m:Nat) (h_push_Rel:FnOK 12 (Fm_push_Rel m)) (h_push_rels:FnOK 45 (Fm_push_rels m)) (h_push_terms:FnOK 46 (Fm_push_terms m)) (h_push_term:FnOK 99 (Fm_push_term m)) : FnOK 99 (Fm_push_term (m+1)):=by
  intro args ob rs os h hob
  unfold Fm_push_term at h
  split at h
  · simp only[Option.bind_eq_some_iff,Option.some.injEq,Prod.mk.injEq] at h
    obtain⟨t,e0,rfl,rfl,rfl⟩:=h
    obtain rfl:=dS_eq e0
    exact⟨fn_contractF (M:=(M_push_term m)) rfl (tbl_ok (l1:=[(46,Fm_push_terms m),(45,Fm_push_rels m)]) (l2:=[]) (l3:=[]) (l4:=[]) (l5:=[]) ⟨h_push_terms,h_push_rels,trivial⟩ trivial trivial trivial trivial) Tryz.func99 (by kernel_rfl) N_push_term 0 [.d] (fun hwf=>(push_term_spec m t (wfArg hwf (a:=.d (.agg (enc Ty.term t))) (List.mem_of_getElem? (i:=0) rfl)) (hob _ (List.mem_of_getElem? (i:=0) rfl)) (hob _ (List.mem_of_getElem? (i:=1) rfl)))),hasBody_of Tryz.func99 (by kernel_rfl) (by kernel_rfl)⟩
  · simp at h
theorem okAll_pushG : ∀ m,FnOK 12 (Fm_push_Rel m)∧FnOK 45 (Fm_push_rels m)∧FnOK 46 (Fm_push_terms m)∧FnOK 99 (Fm_push_term m)
  | 0=>by
    refine⟨?_,?_,?_,?_⟩
    · intro args ob rs os h hob
      unfold Fm_push_Rel at h
      split at h
      · simp only[Option.bind_eq_some_iff,Option.some.injEq,Prod.mk.injEq] at h
        obtain⟨_,_,rfl,_,_⟩:=h
        exact absurd (hob _ (List.mem_of_getElem? (i:=0) rfl)) (Nat.not_lt_zero _)
      · simp at h
    · intro args ob rs os h hob
      unfold Fm_push_rels at h
      split at h
      · simp only[Option.bind_eq_some_iff,Option.some.injEq,Prod.mk.injEq] at h
        obtain⟨_,_,rfl,_,_⟩:=h
        exact absurd (hob _ (List.mem_of_getElem? (i:=0) rfl)) (Nat.not_lt_zero _)
      · simp at h
    · intro args ob rs os h hob
      unfold Fm_push_terms at h
      split at h
      · simp only[Option.bind_eq_some_iff,Option.some.injEq,Prod.mk.injEq] at h
        obtain⟨_,_,rfl,_,_⟩:=h
        exact absurd (hob _ (List.mem_of_getElem? (i:=0) rfl)) (Nat.not_lt_zero _)
      · simp at h
    · intro args ob rs os h hob
      unfold Fm_push_term at h
      split at h
      · simp only[Option.bind_eq_some_iff,Option.some.injEq,Prod.mk.injEq] at h
        obtain⟨_,_,rfl,_,_⟩:=h
        exact absurd (hob _ (List.mem_of_getElem? (i:=0) rfl)) (Nat.not_lt_zero _)
      · simp at h
  | m+1=>by
    have ih:=okAll_pushG m
    exact⟨okm_push_Rel m ih.1 ih.2.1 ih.2.2.1 ih.2.2.2,okm_push_rels m ih.1 ih.2.1 ih.2.2.1 ih.2.2.2,okm_push_terms m ih.1 ih.2.1 ih.2.2.1 ih.2.2.2,okm_push_term m ih.1 ih.2.1 ih.2.2.1 ih.2.2.2⟩
def F_push_Rel : FnC Un:=fun args=>match args with
  | [x0]=>(dS .rel x0).bind fun r=>some ([relD r],A_push_Rel (push_Rel r),O_push_Rel (push_Rel r))
  | _=>none
theorem ok_push_Rel : FnOK 12 F_push_Rel:=by
  intro args ob rs os h hob
  unfold F_push_Rel at h
  split at h
  · simp only[Option.bind_eq_some_iff,Option.some.injEq,Prod.mk.injEq] at h
    obtain⟨r,e0,rfl,rfl,rfl⟩:=h
    refine ((okAll_pushG (mR r+1)).1) _ [mR r<mR r+1,relD r] _ _ (?_ : Fm_push_Rel (mR r+1) _=some _) ?_
    · unfold Fm_push_Rel
      simp only[e0,Option.bind_some]
    · intro p hp
      simp only[List.mem_cons,List.not_mem_nil,or_false] at hp
      rcases hp with rfl | rfl
      · exact Nat.lt_succ_self _
      · exact hob _ (List.mem_of_getElem? (i:=0) rfl)
  · simp at h
end
end Go.Proofs.YtolbngdhgcbmgaaGreat.B
