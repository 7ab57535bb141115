/- Part 12 of the proof: BAwf Sspec Svnum Snum Lstrings Slstr Svalue Lscalar. -/
import Derived.Lib.OthersKept
import Derived.Lib.TrimU
import Derived.Deep.LoopGhost
import Derived.Shelf.Abstract
import Derived.Test.YtjfpbchdcbhfgaaGreatNsrt11
namespace Go.Proofs.YtjfpbchdcbhfgaaGreat.B
open Go Go.RowKit
section
variable {U:Uni} {M:Mc U} {N:Nat→NS}
noncomputable def obO {α:Type} (p:Prop) (x:Option α) : Option α:=@ite _ p (Classical.propDecidable p) x none
noncomputable def obsO {α:Type} : List Prop→Option α→Option α
 | [],x=>x
 | p::ps,x=>obO p (obsO ps x)
theorem z1yl {α:Type} {p:Prop} [Decidable p] {x:Option α} : obO p x=if p then x else none:=by
 unfold obO;split<;>rename_i h
 ·simp [h]
 ·simp [h]
theorem z6 {α:Type} {p:Prop} (h:p) {x:Option α} : obO p x=x:=if_pos h
theorem z21h {α:Type} {p:Prop} {x:Option α} {r:α} (h:obO p x=some r) : p∧x=some r:=by
 unfold obO at h;split at h
 ·exact⟨by assumption,h⟩
 ·simp at h
theorem z1je {α:Type} : ∀ {ps:List Prop} {x:Option α} {r:α},obsO ps x=some r→(∀ p∈ps,p)∧x=some r
 | [],_,_,h=>⟨by simp,h⟩
 | p::ps,x,r,h=>by
  obtain⟨h1,h2⟩:=z21h h
  obtain⟨h3,h4⟩:=z1je h2
  exact⟨fun q hq=>by rcases List.mem_cons.1 hq with rfl | hq;exact h1;exact h3 q hq,h4⟩
theorem z21i {α β:Type} {p:Prop} {x:Option α} {f:α→Option β} : (obO p x).bind f=obO p (x.bind f):=by
 unfold obO;split<;>rfl
theorem z1jf {α β:Type} {f:α→Option β} : ∀ {ps:List Prop} {x:Option α},(obsO ps x).bind f=obsO ps (x.bind f)
 | [],_=>rfl
 | p::ps,x=>by simp only[obsO,z21i,z1jf]
def cndO {α:Type} (b:Bool) (x y:Option α) : Option α:=match b with | true=>x | false=>y
theorem za {α:Type} {b:Bool} {x y:Option α} : cndO b x y=if b=true then x else y:=by cases b<;>rfl
noncomputable def z1vi {α:Type} (ops:List Oper) (i:Nat) (o:Oper) (s:S U) (r:Res U) (K:S U→Option α) : Option α :=
 obsO r.ob (match z1tv ops i,r.v with
  | true,.one (.c (.s (.bool x)))=>cndO x (K (s.upd o.dst { r with v:=.one (.c (.s (.bool true))) })) (K (s.upd o.dst { r with v:=.one (.c (.s (.bool false))) }))
  | _,_=>K (s.upd o.dst r))
noncomputable def zlw {α:Type} (M:Mc U) (ops:List Oper) : List Oper→Nat→S U→List Fp→(S U→List Fp→Option α)→Option α
 | [],_,s,fs,K=>K s fs
 | o::rest,i,s,fs,K =>
  match zn8 ops s o with
  | some true=>match eff M s o with
   | some r=>z1vi ops i o s r fun s'=>zlw M ops rest (i+1) s' (s.fp M ops o r::fs) K
   | none=>none
  | some false=>zlw M ops rest (i+1) (s.upd o.dst z103) (S.fp0 ops o::fs) K
  | none=>none
def ifO {α:Type} (b:Bool) (x:Option α) : Option α:=match b with | true=>x | false=>none
noncomputable def zu2 {α:Type} (M:Mc U) (ops:Array Oper) (drawn:Bool) (s:S U) (K:S U→Option α) : Option α :=
 zlw M ops.toList ops.toList 0 s [] fun s' fs=>match drawn with
  | false=>K s'
  | true=>ifO (zo2 0 ops.toList && zoh (z9v ops.toList []) 0 [] fs.reverse) (K s')
abbrev EX (U:Uni) : Type:=Exit×S U
def z1nf (e:Exit) (s:S U) : Option (EX U):=some (e,s)
def znd {α:Type} (n:NS) (K:S U→Option α) (s:S U) : Option α:=match s.norm n with | some s1=>K s1 | none=>none
def z1ng (n:NS) (body:S U→(Exit→S U→Option (EX U))→Option (EX U)) (s:S U) : Option (S U ⊕ EX U) :=
 (body s z1nf).bind fun p=>match p.1 with
  | .normal=>(p.2.norm n).bind fun s1=>some (.inl s1)
  | e=>(p.2.norm n).bind fun s1=>some (.inr (e,s1))
noncomputable def zt (n:NS) (body:S U→(Exit→S U→Option (EX U))→Option (EX U)) (s:S U) : Option (EX U):=zca (z1ng n body) s
def zu3 (n:NS) (I:S U→Option (EX U)) : Exit→S U→Option (EX U)
 | .normal,s=>znd n I s
 | e,s=>znd n (fun s1=>some (e,s1)) s
def z22s {α:Type} (next:S U→Option α) (Q:Exit→S U→Option α) : Exit→S U→Option α
 | .normal,s=>next s
 | e,s=>Q e s
def z1bg {α:Type} (id:Nat) (Q:Exit→S U→Option α) : Exit→S U→Option α
 | .exit id',s=>if id'=id then Q .normal s else Q (.exit id') s
 | e,s=>Q e s
def zx {α:Type} (Q:Exit→S U→Option α) (p:EX U) : Option α:=Q p.1 p.2
noncomputable def awf (M:Mc U) (N:Nat→NS) : Code→{α:Type}→S U→(Exit→S U→Option α)→Option α
 | .skip,_,s,Q=>Q .normal s
 | .region _ ops drawn,_,s,Q=>zu2 M ops drawn s (Q .normal)
 | .seq a b,_,s,Q=>awf M N a s (z22s (fun s'=>awf M N b s' Q) Q)
 | .cond c a b,_,s,Q=>match s.ev M c with
  | some (.one (.c (.s (.bool x))))=>cndO x (awf M N a (s.onX (N 0).cs c true) Q) (awf M N b (s.onX (N 0).cs c false) Q)
  | _=>none
 | .block id c,_,s,Q=>awf M N c s (z1bg id Q)
 | .loop c,_,s,Q=>znd (N (lid c)) (fun s1=>(zt (N (lid c)) (fun s' Q'=>awf M N c s' Q') s1).bind (zx Q)) s
 | .exit id,_,s,Q=>Q (.exit id) s
 | .ret,_,s,Q=>Q .ret s
 | _,_,_,_=>none
noncomputable def ctxF {α:Type} (M:Mc U) (N:Nat→NS) : Code→List Nat→(Exit→S U→Option α)→Exit→S U→Option α
 | .seq a b,k::p,Q=>match k with | 0=>ctxF M N a p (z22s (fun s'=>awf M N b s' Q) Q) | _=>ctxF M N b p Q
 | .block id c,_::p,Q=>ctxF M N c p (z1bg id Q)
 | .cond _ a b,k::p,Q=>match k with | 3=>ctxF M N a p Q | _=>ctxF M N b p Q
 | _,_,Q=>Q
theorem zfr {α β:Type} {ops:List Oper} {f:α→Option β} : ∀ (l:List Oper) (i:Nat) (s:S U) (fs:List Fp) (K:S U→List Fp→Option α),
  (zlw M ops l i s fs K).bind f=zlw M ops l i s fs fun s' fs'=>(K s' fs').bind f
 | [],_,_,_,_=>rfl
 | o::rest,i,s,fs,K=>by
  simp only[zlw]
  split
  ·split
   ·rename_i r _
    unfold z1vi
    rw[z1jf]
    congr 1
    split
    ·rename_i b _ _
     cases b
     ·exact zfr rest _ _ _ K
     ·exact zfr rest _ _ _ K
    ·exact zfr rest _ _ _ K
   ·rfl
  ·exact zfr rest _ _ _ K
  ·rfl
theorem z1sg {α β:Type} {ops:Array Oper} {drawn:Bool} {s:S U} {K:S U→Option α} {f:α→Option β} : (zu2 M ops drawn s K).bind f=zu2 M ops drawn s fun s'=>(K s').bind f:=by
 unfold zu2
 rw[zfr]
 congr 1
 funext s' fs
 cases drawn with
 | false=>rfl
 | true=>dsimp only;unfold ifO;split<;>rfl
theorem z1vj {α β:Type} {n:NS} {K:S U→Option α} {s:S U} {f:α→Option β} : (znd n K s).bind f=znd n (fun s1=>(K s1).bind f) s:=by
 unfold znd;split<;>rfl
theorem zjt {α β:Type} {f:α→Option β} : ∀ (c:Code) (s:S U) (Q:Exit→S U→Option α),(awf M N c s Q).bind f=awf M N c s fun e s'=>(Q e s').bind f
 | .skip,_,_=>rfl
 | .region _ _ _,_,_=>z1sg
 | .seq a b,s,Q=>by
  simp only[awf]
  rw[zjt a]
  congr 1
  funext e s'
  cases e<;>first | rfl | exact zjt b s' Q
 | .cond c a b,s,Q=>by
  simp only[awf]
  split
  ·rename_i x _
   cases x
   ·exact zjt b _ Q
   ·exact zjt a _ Q
  ·rfl
 | .block id c,s,Q=>by
  simp only[awf]
  rw[zjt c]
  congr 1
  funext e s'
  cases e<;>first | rfl | (simp only[z1bg];split<;>rfl)
 | .loop c,s,Q=>by
  simp only[awf]
  rw[z1vj]
  congr 1
  funext s1
  rw[Option.bind_assoc]
  rfl
 | .exit _,_,_=>rfl
 | .ret,_,_=>rfl
 | .scope _,_,_=>rfl
 | .label _,_,_=>rfl
 | .goto _,_,_=>rfl
 | .refuse _,_,_=>rfl
 | .rangeFunc _ _ _ _,_,_=>rfl
theorem z21j {α:Type} (c:Code) (s:S U) (Q:Exit→S U→Option α) : awf M N c s Q=(awf M N c s z1nf).bind (zx Q):=by
 rw[zjt];rfl
theorem z11 (n:NS) (c:Code) (s:S U) : zt n (fun s' Q'=>awf M N c s' Q') s=awf M N c s (zu3 n (zt n (fun s' Q'=>awf M N c s' Q'))):=by
 rw[z21j c s (zu3 n _)]
 unfold zt
 rw[zon]
 conv=>lhs;arg 2;unfold z1ng;dsimp only
 cases h : awf M N c s z1nf with
 | none=>simp only[Option.bind_none,z1vf]
 | some p =>
  obtain⟨e,s'⟩:=p
  simp only[Option.bind_some,zx]
  cases e<;>simp only[zu3,znd]<;>cases s'.norm n<;>rfl
theorem zia {α:Type} {ops:List Oper} {r:α} : ∀ (l:List Oper) (i:Nat) (s:S U) (fs:List Fp) {K:S U→List Fp→Option α} {K':S U→List Fp→Prop},(∀ s' fs',K s' fs'=some r→K' s' fs') →
  zlw M ops l i s fs K=some r→zlm M ops l i s fs K'
 | [],_,s,fs,_,_,hK,h=>hK s fs h
 | o::rest,i,s,fs,K,K',hK,h=>by
  simp only[zlw] at h
  simp only[zlm]
  split at h
  ·rename_i hw
   rw[hw]
   dsimp only
   split at h
   ·rename_i x hx
    rw[hx]
    unfold z1vi at h
    unfold z1ut
    obtain⟨h1,h2⟩:=z1je h
    refine obs_iff.2 ⟨h1,?_⟩
    split at h2
    ·rename_i b hg hv
     rw[hg,hv]
     dsimp only
     cases b
     ·exact zia rest _ _ _ hK h2
     ·exact zia rest _ _ _ hK h2
    ·rename_i hno
     split
     ·rename_i b hg hv;exact absurd hv (hno b hg)
     ·exact zia rest _ _ _ hK h2
   ·simp at h
  ·rename_i hw
   rw[hw]
   exact zia rest _ _ _ hK h
  ·simp at h
theorem z1vk {α:Type} {ops:Array Oper} {drawn:Bool} {s:S U} {K:S U→Option α} {K':S U→Prop} {r:α} (hK:∀ s',K s'=some r→K' s') (h:zu2 M ops drawn s K=some r) : z104 M ops drawn s K':=by
 unfold zu2 at h
 unfold z104
 refine zia _ _ _ _ (fun s' fs h'=>?_) h
 cases drawn with
 | false=>exact hK s' h'
 | true =>
  dsimp only at h' ⊢
  unfold ifO at h'
  unfold iff'
  split at h'
  ·rename_i hb;rw[hb];exact hK s' h'
  ·simp at h'
theorem z1ym {α:Type} {n:NS} {s:S U} {K:S U→Option α} {K':S U→Prop} {r:α} (hK:∀ s',K s'=some r→K' s') (h:znd n K s=some r) : zn9 n K' s:=by
 unfold znd at h
 unfold zn9
 split at h
 ·rename_i s1 h1;rw[h1];exact hK s1 h
 ·simp at h
theorem zhj : ∀ (c:Code) {α:Type} {s:S U} {Q:Exit→S U→Option α} {Q':Exit→S U→Prop} {r:α},(∀ e s',Q e s'=some r→Q' e s')→awf M N c s Q=some r→awp M N c s Q'
 | .skip,_,_,_,_,_,hQ,h=>hQ _ _ h
 | .region _ _ _,_,_,_,_,_,hQ,h=>z1vk (hQ _) h
 | .seq a b,_,s,Q,Q',r,hQ,h=>by
  refine zhj a (fun e s' h'=>?_) h
  cases e<;>first | exact zhj b hQ h' | exact hQ _ _ h'
 | .cond c a b,_,s,Q,Q',r,hQ,h=>by
  simp only[awf] at h
  simp only[awp]
  split at h
  ·rename_i x hx
   rw[hx]
   dsimp only
   cases x
   ·exact zhj b hQ h
   ·exact zhj a hQ h
  ·simp at h
 | .block id c,_,s,Q,Q',r,hQ,h=>by
  refine zhj c (fun e s' h'=>?_) h
  cases e<;>first | exact hQ _ _ h' | (simp only[z1bg] at h';simp only[z105];split at h'<;>rename_i hh<;>simp only[hh,if_true,if_false]<;>exact hQ _ _ h')
 | .loop c,α,s,Q,Q',r,hQ,h=>by
  refine z1ym (n:=N (lid c)) (K':=z12 (N (lid c)) (awp M N c) Q') (fun s1 h1=>?_) h
  obtain⟨p,hp,hq⟩:=Option.bind_eq_some_iff.1 h1
  refine zoo (step:=z1ng (N (lid c)) (fun s' Q'=>awf M N c s' Q')) (I:=z12 (N (lid c)) (awp M N c) Q') (J:=fun p=>Q' p.1 p.2) ?_ hp (hQ _ _ hq)
  intro s2 o ho hI
  unfold z1ng at ho
  obtain⟨⟨e,s3⟩,h3,h4⟩:=Option.bind_eq_some_iff.1 ho
  have key:∀ k,(∀ s4,s3.norm (N (lid c))=some s4→(e=.normal→z1o (N (lid c)) (awp M N c) Q' k s4)∧(e≠.normal→Q' e s4))→(∃ s4,s3.norm (N (lid c))=some s4)→z12 (N (lid c)) (awp M N c) Q' s2:=by
   intro k hk hs
   refine⟨k+1,?_⟩
   simp only[z1o]
   refine zhj c (fun e' s' h'=>?_) h3
   simp only[z1nf,Option.some.injEq,Prod.mk.injEq] at h'
   obtain⟨rfl,rfl⟩:=h'
   obtain⟨s4,hs4⟩:=hs
   obtain⟨k1,k2⟩:=hk s4 hs4
   cases e'<;>simp only[z1nn,zn9,hs4]<;>first | exact k1 rfl | exact k2 (by simp)
  cases e with
  | normal =>
   obtain⟨s4,h5,h6⟩:=Option.bind_eq_some_iff.1 h4
   cases h6
   obtain⟨k,hk⟩:=hI
   exact key k (fun s4' h'=>by rw[h5] at h';cases h';exact⟨fun _=>hk,fun hn=>(hn rfl).elim⟩) ⟨s4,h5⟩
  | _ =>
   obtain⟨s4,h5,h6⟩:=Option.bind_eq_some_iff.1 h4
   cases h6
   exact key 0 (fun s4' h'=>by rw[h5] at h';cases h';exact⟨fun hn=>by simp at hn,fun _=>hI⟩) ⟨s4,h5⟩
 | .exit _,_,_,_,_,_,hQ,h=>hQ _ _ h
 | .ret,_,_,_,_,_,hQ,h=>hQ _ _ h
 | .scope _,_,_,_,_,_,_,h=>by simp [awf] at h
 | .label _,_,_,_,_,_,_,h=>by simp [awf] at h
 | .goto _,_,_,_,_,_,_,h=>by simp [awf] at h
 | .refuse _,_,_,_,_,_,_,h=>by simp [awf] at h
 | .rangeFunc _ _ _ _,_,_,_,_,_,_,h=>by simp [awf] at h
abbrev RF (U:Uni) : Type:=List (A U)×List (Ob U)
abbrev RGF (U:Uni) : Type:=List (A U)×List (Bool×List (C U))×List (Ob U)
def z1nh (M:Mc U) (rv:List ResultVar) (fm:List Kind) (s:S U) : Option (RF U) :=
 match s.ress M rv with
 | some al=>match s.out fm al with
  | some (rs,os)=>some (rs,os)
  | none=>none
 | none=>none
def retF (M:Mc U) (rv:List ResultVar) (fm:List Kind) : Exit→S U→Option (RF U)
 | .ret,s=>z1nh M rv fm s
 | .normal,s=>z1nh M rv fm s
 | _,_=>none
def z1bh (M:Mc U) (nb:Nat) (rv:List ResultVar) (fm:List Kind) (s:S U) : Option (RGF U) :=
 match s.ress M rv,s.boxesAt (List.range nb) with
 | some al,some bs=>match s.out fm (z1aj bs++al) with
  | some (rs,os)=>match ztt bs rs with
   | some (bs',rs')=>some (rs',bs',os)
   | none=>none
  | none=>none
 | _,_=>none
def z1ni (M:Mc U) (nb:Nat) (rv:List ResultVar) (fm:List Kind) : Exit→S U→Option (RGF U)
 | .ret,s=>z1bh M nb rv fm s
 | .normal,s=>z1bh M nb rv fm s
 | _,_=>none
theorem z21k {rv:List ResultVar} {fm:List Kind} {r:RF U} : ∀ e s,retF M rv fm e s=some r→retQ M rv fm (fun rs os=>rs=r.1∧os=r.2) e s:=by
 have key:∀ s,z1nh M rv fm s=some r→retK M rv fm (fun rs os=>rs=r.1∧os=r.2) s:=by
  intro s h
  unfold z1nh at h
  unfold retK
  split at h
  ·rename_i al h1
   rw[h1];dsimp only
   split at h
   ·rename_i rs os h2;rw[h2];cases h;exact⟨rfl,rfl⟩
   ·simp at h
  ·simp at h
 intro e s h
 cases e<;>first | exact key s h | simp [retF] at h
theorem z1yn {nb:Nat} {rv:List ResultVar} {fm:List Kind} {r:RGF U} : ∀ e s,z1ni M nb rv fm e s=some r→z2i M nb rv fm (fun rs bs os=>rs=r.1∧bs=r.2.1∧os=r.2.2) e s:=by
 have key:∀ s,z1bh M nb rv fm s=some r→z140 M nb rv fm (fun rs bs os=>rs=r.1∧bs=r.2.1∧os=r.2.2) s:=by
  intro s h
  unfold z1bh at h
  unfold z140
  split at h
  ·rename_i al bs h1 h2
   rw[h1,h2];dsimp only
   split at h
   ·rename_i rs os h3
    rw[h3];dsimp only
    split at h
    ·rename_i bs' rs' h4;rw[h4];cases h;exact⟨rfl,rfl,rfl⟩
    ·simp at h
   ·simp at h
  ·simp at h
 intro e s h
 cases e<;>first | exact key s h | simp [z1ni] at h
theorem z1vl {c:Code} {s:S U} {rv:List ResultVar} {fm:List Kind} {r:RF U} (h:awf M N c s (retF M rv fm)=some r) : Runs (awp M N c s (retQ M rv fm fun rs os=>rs=r.1∧os=r.2)) :=
 ⟨zhj c z21k h⟩
theorem z1sh {c:Code} {s:S U} {nb:Nat} {rv:List ResultVar} {fm:List Kind} {r:RGF U} (h:awf M N c s (z1ni M nb rv fm)=some r) : Runs (awp M N c s (z2i M nb rv fm fun rs bs os=>rs=r.1∧bs=r.2.1∧os=r.2.2)) :=
 ⟨zhj c z1yn h⟩
end
theorem zd {M:Mc Un} {fns:FuncId→Option (FnC Un)} {fvs:FuncId→Option (FV Un)} {clo:FuncId→Option (List (List (DC Un))→Option (FV Un))} {gns:FuncId→Option (List Bool×FnG Un)} {ups:FuncId→Option (FnU Un)} (hM:M=mach fns fvs clo gns ups) (hF:FnsOK Tryz.prog (mach fns fvs clo gns ups))
  {f:FuncId} {fn:Func} (hf:Tryz.prog.funcs[f]? = some fn) (hb:fn.body=some (z8 fn)) (N:Nat→NS) (x:Nat) (fm:List Kind) {args:List (D Un)} {rs:List (A Un)} {os:List (Ob Un)}
  (h:(∀ a∈args,DWf En a)→awf M N (z8 fn) (zg fn.ntmps x args) (retF M fn.results.toList fm)=some (rs,os)) : Contract Tryz.prog En f args rs os :=
 z2t hM hF hf hb N x fm fun ha=>z1vl (r:=(rs,os)) (h ha)
theorem z4v {n i:Nat} (hi:i<n) (hn:n≤9223372036854775807) : IntKind.i64.wrap ((i:Int)+1)=((i+1:Nat):Int):=by
 rw[IntKind.wrap_i64];omega
theorem z42 {σ α:Type} {L:S Un→Option (EX Un)} {st:σ→Int→S Un} {l:List α} {d:α} {g:σ→α→σ} (Inv:Nat→σ→Prop) (hl:l.length≤9223372036854775807)
  (step:∀ (a:σ) (i:Nat) (x:α),(i:Int)<(l.length:Int)→l.getD i d=x→Inv i a→Inv (i+1) (g a x)∧L (st a i)=L (st (g a x) (IntKind.i64.wrap ((i:Int)+1))))
  {e:Exit} (stop:∀ a,Inv l.length a→L (st a (l.length:Int))=some (e,st a (l.length:Int))) (a:σ) (h0:Inv 0 a) :
  L (st a (0:Int))=some (e,st (l.foldl g a) (l.length:Int))∧Inv l.length (l.foldl g a):=by
 have key:∀ (r:List α) (i:Nat) (a:σ),l.drop i=r→i≤l.length→Inv i a→L (st a i)=some (e,st (r.foldl g a) (l.length:Int))∧Inv l.length (r.foldl g a):=by
  intro r
  induction r with
  | nil =>
   intro i a hr hi hI
   have : l.length≤i:=by rw[← List.drop_eq_nil_iff];exact hr
   obtain rfl : i=l.length:=by omega
   exact⟨stop a hI,hI⟩
  | cons x r ih =>
   intro i a hr hi hI
   have hlt:i<l.length:=by
    rcases Nat.lt_or_ge i l.length with g | g
    ·exact g
    ·rw[List.drop_of_length_le g] at hr;simp at hr
   have hx:l.getD i d=x:=by
    rw[List.drop_eq_getElem_cons hlt] at hr
    rw[List.getD_eq_getElem?_getD,List.getElem?_eq_getElem hlt]
    exact (List.cons.inj hr).1
   have hr':l.drop (i+1)=r:=by
    rw[List.drop_eq_getElem_cons hlt] at hr
    exact (List.cons.inj hr).2
   obtain⟨h1,h2⟩:=step a i x (by omega) hx hI
   rw[h2,z4v hlt hl]
   exact ih (i+1) (g a x) hr' hlt h1
 exact key l 0 a rfl (Nat.zero_le _) h0
theorem zn {α:Type} {X:Option (EX Un)} {e:Exit} {s:S Un} {C:Exit→S Un→Option α} (h:X=some (e,s)) : X.bind (zx C)=C e s:=by rw[h];rfl
def bl : Nat→Nat→List Bool
 | 0,_=>[]
 | k+1,m=>Nat.beq (m % 2) 1::bl k (m / 2)
def ai (n:Int) : AV Un:=.one (.c (.s (.int .i64 n)))
def ab (b:Bool) : AV Un:=.one (.c (.s (.bool b)))
def at_ (b:ByteArray) : AV Un:=.one (.c (.s (.string b)))
def ax (k:Nat) : AV Un:=.one (.c (.bx k 0))
def al (τ:Ty) (l:List (Den τ)) : AV Un:=.one (.c (.sl (U:=Un) τ l false))
def ag (τ:Ty) (x:Den τ) : AV Un:=.one (.agg (encC τ x))
def ao (k:Nat) : AV Un:=.one (.c (.ob k 0))
def bb (n:Bool) : Option (Bool×List (C Un)):=some (false,[.s (.bool n)])
def bg (τ:Ty) (x:Den τ) : Option (Bool×List (C Un)):=some (false,encC τ x)
def bo (k:Nat) : Option (Bool×List (C Un)):=some (false,[.ob k 0])
def Term.ids (x:Term) : Term:=.mk (Term.op x) (Term.v x) (Term.depth x) (Term.at_ x) (Term.name x) (Term.kids x) (Term.sub x) (Term.type x)
theorem Term.ids_eq (x:Term) : Term.ids x=x:=by cases x;rfl
def Agg.ids (x:Agg) : Agg:=.mk (Agg.name x) (Agg.distinct x) (Agg.t x)
theorem Agg.ids_eq (x:Agg) : Agg.ids x=x:=by cases x;rfl
def Rel.ids (x:Rel) : Rel:=.mk (Rel.op x) (Rel.table x) (Rel.cols x) (Rel.kids x) (Rel.terms x) (Rel.aggs x) (Rel.keys x) (Rel.limit x) (Rel.skip x) (Rel.all x) (Rel.rows x)
theorem Rel.ids_eq (x:Rel) : Rel.ids x=x:=by cases x;rfl
def Plan.ids (x:Plan) : Plan:=.mk (Plan.op x) (Plan.table x) (Plan.index x) (Plan.cols x) (Plan.kids x) (Plan.terms x) (Plan.lkeys x) (Plan.rkeys x) (Plan.aggs x) (Plan.keys x) (Plan.out x) (Plan.lo x) (Plan.hi x) (Plan.limit x) (Plan.skip x) (Plan.all x) (Plan.rows x) (Plan.est x) (Plan.cost x)
theorem Plan.ids_eq (x:Plan) : Plan.ids x=x:=by cases x;rfl
end Go.Proofs.YtjfpbchdcbhfgaaGreat.B
namespace Go.Proofs.YtjfpbchdcbhfgaaGreat.B
open Go Go.RowKit
set_option maxRecDepth 100000
noncomputable section
attribute [local irreducible] awp ctxK z12 z1o retQ z2i
def inN (n:Int) : Bool:=decide (-1000000000000000≤n∧n≤1000000000000000)
def zu4 (s:ByteArray) : Bool:=s.toList.all (fun b=>decide (32≤b.toNat∧b.toNat≤126)) && decide (s.size≤100)
def zak (v:Val) : Bool :=
 if v.kind=0 then decide (v.n=0) && decide (v.s.size=0)
 else if v.kind=1 then decide (v.n=0∨v.n=1) && decide (v.s.size=0)
 else if v.kind=2 then inN v.n && decide (v.s.size=0)
 else if v.kind=3 then decide (v.n=0) && zu4 v.s
 else false
def cmpI (a b:Int) : Int:=if a<b then -1 else if a > b then 1 else 0
def cmpL : List UInt8→List UInt8→Int
 | [],[]=>0
 | [],_::_=>-1
 | _::_,[]=>1
 | a::l,b::r=>if a=b then cmpL l r else cmpI a.toNat b.toNat
def cmpS (a b:ByteArray) : Int:=cmpL a.toList b.toList
def ordV (a b:Val) : Int:=if a.kind=b.kind then (if a.n=b.n then cmpS a.s b.s else cmpI a.n b.n) else cmpI a.kind b.kind
def ordR : List Val→List Val→Int
 | [],[]=>0
 | [],_::_=>-1
 | _::_,[]=>1
 | a::l,b::r=>if ordV a b=0 then ordR l r else ordV a b
theorem z38 (s:ByteArray) : s.toList.length=s.size:=by rw[ByteArray.toList_eq,Array.length_toList];rfl
theorem zwu (s:ByteArray) : s.toList=[]↔s.size=0:=by rw[← z38];exact List.length_eq_zero_iff.symm
theorem z1ok (s:ByteArray) : (s.toList == (⟨#[]⟩ : ByteArray).toList)=decide (s.size=0):=by
 have h:(⟨#[]⟩ : ByteArray).toList=[]:=by rw[zwu];rfl
 rw[h]
 by_cases hs : s.size=0
 ·rw[(zwu s).2 hs,decide_eq_true hs];rfl
 ·have : s.toList≠[]:=fun e=>hs ((zwu s).1 e)
  rw[decide_eq_false hs];simpa using this
theorem z1jg {a b:ByteArray} (h:a.toList=b.toList) : a=b:=by
 rw[ByteArray.toList_eq,ByteArray.toList_eq] at h
 cases a;cases b;simp at h;subst h;rfl
theorem z1vm (s:ByteArray) (i:Nat) (h:i<s.size) : (Utf8.decode s i).1=(s.toList.getD i 0).toNat∧(Utf8.decode s i).2=1∨128≤(s.toList.getD i 0).toNat∧128≤(Utf8.decode s i).1:=by
 have hg:s.get! i=s.toList.getD i 0:=by
  have hb:=z1ip s i h
  rw[getElem?_pos s i h] at hb
  simp only[Option.some.injEq] at hb
  rw[← hb]
  show s.data[i]! = s.data[i]
  exact getElem!_pos s.data i h
 unfold Utf8.decode
 simp only[Nat.add_zero,hg]
 generalize (s.toList.getD i 0).toNat=b
 by_cases hb : b<0x80
 ·simp [hb]
 ·right
  refine⟨by omega,?_⟩
  simp only[hb,if_false]
  repeat' split
  all_goals first | (simp [Utf8.runeError];done) | (simp_all;done) | (simp_all;omega)
theorem zqe {a b:Int} : cmpI a b=0↔a=b:=by
 unfold cmpI
 by_cases h1 : a<b
 ·rw[if_pos h1];omega
 ·rw[if_neg h1]
  by_cases h2 : a > b
  ·rw[if_pos h2];omega
  ·rw[if_neg h2];omega
theorem z1jh : ∀ {a b:List UInt8},cmpL a b=0↔a=b
 | [],[]=>by simp [cmpL]
 | [],_::_=>by simp [cmpL]
 | _::_,[]=>by simp [cmpL]
 | a::l,b::r=>by
  simp only[cmpL]
  split
  ·rename_i h;subst h;rw[z1jh];simp
  ·rename_i h
   rw[zqe]
   constructor
   ·intro e;exact absurd (UInt8.toNat_inj.1 (Int.ofNat_inj.1 e)) h
   ·intro e;simp at e;exact absurd e.1 h
theorem z1yo {a b:ByteArray} : cmpS a b=0↔a=b:=by
 unfold cmpS;rw[z1jh]
 exact⟨z1jg,fun h=>by rw[h]⟩
theorem ordV_zero {a b:Val} : ordV a b=0↔a=b:=by
 cases a;cases b
 unfold ordV
 simp only
 split
 ·split
  ·rename_i h1 h2;subst h1;subst h2;rw[z1yo];simp
  ·rename_i h1 h2;rw[zqe];simp [h2]
 ·rename_i h1;rw[zqe];simp [h1]
theorem ordR_zero : ∀ {a b:List Val},ordR a b=0↔a=b
 | [],[]=>by simp [ordR]
 | [],_::_=>by simp [ordR]
 | _::_,[]=>by simp [ordR]
 | a::l,b::r=>by
  simp only[ordR]
  split
  ·rename_i h;rw[ordV_zero] at h;subst h;rw[ordR_zero];simp
  ·rename_i h
   constructor
   ·intro e;exact absurd e h
   ·intro e;simp at e;rw[e.1] at h;exact absurd (ordV_zero.2 rfl) h
end
end Go.Proofs.YtjfpbchdcbhfgaaGreat.B
namespace Go.Proofs.YtjfpbchdcbhfgaaGreat.B
open Go Go.RowKit
set_option maxRecDepth 100000
noncomputable section
attribute [local irreducible] awp ctxK z12 z1o retQ z2i awf ctxF zt
def zsk : Mc Un:=mach (tbl []) (tbl []) (tbl []) (tbl []) (tbl [])
def z15i (r:Val) : List (A Un):=[.agg (encC Ty.val r)]
def z15j (_r:Val) : List (Ob Un):=[]
def z15k (r:Val) : RF Un:=(z15i r,z15j r)
def z15l : Nat→NS:=fun l=>(look l []).getD ⟨[],[],[],[],[],false⟩
def z10t (n:Int) : Option (RF Un):=awf zsk z15l (z8 Tryz.f32) (zg Tryz.f32.ntmps 0 [.d (.v (.s (.int .i64 n)))]) (retF zsk Tryz.f32.results.toList [.d])
theorem z1ol (n:Int) : z10t n=some (z15k ({ kind:=(2:Int),n:=n,s:=(ByteArray.mk #[]) })):=by kernel_rfl
def zh (n:Int) : Val :=
 ({ kind:=(2:Int),n:=n,s:=(ByteArray.mk #[]) })
theorem z1om (n:Int) : z10t n=some (z15k (zh n)):=by rw[z1ol];unfold zh;simp only[za];repeat (first | rfl | split)
def z52 : FnC Un:=fun args=>match args with
 | [x0]=>(dI .i64 x0).bind fun n=>some ([],z15i (zh n),z15j (zh n))
 | _=>none
theorem zdx : FnOK 32 z52:=by
 intro args ob rs os h hob
 unfold z52 at h
 split at h
 ·simp only[Option.bind_eq_some_iff,Option.some.injEq,Prod.mk.injEq] at h
  obtain⟨n,e0,rfl,rfl,rfl⟩:=h
  obtain rfl:=z1t e0
  exact⟨zd (M:=zsk) rfl (zf (l1:=[]) (l2:=[]) (l3:=[]) (l4:=[]) (l5:=[]) trivial trivial trivial trivial trivial) Tryz.func32 (by kernel_rfl) z15l 0 [.d] (fun hwf=>(z1om n)),zb Tryz.func32 (by kernel_rfl) (by kernel_rfl)⟩
 ·simp at h
end
end Go.Proofs.YtjfpbchdcbhfgaaGreat.B
namespace Go.Proofs.YtjfpbchdcbhfgaaGreat.B
open Go Go.RowKit
set_option maxRecDepth 100000
noncomputable section
attribute [local irreducible] awp ctxK z12 z1o retQ z2i
def zop : Mc Un:=mach (tbl []) (tbl []) (tbl []) (tbl []) (tbl [])
def z18u : Nat→NS:=fun l=>(look l []).getD ⟨[],[],[],[],[],false⟩
def zoq (r:Bool) : List (A Un):=[.c (.s (.bool r))]
def zor (_r:Bool) : List (Ob Un):=[]
theorem z1yp (n:Int) (K:List (A Un)→List (Ob Un)→Prop) :
  awp zop z18u (z8 Tryz.f211) (zg Tryz.f211.ntmps 0 [.d (.v (.s (.int .i64 n)))]) (retQ zop Tryz.f211.results.toList [.d] K) =
(cnd (decide (n≥(-1000000000000000:Int)))
 (K (zoq (decide (n≤(1000000000000000:Int)))) (zor (decide (n≤(1000000000000000:Int)))))
 (K (zoq (false)) (zor (false)))):=by kernel_rfl
def zqf (n:Int) : Option (Bool) :=
  if (decide (n≥(-1000000000000000:Int)))=true then
   some (decide (n≤(1000000000000000:Int)))
  else
   some (false)
theorem z1vn {n:Int} {r:Bool} (h:zqf n=some r) : Runs (awp zop z18u (z8 Tryz.f211) (zg Tryz.f211.ntmps 0 [.d (.v (.s (.int .i64 n)))]) (retQ zop Tryz.f211.results.toList [.d] fun rs os=>rs=zoq r∧os=zor r)):=by
 constructor
 rw[z1yp n (fun rs os=>rs=zoq r∧os=zor r)]
 unfold zqf at h
 rcases z15 h with ⟨c1,h2⟩ | ⟨c1,h2⟩
 ·cases h2
  exact (z1j c1 ⟨rfl,rfl⟩)
 ·cases h2
  exact (zr (zk c1) ⟨rfl,rfl⟩)
def z1v (n:Int) : Bool :=
  if (decide (n≥(-1000000000000000:Int)))=true then
   (decide (n≤(1000000000000000:Int)))
  else
   (false)
theorem z1yq (n:Int) : zqf n=some (z1v n):=by unfold zqf z1v;repeat (first | rfl | split)
def z3u : FnC Un:=fun args=>match args with
 | [x0]=>(dI .i64 x0).bind fun n=>some ([],zoq (z1v n),zor (z1v n))
 | _=>none
theorem zal : FnOK 211 z3u:=by
 intro args ob rs os h hob
 unfold z3u at h
 split at h
 ·simp only[Option.bind_eq_some_iff,Option.some.injEq,Prod.mk.injEq] at h
  obtain⟨n,e0,rfl,rfl,rfl⟩:=h
  obtain rfl:=z1t e0
  exact⟨z2t (M:=zop) rfl (zf (l1:=[]) (l2:=[]) (l3:=[]) (l4:=[]) (l5:=[]) trivial trivial trivial trivial trivial) Tryz.func211 (by kernel_rfl) z18u 0 [.d] (fun hwf=>z1vn (z1yq n)),zb Tryz.func211 (by kernel_rfl) (by kernel_rfl)⟩
 ·simp at h
@[simp] theorem zsl (n:Int) : z1v n=inN n:=by
 unfold z1v inN
 by_cases h : n≥-1000000000000000
 ·rw[if_pos (decide_eq_true h)];congr 1;simp only[eq_iff_iff];omega
 ·rw[if_neg (by simpa using h)];symm;simp only[decide_eq_false_iff_not];omega
end
end Go.Proofs.YtjfpbchdcbhfgaaGreat.B
namespace Go.Proofs.YtjfpbchdcbhfgaaGreat.B
open Go Go.RowKit
set_option maxRecDepth 1000000
def isB1 : Option (List Prop×List (D0 Un))→Bool
 | some ([],[.v (.s (.bool _))])=>true
 | _=>false
noncomputable def z1yr (p:Prop) : Bool:=@decide p (Classical.propDecidable p)
theorem boolOf_iff {p:Prop} : z1yr p=true↔p:=@decide_eq_true_iff p (Classical.propDecidable p)
noncomputable def zcs (φ:FV Un) : Bool:=z1yr (∀ c : Nat,c≤1114111→isB1 (φ [.v (.s (.int .i32 c))])=true)
def zej (φ:FV Un) (c:Nat) : Bool :=
 match φ [.v (.s (.int .i32 c))] with
 | some (_,[.v (.s (.bool b))])=>b
 | _=>false
theorem z15m (φ:FV Un) : zcs φ=true↔∀ c,c≤1114111→φ [.v (.s (.int .i32 (c:Nat)))]=some ([],[.v (.s (.bool (zej φ c)))]):=by
 unfold zcs
 refine boolOf_iff.trans ?_
 refine forall_congr' fun c=>forall_congr' fun _=>?_
 unfold isB1 zej
 split
 ·rename_i b e
  rw[e];simp
 ·rename_i hn
  refine⟨fun h=>by simp at h,fun h=>absurd h ?_⟩
  intro h
  exact hn _ h
def z84 (p:Nat→Bool) (t:Bool) (s:ByteArray) : Nat→Nat→Int
 | 0,_=>-1
 | f+1,pos=>if pos<s.size then (if p (Utf8.decode s pos).1=t then (pos:Int) else z84 p t s f (pos+(Utf8.decode s pos).2)) else -1
@[irreducible] def idxF (p:Nat→Bool) (t:Bool) (s:ByteArray) : Int:=z84 p t s s.size 0
theorem z15n (p:Nat→Bool) (t:Bool) (s:ByteArray) (f pos:Nat) (h:¬ pos<s.size) : z84 p t s f pos=-1:=by cases f<;>simp [z84,h]
set_option maxHeartbeats 2000000 in
set_option maxRecDepth 1000000 in
theorem z1gc (g:Nat) (lb:Array Value) (hg:z3q Tryz.prog g) (p:Nat→Bool) (truth:Bool) (s:ByteArray) (w:World)
  (hp:∀ (W:World) (x:Nat),x≤1114111→Below w.heap.size w W→Calls Tryz.prog g (#[.int .i32 (x:Int)]++lb) W fun e W'=>e=.returned (.bool (p x))∧Below W.heap.size W W') :
  Calls Tryz.prog 252 #[.string s,.func (.func g) #[] lb,.bool truth] w fun e w'=>e=.returned (.int .i64 (idxF p truth s))∧Below w.heap.size w w':=by
 have eg:∀ args w,(callFunc g args).run Tryz.prog w=.ok (.enter g args) w:=by
  obtain⟨fn,c,h1,h2,h3⟩:=hg
  exact enters_of h1 h3 h2
 unfold idxF
 go_enter Tryz.func252,Tryz.ntmps252
 go_wp2
 go_loopg [] s.size (fun gf wx=>∃ pos : Nat,wx.heap[w.heap.size]? = some (.stringIter s pos)∧Below w.heap.size w wx∧z84 p truth s gf pos=z84 p truth s s.size 0∧s.size≤pos+gf)
 case atStart=>exact⟨0,World.iter_heap w s 0,(Below.refl _ w).alloc (Nat.le_refl _) _,rfl,by omega⟩
 case round =>
  obtain⟨pos,hit,hbw,hleft,hfu⟩:=hrel
  by_cases hps : pos<s.size
  ·obtain⟨g',rfl⟩ : ∃ g',gk=g'+1:=⟨gk - 1,by omega⟩
   have hnx:∀ ty,(Instr.next (.pointer (some ⟨w.heap.size,0,none⟩)) true ty).run Tryz.prog wr=_:=fun ty=>Lib.run_next_any_at wr w.heap.size s pos ty hit hps
   have hwd:=Lib.width_pos s pos
   obtain⟨R,hR⟩ : ∃ R,(Utf8.decode s pos).1=R:=⟨_,rfl⟩
   obtain⟨K,hK⟩ : ∃ K,(Utf8.decode s pos).2=K:=⟨_,rfl⟩
   simp only[z84,hps,if_true,hR,hK] at hleft
   rw[hR,hK] at hnx
   rw[hK] at hwd
   have hit2:=Lib.iterAt_heap wr w.heap.size s pos (pos+K) hit
   have hbw2:=Lib.below_iterAt hbw (k:=w.heap.size) (Nat.le_refl _) s (pos+K)
   obtain⟨W,hWd⟩ : ∃ W,wr.iterAt w.heap.size s (pos+K)=W:=⟨_,rfl⟩
   rw[hWd] at hnx hit2 hbw2
   have hlt:w.heap.size<W.heap.size:=(Array.getElem?_eq_some_iff.1 hit2).1
   have cS:Calls Tryz.prog g (#[.int .i32 (R:Int)]++lb) W _:=hp W R (by rw[← hR];exact Lib.rune_le s pos) hbw2
   clear hp
   cases hsp : p R<;>cases truth<;>rw[hsp] at cS<;>simp only[hsp,if_true,Bool.false_eq_true,Bool.true_eq_false,if_false] at hleft
   ·go_wp2_with (go_at_fn g;refine cS.mono ?_;rintro e W' ⟨rfl,hb⟩)
    go_ret
    exact⟨by rw[← hleft]<;>rfl,hbw2.trans (hb.mono hbw2.size)⟩
   ·go_wp2_with (go_at_fn g;refine cS.mono ?_;rintro e W' ⟨rfl,hb⟩)
    go_roundg g'
    case measure=>omega
    case rel=>exact⟨pos+K,(hb.block _ hlt).trans hit2,hbw2.trans (hb.mono hbw2.size),hleft,by omega⟩
   ·go_wp2_with (go_at_fn g;refine cS.mono ?_;rintro e W' ⟨rfl,hb⟩)
    go_roundg g'
    case measure=>omega
    case rel=>exact⟨pos+K,(hb.block _ hlt).trans hit2,hbw2.trans (hb.mono hbw2.size),hleft,by omega⟩
   ·go_wp2_with (go_at_fn g;refine cS.mono ?_;rintro e W' ⟨rfl,hb⟩)
    go_ret
    exact⟨by rw[← hleft]<;>rfl,hbw2.trans (hb.mono hbw2.size)⟩
  ·have hnx:∀ ty,(Instr.next (.pointer (some ⟨w.heap.size,0,none⟩)) true ty).run Tryz.prog wr=_:=fun ty=>Lib.run_next_end_at wr w.heap.size s pos ty hit hps
   rw[z15n p truth s gk pos hps] at hleft
   go_wp2
   go_ret
   exact⟨by rw[← hleft]<;>rfl,hbw⟩
noncomputable def z9p : FnC Un:=fun args=>match args with
 | [x0,x1,x2]=>(dStr x0).bind fun s=>(dF x1).bind fun φ=>(dB x2).bind fun t=>some ([zcs φ=true],[.c (.s (.int .i64 (idxF (zej φ) t s)))],[])
 | _=>none
theorem zy6 (p:Nat→Bool) (t:Bool) (s:ByteArray) : ∀ (f pos:Nat),z84 p t s f pos=-1∨((pos:Int)≤z84 p t s f pos∧z84 p t s f pos<s.size)
 | 0,_=>.inl rfl
 | f+1,pos=>by
  simp only[z84]
  split
  ·split
   ·right;omega
   ·rcases zy6 p t s f (pos+(Utf8.decode s pos).2) with h | h
    ·exact .inl h
    ·right;omega
  ·exact .inl rfl
theorem z1vo (p:Nat→Bool) (t:Bool) (s:ByteArray) : -1≤idxF p t s∧idxF p t s≤s.size:=by
 unfold idxF
 rcases zy6 p t s s.size 0 with h | h<;>omega
theorem zwv : FnOK 252 z9p:=by
 intro args ob rs os h hob
 unfold z9p at h
 split at h
 ·rename_i x0 x1 x2
  simp only[Option.bind_eq_some_iff,Option.some.injEq,Prod.mk.injEq] at h
  obtain⟨s,e0,φ,e1,t,e2,rfl,rfl,rfl⟩:=h
  obtain rfl:=z57 e0
  obtain rfl:=zki e1
  obtain rfl:=z1nd e2
  have hr:=(z15m φ).1 (hob _ (by simp))
  refine⟨?_,zb Tryz.func252 (by kernel_rfl) (by kernel_rfl)⟩
  intro w St vs hbd hvs hld
  match vs,hvs with
  | [v0,v1,v2],⟨h0,⟨g,caps,e1,hg,hgv⟩,h2,_⟩ =>
   have e0:v0=.string s∧oneC (.string s)=true:=by
    have h0':VRel En St w v0 (.s (.string s)):=h0
    cases h0' with | s _ h=>exact⟨rfl,h⟩
   have e2:v2=.bool t:=by
    have h2':VRel En St w v2 (.s (.bool t)):=h2
    cases h2' with | s _ _=>rfl
   obtain⟨e0,hsz⟩:=e0
   subst e0;subst e1;subst e2
   have hsz':=oneC_str.1 hsz
   have:=z1gc g caps hg (zej φ) t s w (fun W x hx hb=>by
    have hk:Keeps St w St W:=fun b o hs=>⟨hs,Below.cell hb (hbd b o hs)⟩
    have:=hgv St W hk (fun b o hs=>Nat.lt_of_lt_of_le (hbd b o hs) hb.size) (hld.ext hb) [.v (.s (.int .i32 (x:Nat)))] [] _ (hr x hx) (by simp) [.int .i32 (x:Int)] ⟨.s _ (by
     refine oneC_int.2 ⟨?_,?_⟩
     ·have : IntKind.i32.min=-2147483648:=rfl
      omega
     ·have : IntKind.i32.max=2147483647:=rfl
      omega),trivial⟩
    refine Calls.mono this ?_
    rintro e W' ⟨v,rfl,⟨hext,St',_,_,hrr⟩,_⟩
    have hv:VRel En St' W' v (.s (.bool (zej φ x))):=hrr
    cases hv with | s _ _=>exact⟨rfl,hext⟩)
   refine Calls.mono this ?_
   rintro e w' ⟨rfl,hb⟩
   let gg : G:={ β:=fun _=>0,lb:=fun _=>False,ω:=fun _ _=>none,tk:=fun _=>(none,0) }
   have hin:=z1vo (zej φ) t s
   refine⟨_,rfl,hb,gg,fun _ h=>h,fun b o x _ h=>by simp [gg] at h,fun b o x h=>by simp [gg] at h,⟨rfl,oneC_i64.2 (by omega)⟩,fun k o h=>by simp at h⟩
 ·simp at h
end Go.Proofs.YtjfpbchdcbhfgaaGreat.B
namespace Go.Proofs.YtjfpbchdcbhfgaaGreat.B
open Go Go.RowKit
set_option maxRecDepth 100000
noncomputable section
attribute [local irreducible] awp ctxK z12 z1o retQ z2i
def z7a : Mc Un:=mach (tbl [(252,z9p)]) (tbl []) (tbl []) (tbl []) (tbl [])
def zdg : Nat→NS:=fun l=>(look l []).getD ⟨[],[],[],[],[],false⟩
def z9q (r:Int) : List (A Un):=[.c (.s (.int .i64 r))]
def z9r (_r:Int) : List (Ob Un):=[]
theorem zww (s:ByteArray) (φ:FV Un) (K:List (A Un)→List (Ob Un)→Prop) :
  awp z7a zdg (z8 Tryz.f247) (zg Tryz.f247.ntmps 0 [.d (.v (cs s)),.fn φ]) (retQ z7a Tryz.f247.results.toList [.d] K) =
((zcs φ=true) ∧
(K (z9q (idxF (zej φ) true s)) (z9r (idxF (zej φ) true s)))):=by kernel_rfl
def z8l (s:ByteArray) (φ:FV Un) : Option (Int) :=
  if zcs φ=true then
   some (idxF (zej φ) true s)
  else none
theorem zu5 {s:ByteArray} {φ:FV Un} {r:Int} (h:z8l s φ=some r) : Runs (awp z7a zdg (z8 Tryz.f247) (zg Tryz.f247.ntmps 0 [.d (.v (cs s)),.fn φ]) (retQ z7a Tryz.f247.results.toList [.d] fun rs os=>rs=z9q r∧os=z9r r)):=by
 constructor
 rw[zww s φ (fun rs os=>rs=z9q r∧os=z9r r)]
 unfold z8l at h
 obtain⟨c1,h2⟩:=z8z h
 cases h2
 exact (And.intro c1 ⟨rfl,rfl⟩)
def strings_IndexFunc (s:ByteArray) (φ:FV Un) : Int:=idxF (zej φ) true s
theorem zsm (s:ByteArray) (φ:FV Un) (_hs:WStr s) (h:zcs φ=true) : z8l s φ=some (strings_IndexFunc s φ):=by
 simp [z8l,strings_IndexFunc,h]
def z9s : FnC Un:=fun args=>match args with
 | [x0,x1]=>(dStr x0).bind fun s=>(dF x1).bind fun φ=>some ([zcs φ=true],z9q (strings_IndexFunc s φ),z9r (strings_IndexFunc s φ))
 | _=>none
theorem zwx : FnOK 247 z9s:=by
 intro args ob rs os h hob
 unfold z9s at h
 split at h
 ·simp only[Option.bind_eq_some_iff,Option.some.injEq,Prod.mk.injEq] at h
  obtain⟨s,e0,φ,e1,rfl,rfl,rfl⟩:=h
  obtain rfl:=z57 e0
  obtain rfl:=zki e1
  exact⟨z2t (M:=z7a) rfl (zf (l1:=[(252,z9p)]) (l2:=[]) (l3:=[]) (l4:=[]) (l5:=[]) ⟨zwv,trivial⟩ trivial trivial trivial trivial) Tryz.func247 (by kernel_rfl) zdg 0 [.d] (fun hwf=>zu5 (zsm s φ (ze hwf (a:=.d (.v (cs s))) (List.mem_of_getElem? (i:=0) rfl)) (hob _ (List.mem_of_getElem? (i:=0) rfl)))),zb Tryz.func247 (by kernel_rfl) (by kernel_rfl)⟩
 ·simp at h
end
end Go.Proofs.YtjfpbchdcbhfgaaGreat.B
namespace Go.Proofs.YtjfpbchdcbhfgaaGreat.B
open Go Go.RowKit
set_option maxRecDepth 100000
noncomputable section
attribute [local irreducible] awp ctxK z12 z1o retQ z2i
theorem z1ua {p:Nat→Bool} (hp:∀ c,p c=(decide (c<32) || decide (126<c))) (s:ByteArray) : ∀ (f pos:Nat),s.size≤pos+f→(z84 p true s f pos<0↔∀ b∈s.toList.drop pos,32≤b.toNat∧b.toNat≤126)
 | 0,pos,h=>by
  have : s.toList.drop pos=[]:=List.drop_of_length_le (by rw[z38];omega)
  simp [z84,this]
 | f+1,pos,h=>by
  by_cases hps : pos<s.size
  ·have hl:pos<s.toList.length:=by rw[z38];exact hps
   have hd:s.toList.drop pos=s.toList.getD pos 0::s.toList.drop (pos+1):=by
    rw[List.drop_eq_getElem_cons hl,List.getD_eq_getElem?_getD,List.getElem?_eq_getElem hl];rfl
   simp only[z84,hps,if_true]
   rw[hd,List.forall_mem_cons]
   have hdec:=z1vm s pos hps
   generalize s.toList.getD pos 0=b at hdec ⊢
   rcases hdec with ⟨h1,h2⟩ | ⟨h1,h2⟩
   ·rw[h1,h2,← z1ua hp s f (pos+1) (by omega),hp]
    by_cases hb : 32≤b.toNat∧b.toNat≤126
    ·have e:(decide (b.toNat<32) || decide (126<b.toNat))=false:=by simp;omega
     rw[e];simp [hb]
    ·have e:(decide (b.toNat<32) || decide (126<b.toNat))=true:=by simp;omega
     rw[e];simp only[if_true];constructor
     ·intro hh;omega
     ·intro hh;exact absurd hh.1 hb
   ·have e:p (Utf8.decode s pos).1=true:=by rw[hp];simp;omega
    rw[e];simp only[if_true];constructor
    ·intro hh;omega
    ·intro hh;omega
  ·have : s.toList.drop pos=[]:=List.drop_of_length_le (by rw[z38];omega)
   rw[z15n _ _ _ _ _ hps];simp [this]
def zfs : Mc Un:=mach (tbl []) (tbl []) (tbl []) (tbl []) (tbl [])
def zsn : Nat→NS:=fun l=>(look l []).getD ⟨[],[],[],[],[],false⟩
def zft (r:Bool) : List (A Un):=[.c (.s (.bool r))]
def zfu (_r:Bool) : List (Ob Un):=[]
theorem z1on (c:Int) (K:List (A Un)→List (Ob Un)→Prop) :
  awp zfs zsn (z8 Tryz.f248) (zg Tryz.f248.ntmps 0 [.d (.v (.s (.int .i32 c)))]) (retQ zfs Tryz.f248.results.toList [.d] K) =
(cnd (decide (c<(32:Int)))
 (K (zft (true)) (zfu (true)))
 (K (zft (decide (c > (126:Int)))) (zfu (decide (c > (126:Int)))))):=by kernel_rfl
def zib (c:Int) : Option (Bool) :=
  if (decide (c<(32:Int)))=true then
   some (true)
  else
   some (decide (c > (126:Int)))
theorem z1ln {c:Int} {r:Bool} (h:zib c=some r) : Runs (awp zfs zsn (z8 Tryz.f248) (zg Tryz.f248.ntmps 0 [.d (.v (.s (.int .i32 c)))]) (retQ zfs Tryz.f248.results.toList [.d] fun rs os=>rs=zft r∧os=zfu r)):=by
 constructor
 rw[z1on c (fun rs os=>rs=zft r∧os=zfu r)]
 unfold zib at h
 rcases z15 h with ⟨c1,h2⟩ | ⟨c1,h2⟩
 ·cases h2
  exact (z1j c1 ⟨rfl,rfl⟩)
 ·cases h2
  exact (zr (zk c1) ⟨rfl,rfl⟩)
def zdy (c:Int) : Bool :=
  if (decide (c<(32:Int)))=true then
   (true)
  else
   (decide (c > (126:Int)))
theorem z1oo (c:Int) : zib c=some (zdy c):=by unfold zib zdy;repeat (first | rfl | split)
def zkk : FnC Un:=fun args=>match args with
 | [x0]=>(dI .i32 x0).bind fun c=>some ([],zft (zdy c),zfu (zdy c))
 | _=>none
theorem z1op : FnOK 248 zkk:=by
 intro args ob rs os h hob
 unfold zkk at h
 split at h
 ·simp only[Option.bind_eq_some_iff,Option.some.injEq,Prod.mk.injEq] at h
  obtain⟨c,e0,rfl,rfl,rfl⟩:=h
  obtain rfl:=z1t e0
  exact⟨z2t (M:=zfs) rfl (zf (l1:=[]) (l2:=[]) (l3:=[]) (l4:=[]) (l5:=[]) trivial trivial trivial trivial trivial) Tryz.func248 (by kernel_rfl) zsn 0 [.d] (fun hwf=>z1ln (z1oo c)),zb Tryz.func248 (by kernel_rfl) (by kernel_rfl)⟩
 ·simp at h
def z3l : FV Un:=fun args=>match args with
 | [x0]=>(dI .i32 (.d x0)).bind fun c=>some ([],[.v (cb (zdy c))])
 | _=>none
theorem z1lo : FvOK 248 z3l:=by
 refine⟨zb Tryz.func248 (by kernel_rfl) (by kernel_rfl),fun args ob rs h hob=>?_⟩
 unfold z3l at h
 split at h
 ·simp only[Option.bind_eq_some_iff,Option.some.injEq,Prod.mk.injEq] at h
  obtain⟨c,e0,rfl,rfl⟩:=h
  simp only[List.map_cons,List.map_nil]
  rw[z1t e0]
  refine Contract.data (z1op _ ([]) _ _ (?_ : zkk _=some _) (by simp)).1
  unfold zkk
  simp only[z1bc]
  rfl
 ·simp at h
def zcl : Mc Un:=mach (tbl [(247,z9s),(211,z3u)]) (tbl [(248,z3l)]) (tbl []) (tbl []) (tbl [])
def zmi : Nat→NS:=fun l=>(look l []).getD ⟨[],[],[],[],[],false⟩
def z4b (r:Bool) : List (A Un):=[.c (.s (.bool r))]
def z4c (_r:Bool) : List (Ob Un):=[]
theorem z1gd (v:Val) (K:List (A Un)→List (Ob Un)→Prop) :
  awp zcl zmi (z8 Tryz.f240) (zg Tryz.f240.ntmps 0 [.d (.agg (enc Ty.val v))]) (retQ zcl Tryz.f240.results.toList [.d] K) =
(cnd (v.kind == (3:Int))
 (cnd (v.n == (0:Int))
  (cnd (decide ((↑v.s.size:Int)≤(100:Int)))
   ((zcs z3l=true) ∧
   (K (z4b (decide (strings_IndexFunc v.s z3l<(0:Int)))) (z4c (decide (strings_IndexFunc v.s z3l<(0:Int))))))
   (K (z4b (false)) (z4c (false))))
  (K (z4b (false)) (z4c (false))))
 (cnd (!v.s.toList == (ByteArray.mk #[]).toList)
  (K (z4b (false)) (z4c (false)))
  (cnd (v.kind == (0:Int))
   (K (z4b (v.n == (0:Int))) (z4c (v.n == (0:Int))))
   (cnd (v.kind == (1:Int))
    (K (z4b (IntKind.i64.wrap (↑(BitVec.ofInt IntKind.i64.bits v.n &&& ~~~BitVec.ofInt IntKind.i64.bits (1:Int)).toNat:Int) == (0:Int))) (z4c (IntKind.i64.wrap (↑(BitVec.ofInt IntKind.i64.bits v.n &&& ~~~BitVec.ofInt IntKind.i64.bits (1:Int)).toNat:Int) == (0:Int))))
    (cnd (v.kind == (2:Int))
     (K (z4b (z1v v.n)) (z4c (z1v v.n)))
     (K (z4b (false)) (z4c (false)))))))):=by kernel_rfl
def zek (v:Val) : Option (Bool) :=
  if (v.kind == (3:Int))=true then
   if (v.n == (0:Int))=true then
    if (decide ((↑v.s.size:Int)≤(100:Int)))=true then
     if zcs z3l=true then
      some (decide (strings_IndexFunc v.s z3l<(0:Int)))
     else none
    else
     some (false)
   else
    some (false)
  else
   if (!v.s.toList == (ByteArray.mk #[]).toList)=true then
    some (false)
   else
    if (v.kind == (0:Int))=true then
     some (v.n == (0:Int))
    else
     if (v.kind == (1:Int))=true then
      some (IntKind.i64.wrap (↑(BitVec.ofInt IntKind.i64.bits v.n &&& ~~~BitVec.ofInt IntKind.i64.bits (1:Int)).toNat:Int) == (0:Int))
     else
      if (v.kind == (2:Int))=true then
       some (z1v v.n)
      else
       some (false)
theorem z1bi {v:Val} {r:Bool} (h:zek v=some r) : Runs (awp zcl zmi (z8 Tryz.f240) (zg Tryz.f240.ntmps 0 [.d (.agg (enc Ty.val v))]) (retQ zcl Tryz.f240.results.toList [.d] fun rs os=>rs=z4b r∧os=z4c r)):=by
 constructor
 rw[z1gd v (fun rs os=>rs=z4b r∧os=z4c r)]
 unfold zek at h
 rcases z15 h with ⟨c1,h2⟩ | ⟨c1,h2⟩
 ·rcases z15 h2 with ⟨c3,h4⟩ | ⟨c3,h4⟩
  ·rcases z15 h4 with ⟨c5,h6⟩ | ⟨c5,h6⟩
   ·obtain⟨c7,h8⟩:=z8z h6
    cases h8
    exact (z1j c1 (z1j c3 (z1j c5 (And.intro c7 ⟨rfl,rfl⟩))))
   ·cases h6
    exact (z1j c1 (z1j c3 (zr (zk c5) ⟨rfl,rfl⟩)))
  ·cases h4
   exact (z1j c1 (zr (zk c3) ⟨rfl,rfl⟩))
 ·rcases z15 h2 with ⟨c9,h10⟩ | ⟨c9,h10⟩
  ·cases h10
   exact (zr (zk c1) (z1j c9 ⟨rfl,rfl⟩))
  ·rcases z15 h10 with ⟨c11,h12⟩ | ⟨c11,h12⟩
   ·cases h12
    exact (zr (zk c1) (zr (zk c9) (z1j c11 ⟨rfl,rfl⟩)))
   ·rcases z15 h12 with ⟨c13,h14⟩ | ⟨c13,h14⟩
    ·cases h14
     exact (zr (zk c1) (zr (zk c9) (zr (zk c11) (z1j c13 ⟨rfl,rfl⟩))))
    ·rcases z15 h14 with ⟨c15,h16⟩ | ⟨c15,h16⟩
     ·cases h16
      exact (zr (zk c1) (zr (zk c9) (zr (zk c11) (zr (zk c13) (z1j c15 ⟨rfl,rfl⟩)))))
     ·cases h16
      exact (zr (zk c1) (zr (zk c9) (zr (zk c11) (zr (zk c13) (zr (zk c15) ⟨rfl,rfl⟩)))))
def zb1 (v:Val) : Bool:=zak v
@[simp] theorem z1ge (v:Val) : zb1 v=zak v:=by unfold zb1;rfl
theorem z1ji (c:Nat) : z3l [.v (.s (.int .i32 (c:Nat)))]=some ([],[.v (cb (decide (c<32) || decide (126<c)))]):=by
 have : zdy (c:Nat)=(decide (c<32) || decide (126<c)):=by
  unfold zdy
  split
  ·rename_i h;have : c<32:=by have:=of_decide_eq_true h;omega
   simp [this]
  ·rename_i h;have : ¬ c<32:=fun hc=>h (decide_eq_true (by omega))
   simp only[this,decide_false,Bool.false_or]
   congr 1;simp only[eq_iff_iff];omega
 simp only[z3l,z1bc,Option.bind_some,this]
theorem z1ys : zcs z3l=true:=(z15m _).2 fun c _=>by
 simp only[zej,z1ji];rfl
theorem z1si {n:Int} (hn:WI n) : (IntKind.i64.wrap ↑(BitVec.ofInt IntKind.i64.bits n &&& ~~~BitVec.ofInt IntKind.i64.bits (1:Int)).toNat == (0:Int))=decide (n=0∨n=1):=by
 have key:IntKind.i64.wrap ↑(BitVec.ofInt IntKind.i64.bits n &&& ~~~BitVec.ofInt IntKind.i64.bits (1:Int)).toNat=0↔n=0∨n=1:=by
  have hb:(BitVec.ofInt 64 n &&& ~~~BitVec.ofInt 64 (1:Int)).toNat<2 ^ 64:=BitVec.isLt _
  have hw:IntKind.i64.wrap ↑(BitVec.ofInt 64 n &&& ~~~BitVec.ofInt 64 (1:Int)).toNat=0↔(BitVec.ofInt 64 n &&& ~~~BitVec.ofInt 64 (1:Int)).toNat=0:=by
   generalize (BitVec.ofInt 64 n &&& ~~~BitVec.ofInt 64 (1:Int)).toNat=m at hb
   have e:IntKind.i64.wrap (m:Int)=if (m:Int) % 2 ^ 64≥2 ^ 63 then (m:Int) % 2 ^ 64 - 2 ^ 64 else (m:Int) % 2 ^ 64:=by
    simp [IntKind.wrap,IntKind.signed,IntKind.bits]
   rw[e];split<;>omega
  refine hw.trans ?_
  have hn2:(BitVec.ofInt 64 n).toNat=(n % 2 ^ 64).toNat:=by rw[BitVec.toNat_ofInt];rfl
  constructor
  ·intro h0
   have hx:∀ i,1≤i→(BitVec.ofInt 64 n).toNat.testBit i=false:=by
    intro i hi
    have h1:(BitVec.ofInt 64 n &&& ~~~BitVec.ofInt 64 (1:Int)).getLsbD i=false:=by
     rw[BitVec.getLsbD,h0];simp
    rw[BitVec.getLsbD_and,BitVec.getLsbD_not] at h1
    by_cases hi2 : i<64
    ·have h2:(BitVec.ofInt 64 (1:Int)).getLsbD i=false:=by
      have : BitVec.ofInt 64 (1:Int)=1#64:=rfl
      rw[this,BitVec.getLsbD_one];simp;omega
     rw[h2] at h1
     simp only[hi2,decide_true,Bool.not_false,Bool.and_true] at h1
     exact h1
    ·exact Nat.testBit_lt_two_pow (Nat.lt_of_lt_of_le (BitVec.isLt _) (Nat.pow_le_pow_right (by decide) (by omega)))
   have hlt:(BitVec.ofInt 64 n).toNat<2 ^ 1:=Nat.lt_pow_two_of_testBit _ hx
   omega
  ·intro h
   rcases h with rfl | rfl<;>decide
 rw[Bool.eq_iff_iff,beq_iff_eq,decide_eq_true_eq]
 exact key
theorem z18v (v:Val) (hv:WS .val v) : zek v=some (zb1 v):=by
 have hr:zej z3l=fun c=>decide (c<32) || decide (126<c):=by
  funext c;unfold zej;rw[z1ji];rfl
 have hI:(strings_IndexFunc v.s z3l<0)↔∀ b∈v.s.toList,32≤b.toNat∧b.toNat≤126:=by
  unfold strings_IndexFunc idxF
  rw[z1ua (by rw[hr];intro c;rfl) v.s v.s.size 0 (by omega)]
  simp
 have hN:=hv.val_n
 unfold zek zb1 zak
 simp only[beq_iff_eq,z1ys,if_true,z1ok,zsl,decide_eq_true_eq,z1si hN]
 by_cases h3 : v.kind=3
 ·by_cases h0 : v.n=0
  ·by_cases hs : v.s.size≤100
   ·have hs':(v.s.size:Int)≤100:=by omega
    have : (v.s.toList.all fun b=>decide (32≤b.toNat∧b.toNat≤126))=decide (strings_IndexFunc v.s z3l<0):=by
     rw[Bool.eq_iff_iff,decide_eq_true_eq,hI];simp
    simp only[h3,h0,hs,hs',zu4,this];simp
   ·have hs':¬ (v.s.size:Int)≤100:=by omega
    simp [h3,h0,hs,hs',zu4]
  ·simp [h3,h0]
 ·by_cases hs : v.s.size=0
  ·by_cases k0 : v.kind=0
   ·simp [k0,hs];rfl
   ·by_cases k1 : v.kind=1
    ·simp [k1,hs]
    ·by_cases k2 : v.kind=2
     ·simp [k2,hs]
     ·simp [h3,k0,k1,k2,hs]
  ·simp [h3,hs]
def zgd : FnC Un:=fun args=>match args with
 | [x0]=>(dS .val x0).bind fun v=>some ([],z4b (zb1 v),z4c (zb1 v))
 | _=>none
theorem z1gf : FnOK 240 zgd:=by
 intro args ob rs os h hob
 unfold zgd at h
 split at h
 ·simp only[Option.bind_eq_some_iff,Option.some.injEq,Prod.mk.injEq] at h
  obtain⟨v,e0,rfl,rfl,rfl⟩:=h
  obtain rfl:=z18 e0
  exact⟨z2t (M:=zcl) rfl (zf (l1:=[(247,z9s),(211,z3u)]) (l2:=[(248,z3l)]) (l3:=[]) (l4:=[]) (l5:=[]) ⟨zwx,zal,trivial⟩ ⟨z1lo,trivial⟩ trivial trivial trivial) Tryz.func240 (by kernel_rfl) zmi 0 [.d] (fun hwf=>z1bi (z18v v (ze hwf (a:=.d (.agg (enc Ty.val v))) (List.mem_of_getElem? (i:=0) rfl)))),zb Tryz.func240 (by kernel_rfl) (by kernel_rfl)⟩
 ·simp at h
end
end Go.Proofs.YtjfpbchdcbhfgaaGreat.B
namespace Go.Proofs.YtjfpbchdcbhfgaaGreat.B
open Go Go.RowKit
set_option maxRecDepth 1000000
theorem zqg {f:FuncId} {args:List (D Un)} {v:Value} (hv:oneC v=true)
  (h:∀ (w:World) (vs:List Value),(∀ St,All2 (DRel Tryz.prog En St w) vs args→Calls Tryz.prog f vs.toArray w fun e w'=>e=.returned v∧w'=w)) : Contract Tryz.prog En f args [.c (.s v)] []:=by
 intro w St vs hbd hvs hld
 refine (h w vs St hvs).mono ?_
 rintro e w' ⟨rfl,rfl⟩
 let gg : G:={ β:=fun _=>0,lb:=fun _=>False,ω:=fun _ _=>none,tk:=fun _=>(none,0) }
 exact⟨_,rfl,Ext.refl _,gg,fun _ h=>h,fun b o x _ h=>by simp [gg] at h,fun b o x h=>by simp [gg] at h,⟨rfl,hv⟩,fun k o h=>by simp at h⟩
theorem zos {St:Nat→Nat→Prop} {w:World} {v:Value} {s:ByteArray} (h:DRel Tryz.prog En St w v (.d (.v (cs s)))) : v=.string s∧s.size≤9223372036854775807:=by
 have h':VRel En St w v (.s (.string s)):=h
 cases h' with | s _ h=>exact⟨rfl,oneC_str.1 h⟩
theorem zot {St:Nat→Nat→Prop} {w:World} {v:Value} {k:IntKind} {n:Int} (h:DRel Tryz.prog En St w v (.d (.v (.s (.int k n))))) : v=.int k n∧k.min≤n∧n≤k.max:=by
 have h':VRel En St w v (.s (.int k n)):=h
 cases h' with | s _ h=>exact⟨rfl,of_decide_eq_true h⟩
end Go.Proofs.YtjfpbchdcbhfgaaGreat.B
