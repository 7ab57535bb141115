/- Part 4 of the proof: BView BRegion BNorm BSound. -/
import Derived.Orders
import Derived.LoopN
import Derived.Test.YtjfpbchdcbhfgaaGreatNsy3
set_option linter.unusedVariables false
set_option linter.unusedSimpArgs false
set_option linter.defProp false
namespace Go.Proofs.YtjfpbchdcbhfgaaGreat
namespace B
open Go Go.RowKit
variable {U:Uni} {M:Mc U} {s s':S U} {o:Oper}
theorem ki{k v}(h:s'.ob[k]?=s.ob[k]?):s'.obAt k v=s.obAt k v:=by grind[S.obAt]
theorem Bn{k}(h:s'.ob[k]?=s.ob[k]?):s'.nver k=s.nver k:=by grind[S.nver]
theorem KZ{c}(h:∀k∈c.obs,s'.ob[k]?=s.ob[k]?):s'.lst c=s.lst c:=by
 cases c with
 |ob k v=>grind[S.lst,ki,C.obs]
 |_=>rfl
theorem zF{c}(h:∀k∈c.obs,s'.ob[k]?=s.ob[k]?):s'.toV c=s.toV c:=by
 cases c with
 |ob k v=>grind[S.toV,ki,C.obs]
 |_=>rfl
theorem pT:∀{cs:List (C U)},(∀k∈Cs.obs cs,s'.ob[k]?=s.ob[k]?)→s'.toVs cs=s.toVs cs
 |[],_=>rfl
 |c::cs,h=>by simp only[S.toVs,zF (c:=c) fun k hk=>h k<|by simp[Cs.obs,hk],pT (cs:=cs) fun k hk=>h k<|by simp[Cs.obs,hk]]
theorem ahh{c}(h:∀k∈c.obs,s'.ob[k]?=s.ob[k]?):s'.toDC c=s.toDC c:=by
 have:=zF (s:=s) (s':=s') h;cases c<;>simp only[S.toDC,this]
theorem SA:∀{cs:List (C U)},(∀k∈Cs.obs cs,s'.ob[k]?=s.ob[k]?)→s'.toDCs cs=s.toDCs cs
 |[],_=>rfl
 |c::cs,h=>by simp only[S.toDCs,ahh (c:=c) fun k hk=>h k<|by simp[Cs.obs,hk],SA (cs:=cs) fun k hk=>h k<|by simp[Cs.obs,hk]]
theorem ahi{x}(h:∀k∈x.obs,s'.ob[k]?=s.ob[k]?):s'.toD x=s.toD x:=by
 cases x with
 |c y=>
  have:=zF (s:=s) (s':=s') (c:=y) h;cases y<;>simp only[S.toD,this]
 |agg cs=>simp only[S.toD,pT (cs:=cs) h]
 |top=>rfl
def K0:∀{al:List (A U)},(∀k∈As.obs al,s'.ob[k]?=s.ob[k]?)→s'.toDs al=s.toDs al
 |[],_=>rfl
 |c::cs,h=>by simp only[S.toDs,ahi (x:=c) fun k hk=>h k<|by simp[As.obs,hk],K0 (al:=cs) fun k hk=>h k<|by simp[As.obs,hk]]
theorem ahj{x}(h:∀k∈x.obs,s'.ob[k]?=s.ob[k]?):s'.toD0 x=s.toD0 x:=by
 cases x with
 |c y=>simp only[S.toD0,zF (s:=s) (s':=s') (c:=y) h]
 |agg cs=>simp only[S.toD0,pT (cs:=cs) h]
 |top=>rfl
def SB:∀{al:List (A U)},(∀k∈As.obs al,s'.ob[k]?=s.ob[k]?)→s'.toD0s al=s.toD0s al
 |[],_=>rfl
 |c::cs,h=>by simp only[S.toD0s,ahj (x:=c) fun k hk=>h k<|by simp[As.obs,hk],SB (al:=cs) fun k hk=>h k<|by simp[As.obs,hk]]
theorem ml:∀{ks:List Nat},(∀k∈ks,s'.ob[k]?=s.ob[k]?)→s'.frz ks=s.frz ks
 |[],_=>rfl
 |k::ks,h=>by simp only[S.frz,h k<|by simp,ml (ks:=ks) fun q hq=>h q<|by grind]
theorem K1:∀{os:List (Ob U)}{q:Nat},(∀j,j<os.length→s'.ob[q+j]?=s.ob[q+j]?)→s'.vers q os=s.vers q os
 |[],_,_=>rfl
 |o::os,q,h=>by
  have h0:=h 0 (by simp);rw[iC]at h0;simp only[S.vers,Bn h0,K1 (os:=os) (q:=q+1) (fun j hj=>by have:=h (j+1) (by grind);grind)]
structure Agree(M:Mc U)(s s':S U)(o:Oper):Prop where
 base:s'.base=s.base
 tm:∀t∈Kq o.op,s'.tm[t]?=s.tm[t]?
 bx:∀k∈s.readB o,s'.bx[k]?=s.bx[k]?
 ob:∀k∈s.readO M o,s'.ob[k]?=s.ob[k]?
theorem Agree.ev(h:Agree M s s' o){x}(hx:x∈o.op.operands.toList):s'.ev M x=s.ev M x:=by
 cases x with
 |tmp t=>exact h.tm t<|List.mem_filterMap.2 ⟨_,hx,rfl⟩
 |_=>rfl
theorem Agree.evT(h:Agree M s s' o){t x}(hx:x∈o.op.operands.toList):s'.evT M t x=s.evT M t x:=by
 unfold S.evT;rw[h.ev hx]
theorem Agree.key(h:Agree M s s' o) d:s'.key d=s.key d:=by unfold S.key;rw[h.base]
theorem Agree.okey(h:Agree M s s' o) d:s'.okey d=s.okey d:=by unfold S.okey;rw[h.base]
theorem Agree.args(h:Agree M s s' o):∀{xs:List Operand}{ts:List TypeId},(∀x∈xs,x∈o.op.operands.toList)→dK M s' xs ts=dK M s xs ts
 |[],_,_=>rfl
 |x::xs,ts,hx=>by simp only[dK,h.evT<|hx x<|by simp,h.args (xs:=xs) fun y hy=>hx y<|by grind]
theorem Agree.parts(h:Agree M s s' o):∀{ps:List (Nat×Operand)},(∀x∈ps,x.2∈o.op.operands.toList)→pL M s' ps=pL M s ps
 |[],_=>rfl
 |(i,x)::ps,hx=>by simp only[pL,h.ev<|hx (i,x)<|by simp,h.parts (ps:=ps) fun y hy=>hx y<|by grind]
theorem Agree.partsK(h:Agree M s s' o){e}:∀{ps:List (Nat×Operand)},(∀x∈ps,x.2∈o.op.operands.toList)→partsK M s' e ps=partsK M s e ps
 |[],_=>rfl
 |(i,x)::ps,hx=>by
  have:ui M s' e x=ui M s e x:=by
   unfold ui;split
   ·rfl
   ·rw[h.evT<|hx (i,x)<|by simp]
  simp only[B.partsK,this,h.partsK (ps:=ps) fun y hy=>hx y<|by grind]
theorem SC:∀{l r:List Nat},eI l r=true↔∃k,k∈l∧k∈r
 |[],r=>by simp[eI]
 |x::l,r=>by
  simp only[eI,iF,SC (l:=l),List.any_eq_true];simp
theorem obs_mem2{k}:∀{cs:List (C U)},k∈Cs.obs cs↔∃c∈cs,k∈c.obs
 |[]=>by simp[Cs.obs]
 |c::cs=>by simp only[Cs.obs,ye,obs_mem2 (cs:=cs),yh];simp
theorem ahk{k i j}{cs:List (C U)}(h:k∈Cs.obs (cs.take i++cs.drop j)):k∈Cs.obs cs:=by
 obtain⟨c,h1,h2⟩:=obs_mem2.1 h;refine obs_mem2.2 ⟨c,?_,h2⟩;rcases ye.1 h1 with h1|h1
 ·exact y3g h1
 ·exact A5 h1
theorem K2{s:S U}{k q fz cells}(hb:s.bx[k]?=some (some (fz,cells)))(hq:q∈Cs.obs cells):∀{ks:List Nat},k∈ks→q∈s.boxObs ks
 |[],h=>by grind
 |k'::ks,h=>by
  simp only[S.boxObs,ye];rcases yh.1 h with rfl|h
  ·grind
  ·right;exact K2 hb hq h
def K3{c}{v:AV U}(h:Gt c=some v):∃x,v=.one (.c<|.s x):=by
 cases c<;>simp only[Gt]at h<;>first
  |(done)
  |grind
  |grind
theorem pU{x v}(h:s.ev M x=some v){k}(hk:k∈v.obs):k∈s.obsX x:=by
 cases x with
 |tmp t=>
  have h':s.tm[t]?=some v:=h;simp_all[S.obsX]
 |const c=>obtain⟨x,rfl⟩:=K3 h;grind[AV.obs,A.obs,C.obs]
 |func f=>
  grind[S.ev,AV.obs,A.obs,C.obs]
 |global n=>grind[S.ev]
theorem ut{t x v}(h:s.evT M t x=some v){k}(hk:k∈v.obs):k∈s.obsX x:=by
 grind[S.evT,AV.obs,A.obs,C.obs,pU]
def vE:∀{xs:List Operand}{ts:List TypeId}{al:List (A U)},dK M s xs ts=some al→∀k∈As.obs al,k∈s.obsXs xs
 |[],_,al,h,k,hk=>by simp_all[dK,As.obs]
 |x::xs,ts,al,h,k,hk=>by
  simp only[dK]at h;split at h
  ·rename_i a0 al0 h1 h2;simp at h;subst h;simp only[As.obs,ye]at hk;simp only[S.obsXs,ye];rcases hk with hk|hk
   ·exact .inl<|ut h1 hk
   ·exact .inr<|vE h2 k hk
  grind
theorem K4{v:AV U}{cs}(h:v.cells=some cs){k}(hk:k∈Cs.obs cs):k∈v.obs:=by
 cases v with
 |one a=>
  cases a with
  |c x=>grind[AV.cells,Cs.obs,AV.obs,A.obs]
  |agg zs=>simp[AV.cells]at h;subst h;exact hk
  |top=>simp[AV.cells]at h
 |_=>simp[AV.cells]at h
theorem Cs.obs_append:∀(x y:List (C U)),Cs.obs (x++y)=Cs.obs x++Cs.obs y
 |[],_=>rfl
 |c::x,y=>by simp[Cs.obs,Cs.obs_append x y]
theorem Cs.obs_sub:∀{x y:List (C U)},(∀c∈x,c∈y)→∀k∈Cs.obs x,k∈Cs.obs y
 |[],_,_,k,hk=>by grind[Cs.obs]
 |c::x,y,h,k,hk=>by
  simp only[Cs.obs,ye]at hk;rcases hk with hk|hk
  ·obtain⟨i,hi⟩:=j8 (h c (by simp));grind[DG]
  ·exact Cs.obs_sub (fun c hc=>h c (by grind)) k hk
def SD{place}:∀{l:List (Nat×List (C U))}{cells cs:List (C U)},iH place cells l=some cs→∀k∈Cs.obs cs,k∈Cs.obs cells∨∃x∈l,k∈Cs.obs x.2
 |[],cells,cs,h,k,hk=>by simp_all[iH]
 |(i,c)::l,cells,cs,h,k,hk=>by
  simp only[iH]at h;split at h
  ·grind
  ·split at h
   ·rcases SD h k hk with hk|⟨x,hx,hk⟩
    ·rw[Cs.obs_append,Cs.obs_append]at hk;simp only[ye]at hk;rcases hk with(hk|hk)|hk
     ·grind[Cs.obs_sub,List.mem_of_mem_take]
     ·simp_all
     grind[Cs.obs_sub,List.mem_of_mem_drop]
    grind
   grind
def SE{e}:∀{ps:List (Nat×Operand)}{l:List (Nat×List (C U))},partsK M s e ps=some l→∀x∈l,∀k∈Cs.obs x.2,k∈s.obsXs (ps.map (·.2))∨(∃z,M.zero e=some z∧k∈Cs.obs z)
 |[],l,h,x,hx=>by simp_all[partsK]
 |(i,y)::ps,l,h,x,hx=>by
  simp only[partsK]at h;split at h
  ·rename_i cs l0 h1 h2;simp at h;subst h;intro k hk;rcases yh.1 hx with rfl|hx
   ·unfold ui at h1;split at h1
    ·grind
    ·simp only[cL,S.obsXs,ye];cases hv:s.evT M e y with
     |none=>grind
     |some v=>grind[ut,K4]
   ·rcases SE h2 x hx k hk with h3|h3
    all_goals simp_all[cL,S.obsXs,ye]
  grind
def SF{z:List (C U)}:∀(n:Nat),∀k∈Cs.obs ((List.replicate n z).flatten),k∈Cs.obs z
 |0,k,hk=>by grind[Cs.obs]
 |n+1,k,hk=>by
  rw[y4j,vq,Cs.obs_append,ye]at hk;rcases hk with hk|hk
  ·omega
  ·exact SF n k hk
theorem SG{z}:∀(n:Nat){cs r:List (C U)},r∈rF z n cs→∀c∈r,c∈cs
 |0,_,_,h,_,_=>by grind[rF]
 |n+1,cs,r,h,c,hc=>by
  rcases yh.1 h with rfl|h
  ·grind
  ·exact A5<|SG n h c hc
theorem SH{τ}:∀{rs:List (List<|C U)},(∀r∈rs,∀k∈Cs.obs r,s'.ob[k]?=s.ob[k]?)→pM M s' τ rs=pM M s τ rs
 |[],_=>rfl
 |r::rs,h=>by simp only[pM,pT (cs:=r)<|h r<|by simp,SH (rs:=rs) fun x hx=>h x<|by grind]
def ahl{p n}(hb:∀k off,p=.bx k off→s'.bx[k]?=s.bx[k]?)(ho:∀k∈p.obs,s'.ob[k]?=s.ob[k]?):s'.at M p n=s.at M p n:=by
 cases p with
 |bx k off=>simp only[S.at,hb k off rfl]
 |em k v i off=>grind[S.at,ki,C.obs]
 |_=>rfl
theorem zG{x k off}(h:s.ev M x=some (.one<|.c<|.bx k off)):k∈s.bxX x:=by
 cases x with
 |tmp t=>
  have h':s.tm[t]?=some _:=h;simp[S.bxX,h']
 |const c=>obtain⟨x,e⟩:=K3 h;grind
 |func f=>grind[S.ev]
 |global n=>grind[S.ev]
def ahm{x f ks}(h:s.ev M x=some (.one<|.c<|.fc f ks)):∀k∈ks,k∈s.bxX x:=by
 cases x with
 |tmp t=>
  have h':s.tm[t]?=some _:=h;grind[S.bxX]
 |const c=>obtain⟨x,e⟩:=K3 h;grind
 |func f=>simp only[S.ev]at h;grind
 |global n=>grind[S.ev]
theorem ahn{p d}(ho:∀k∈p.obs,s'.ob[k]?=s.ob[k]?):s'.move d p=s.move d p:=by
 cases p with
 |em k v i off=>grind[S.move,ki,C.obs]
 |_=>rfl
theorem Agree.caps(h:Agree M s s' o):∀{xs:List Operand},(∀x∈xs,x∈o.op.operands.toList)→kh s' M xs=kh s M xs
 |[],_=>rfl
 |x::xs,hx=>by simp only[kh,h.ev<|hx x<|by simp,h.caps (xs:=xs) fun y hy=>hx y<|by grind]
def SI:∀{xs:List Operand}{ks:List Nat},kh s M xs=some ks→∀k∈ks,k∈s.bxXs xs
 |[],ks,h,k,hk=>by simp_all[kh]
 |x::xs,ks,h,k,hk=>by
  simp only[kh]at h;split at h
  ·rename_i k0 ks0 h1 h2;simp at h;subst h;simp only[S.bxXs,ye];rcases yh.1 hk with rfl|hk
   ·grind[zG]
   ·exact .inr<|SI h2 k hk
  grind
theorem GA:∀{ks:List Nat}{ks':List Nat},(∀k∈ks,k∈ks')→∀q∈s.boxObs ks,q∈s.boxObs ks'
 |[],_,_,q,hq=>by grind[S.boxObs]
 |k::ks,ks',h,q,hq=>by
  simp only[S.boxObs,ye]at hq;rcases hq with hq|hq
  ·grind[K2]
  ·exact GA (fun x hx=>h x<|by grind) q hq
def SJ:∀{ks:List Nat},(∀k∈ks,s'.bx[k]?=s.bx[k]?)→(∀q∈s.boxObs ks,s'.ob[q]?=s.ob[q]?)→s'.caps ks=s.caps ks
 |[],_,_=>rfl
 |k::ks,hb,ho=>by
  have h1:=hb k (by simp);have h2:=SJ (ks:=ks) (fun q hq=>hb q (by grind)) (fun q hq=>ho q (by simp[S.boxObs,hq]));simp only[S.caps,h1,h2];grind[Cs.obs,S.boxObs,SA,ml]
def Agree.bnd(h:Agree M s s' o){x}(hx:∀y,x=some y→y∈o.op.operands.toList):kQ s' M x=kQ s M x:=by
 cases x with
 |none=>rfl
 |some y=>simp only[kQ,h.ev<|hx y rfl]
def aho(h:Agree M s s' o){d tx x y}(hq:s'.ob[s.okey d]?=s.ob[s.okey d]?)(hx:∀k∈x.obs,s'.ob[k]?=s.ob[k]?)(hy:∀k∈y.obs,s'.ob[k]?=s.ob[k]?):Bi s' M d tx x y=Bi s M d tx x y:=by
 unfold Bi;rw[h.okey];cases y with
 |one y=>
  cases y with
  |c cy=>
   dsimp only;rw[KZ (c:=cy) hy,Bn hq];grind[ki,AV.obs,A.obs,C.obs]
  |_=>rfl
 |_=>rfl
theorem K5:∀{cs:List (C U)},(∀k∈Cs.obs cs,s'.ob[k]?=s.ob[k]?)→s'.curs cs=s.curs cs
 |[],_=>rfl
 |c::cs,h=>by
  have ih:=K5 (cs:=cs) (fun k hk=>h k (by simp_all[Cs.obs,gL]));cases c with
  |ob k v=>grind[S.curs,ki,Cs.obs,C.obs]
  |_=>simp only[S.curs,ih]
theorem DI:∀{cs:List (C U)},∀k∈s.curs cs,k∈Cs.obs cs
 |[],k,hk=>by grind[S.curs]
 |c::cs,k,hk=>by
  simp only[Cs.obs,ye];cases c with
  |ob q v=>
   simp only[S.curs,ye]at hk;rcases hk with hk|hk
   ·split at hk
    ·exact .inl hk
    grind
   ·exact .inr<|DI k hk
  |_=>exact .inr<|DI k hk
def SK:∀{ks:List Nat}{bs:List (Bool×List (C U))},s.boxesAt ks=some bs→∀b∈bs,∀k∈Cs.obs b.2,k∈s.boxObs ks
 |[],bs,h,b,hb,k,_=>by simp_all[S.boxesAt]
 |q::ks,bs,h,b,hb,k,hk=>by
  simp only[S.boxesAt]at h;split at h
  ·rename_i b0 r h1 h2;simp at h;subst h;simp only[S.boxObs,ye];rcases yh.1 hb with rfl|hb
   ·grind
   ·exact .inr<|SK h2 b hb k hk
  grind
theorem SL:∀{bs:List (Bool×List (C U))},(∀b∈bs,∀k∈Cs.obs b.2,s'.ob[k]?=s.ob[k]?)→s'.cursB bs=s.cursB bs
 |[],_=>rfl
 |b::bs,h=>by simp only[S.cursB,K5<|h b<|cP ..,SL (bs:=bs) fun x hx=>h x<|cV _ hx]
def SM:∀{bs:List (Bool×List (C U))},∀k∈s.cursB bs,∃b∈bs,k∈Cs.obs b.2
 |[],k,hk=>by grind[S.cursB]
 |b::bs,k,hk=>by
  simp only[S.cursB,ye]at hk;rcases hk with hk|hk
  ·grind[DI]
  ·obtain⟨x,h1,h2⟩:=SM k hk;grind
theorem SN{ks oks}{c:C U}(h:∀k∈c.obs,s'.ob[k]?=s.ob[k]?):c.pass s' ks oks=c.pass s ks oks:=by
 cases c with
 |ob k v=>grind[C.pass,ki,C.obs]
 |em k v i off=>grind[C.pass,ki,C.obs]
 |_=>rfl
def ahp{own m x}(h:∀k∈x.obs,s'.ob[k]?=s.ob[k]?):rH s' own m x=rH s own m x:=by
 unfold rH;grind[K5,Cs.obs,A.obs]
theorem ahq{own m x}:∀k∈rH s own m x,k∈x.obs:=by
 intro k hk;unfold rH at hk;split at hk
 ·have:=DI k hk;simp_all[Cs.obs,A.obs]
 ·exact hk
 all_goals grind
def K6{own}:∀{ms:List Bool}{al:List (A U)},(∀k∈As.obs al,s'.ob[k]?=s.ob[k]?)→dM s' own ms al=dM s own ms al
 |_,[],_=>rfl
 |ms,x::al,h=>by
  simp only[dM];rw[ahp fun k hk=>h k<|by simp_all[As.obs,f9],K6 (al:=al) fun k hk=>h k<|by simp_all[As.obs,gL]]
theorem K7{own}:∀{ms:List Bool}{al:List (A U)},∀k∈dM s own ms al,k∈As.obs al
 |_,[],k,hk=>by grind[dM]
 |ms,x::al,k,hk=>by
  simp only[dM,ye]at hk;simp only[As.obs,ye];rcases hk with hk|hk
  ·grind[ahq]
  ·exact .inr<|K7 k hk
def ahr{ks oks m x}(h:∀k∈x.obs,s'.ob[k]?=s.ob[k]?):pt s' ks oks m x=pt s ks oks m x:=by
 cases x with
 |top=>rfl
 |agg cs=>simp only[pt,pT h]
 |c c=>
  have h1:=zF (s:=s) (s':=s') (c:=c) h;have h2:=SN (s:=s) (s':=s') (ks:=ks) (oks:=oks) (c:=c) h;cases c<;>cases m<;>simp only[pt,h1,h2]
def SO{ks oks}:∀{ms:List Bool}{al:List (A U)},(∀k∈As.obs al,s'.ob[k]?=s.ob[k]?)→pu s' ks oks ms al=pu s ks oks ms al
 |_,[],_=>rfl
 |ms,x::al,h=>by
  simp only[pu];rw[ahr fun k hk=>h k<|by simp_all[As.obs,f9],SO (al:=al) fun k hk=>h k<|by simp_all[As.obs,gL]]
def SP{d F ms al}(hk:s'.okey d=s.okey d)(hq:∀j,j<4→s'.ob[s.okey d+j]?=s.ob[s.okey d+j]?)(ha:∀k∈As.obs al,s'.ob[k]?=s.ob[k]?)(hb:∀k∈As.bxs al,s'.bx[k]?=s.bx[k]?)(hbo:∀k∈s.boxObs (As.bxs al),s'.ob[k]?=s.ob[k]?):rJ s' d F ms al=rJ s d F ms al:=by
 unfold rJ;rw[KW hb];cases hbs:s.boxesAt (As.bxs al)with
 |none=>rfl
 |some bs=>
  have hbb:∀b∈bs,∀k∈Cs.obs b.2,s'.ob[k]?=s.ob[k]?:=fun b hb k hk=>hbo k<|SK hbs b hb k hk;dsimp only;rw[K6 (own:=true) ha,K6 (own:=false) ha,SL hbb];have hoks:∀k∈dM s true ms al++s.cursB bs,s'.ob[k]?=s.ob[k]?:=by
   intro k hk;rcases ye.1 hk with hk|hk
   ·grind[K7]
   ·obtain⟨b,h1,h2⟩:=SM k hk;grind
  rw[KX hoks,SO ha,KY hoks,ml (ks:=dM s false ms al) fun k hk=>ha k<|K7 k hk];have hmap:(bs.map fun b=>(b.1,b.2.map<|C.pass s' (As.bxs al)<|dM s true ms al++s.cursB bs))=bs.map fun b=>(b.1,b.2.map<|C.pass s (As.bxs al)<|dM s true ms al++s.cursB bs):=by
   grind[List.map_congr_left,SN,List.getElem?_of_mem,DG]
  grind[K1]
def DJ:∀{xs:List Operand}{ts:List TypeId}{al:List (A U)},dK M s xs ts=some al→∀k∈As.bxs al,k∈s.bxXs xs
 |[],ts,al,h,k,hk=>by simp_all[dK,As.bxs]
 |x::xs,ts,al,h,k,hk=>by
  simp only[dK]at h;split at h
  ·rename_i y ys h1 h2;simp at h;subst h;simp only[S.bxXs,ye];have hrest:k∈As.bxs ys→k∈s.bxXs xs:=DJ h2 k;cases y with
   |c c=>
    cases c with
    |bx q off=>
     simp only[As.bxs,yh]at hk
     all_goals grind[S.evT,zG]
    |fc f q=>
     simp only[As.bxs,ye]at hk;rcases hk with hk|hk
     ·left;unfold S.evT at h1;split at h1
      ·split at h1<;>simp at h1
      ·exact ahm h1 k hk
     ·exact .inr<|hrest hk
    |_=>exact .inr<|hrest hk
   |_=>exact .inr<|hrest hk
  grind
def ahs al:∀(ks:List Nat),As.bxs (al++ks.map fun k=>.c<|.bx k 0)=As.bxs al++ks∧As.obs (al++ks.map fun k=>.c<|.bx (U:=U) k 0)=As.obs al:=by
 intro ks;have h0:As.bxs (ks.map fun k=>A.c<|C.bx (U:=U) k 0)=ks∧As.obs (ks.map fun k=>A.c<|C.bx (U:=U) k 0)=[]:=by
  induction ks with
  |nil=>exact⟨rfl,rfl⟩
  |cons k ks ih=>simp_all[cL,As.bxs,As.obs,A.obs,C.obs,de]
 induction al with
 |nil=>exact h0
 |cons x al ih=>
  refine⟨?_,?_⟩
  ·cases x with
   |c c=>cases c<;>simp only[eT,As.bxs,ih.1,yw]
   |_=>simp only[eT,As.bxs,ih.1]
  simp_all[eT,As.obs]
def aht{F al}(ha:∀k∈As.obs al,s'.ob[k]?=s.ob[k]?):ny s' F al=ny s F al:=by
 unfold ny;split
 ·rename_i k v al';rw[ki<|ha k<|by simp[As.obs,A.obs,C.obs],K0 fun q hq=>ha q<|by simp_all[As.obs,gL],ml (ks:=As.obs al') fun q hq=>ha q<|by simp_all[As.obs,gL]]
 rfl
theorem SQ{t t':S U}(h:t.bx=t'.bx):∀(ks:List Nat),t.boxObs ks=t'.boxObs ks
 |[]=>rfl
 |k::ks=>by simp only[S.boxObs,h,SQ h ks]
def SR:∀{ks:List Nat},(∀k∈ks,s'.bx[k]?=s.bx[k]?)→s'.nils ks=s.nils ks
 |[],_=>rfl
 |k::ks,h=>by simp only[S.nils];rw[h k<|by simp,SR (ks:=ks) fun q hq=>h q<|by grind]
def ahu{ks k i q v fz cells}{x:C U}(hk:s.bx[k]?=some (some (fz,cells))):∀n,n∈({s with bx:=s.bx.set k<|some (fz,cells.set i<|.ob q v)}:S U).boxObs ks→n=q∨n∈s.boxObs ks:=by
 intro n hn
 induction ks with
 |nil=>grind[S.boxObs]
 |cons k' ks ih=>
  simp only[S.boxObs,ye]at hn ⊢;rcases hn with hn|hn
  ·by_cases e:k=k'
   ·have:∀(cs:List (C U))(i:Nat),n∈Cs.obs (cs.set i<|.ob q v)→n=q∨n∈Cs.obs cs:=by
     intro cs
     induction cs with
     |nil=>grind
     |cons c cs ih2=>
      intro i h;cases i with
      |zero=>
       simp only[List.set_cons_zero,Cs.obs,C.obs,ye,yl]at h ⊢;rcases h with h|h
       ·exact .inl h
       ·exact .inr<|.inr h
      |succ i=>
       simp only[List.set_cons_succ,Cs.obs,ye]at h ⊢;rcases h with h|h
       ·exact .inr<|.inl h
       ·rcases ih2 i h with h|h
        ·exact .inl h
        ·exact .inr<|.inr h
    grind
   grind
  grind
def ahv{d F ms al}(N:Nat→Prop)(K:Nat→Prop)(ha:∀k∈As.obs al,N k)(hb:∀k∈As.bxs al,K k):∀(l:List (Nat×Nat))(j:Nat)(s s':S U),
 s'.base=s.base→(∀k,N k→s'.ob[k]?=s.ob[k]?)→(∀k,K k→s'.bx[k]?=s.bx[k]?)→(∀j,j<4→N (s.okey d+j))→(∀x∈l,K x.1)→(∀k∈s.boxObs (As.bxs al),N k)→rK d F ms al l j s'=rK d F ms al l j s:=by
 intro l
 induction l with
 |nil=>intro j s s' hbase hN hK hd _ hbo;exact SP (by simp_all[S.okey]) (fun j hj=>hN _ (hd j hj)) (fun k hk=>hN k (ha k hk)) (fun k hk=>hK k (hb k hk)) (fun k hk=>hN k (hbo k hk))
 |cons x l ih0=>
  obtain⟨k,i⟩:=x;intro j s s' hbase hN hK hd hl hbo;have hok:s'.okey d=s.okey d:=by simp_all[S.okey]
  have hKk:=hK k (hl (k,i) (by simp));simp only[rK];rw[hok,hKk];by_cases hj:j<4
  ·rw[Bn (hN _ (hd j hj))];split
   ·rename_i fz cells ver hbk hv hlt;split
    ·rename_i τ hc
     have ih:=ih0 (j+1)
      {s with bx:=s.bx.set k (some (fz,cells.set i (.ob (s.okey d+j) ver))),ob:=s.ob.set (s.okey d+j) (some ⟨ver,τ,[],some 0,true⟩)}
      {s' with bx:=s'.bx.set k (some (fz,cells.set i (.ob (s.okey d+j) ver))),ob:=s'.ob.set (s.okey d+j) (some ⟨ver,τ,[],some 0,true⟩)}
      hbase (fun q hq'=>by
       grind)
      (fun q hq'=>by
       grind)
      hd (fun x hx=>hl x (by grind)) (fun n hn=>by
       rw[SQ (t:={s with bx:=s.bx.set k (some (fz,cells.set i (.ob (s.okey d+j) ver))),ob:=s.ob.set (s.okey d+j) (some ⟨ver,τ,[],some 0,true⟩)}) (t':={s with bx:=s.bx.set k (some (fz,cells.set i (.ob (s.okey d+j) ver)))}) rfl]at hn;rcases ahu (s:=s) (i:=i) (x:=.top) hbk n hn with h|h
       all_goals grind)
     grind
    rfl
   rfl
  simp_all
def SS{d F ms al}(hbase:s'.base=s.base)(hq:∀j,j<4→s'.ob[s.okey d+j]?=s.ob[s.okey d+j]?)(ha:∀k∈As.obs al,s'.ob[k]?=s.ob[k]?)(hb:∀k∈As.bxs al,s'.bx[k]?=s.bx[k]?)(hbo:∀k∈s.boxObs (As.bxs al),s'.ob[k]?=s.ob[k]?):rL s' d F ms al=rL s d F ms al:=by
 unfold rL;rw[SP (by simp_all[S.okey]) hq ha hb hbo,SR hb];have hl:∀(s:S U)(ks:List Nat),∀x∈s.nils ks,x.1∈ks:=by
  intro s ks
  induction ks with
  |nil=>simp[S.nils]
  |cons k ks ih=>
   intro x hx;simp only[S.nils,ye]at hx;rcases hx with hx|hx
   ·have:∀(cs:List (C U))(i:Nat),∀x∈uj k cs i,x.1=k:=by
     intro cs
     induction cs with
     |nil=>simp[uj]
     |cons c cs ih2=>
      intro i x hx;unfold uj at hx;grind
    grind
   grind
 rw[ahv (fun k=>s'.ob[k]?=s.ob[k]?) (fun k=>s'.bx[k]?=s.bx[k]?) ha hb (s.nils<|As.bxs al) 0 s s' hbase (fun _ h=>h) (fun _ h=>h) hq (fun x hx=>hb _<|hl s _ x hx) hbo]
theorem ahw(h:Agree M s s' o):aT M s' o=aT M s o:=by
 have hev:=fun x(hx:x∈o.op.operands.toList)=>h.ev hx;have hevT:=fun t x(hx:x∈o.op.operands.toList)=>h.evT (t:=t) hx;cases hop:o.op with
 |move x=>simp_all[aT,Op.operands]
 |assign x=>simp_all[aT,Op.operands]
 |pick c x y=>simp_all[aT,Op.operands]
 |alloc t=>
  simp only[aT,hop];cases hd:o.dst with
  |none=>simp
  |some d=>
   have:=h.bx (s.key d) (by simp_all[S.readB]);cases M.zero t with
   |none=>rfl
   |some cs=>dsimp only;rw[h.key,this]
 |box t x=>
  rw[hop]at hevT;simp only[aT,hop,hevT _ x (by simp[Op.operands])];cases hd:o.dst with
  |none=>simp
  |some d=>
   have:=h.bx (s.key d) (by simp_all[S.readB]);cases(s.evT M t x).bind AV.cells with
   |none=>rfl
   |some cs=>dsimp only;rw[h.key,this]
 |build t ps=>
  have:=h.parts (ps:=ps.toList) (fun x hx=>by rw[hop];simp only[Op.operands,A8,y2a];grind);simp_all[aT]
 |buildSlice t len ps=>
  simp only[aT,hop];cases hti:M.ti t with
  |sl e τ bytes=>
   cases hd:o.dst with
   |none=>rfl
   |some d=>
    dsimp only;have hp:=h.partsK (e:=e) (ps:=ps.toList) (fun x hx=>by rw[hop];simp only[Op.operands,A8,y2a];grind);have hq:=h.ob (s.okey d) (by simp_all[S.readO]);rw[hp,h.okey,Bn hq];cases hz:M.zero e with
    |none=>rfl
    |some z=>
     cases hl:partsK M s e ps.toList with
     |none=>rfl
     |some l=>
      cases hv:s.nver (s.okey d)with
      |none=>rfl
      |some ver=>
       dsimp only;split
       ·cases hf:iH (fun i=>some (i*U.sz τ,U.sz τ)) ((List.replicate len z).flatten) l with
        |none=>rfl
        |some cs=>
         dsimp only;have hobs:∀k∈Cs.obs cs,s'.ob[k]?=s.ob[k]?:=by
          intro k hk;refine h.ob k ?_;simp only[S.readO,hop,hd,ye];rcases SD hf k hk with hk|⟨x,hx,hk⟩
          ·right;simp only[Mc.zobs,hti,hz];exact SF len k hk
          ·rcases SE hl x hx k hk with h1|⟨z',hz',h1⟩
           ·exact .inl (.inr h1)
           ·right;simp only[Mc.zobs,hti];rw[hz'];exact h1
         grind[SH,Cs.obs_sub,SG,ml]
       rfl
  |_=>rfl
 |load t x=>
  rw[hop]at hev;simp only[aT,hop,hev x (by simp[Op.operands])];cases hv:s.ev M x with
  |none=>rfl
  |some v=>
   cases v with
   |one a=>
    cases a with
    |c p=>
     dsimp only;have:∀n,s'.at M p n=s.at M p n:=fun n=>ahl (fun k off e=>by subst e;exact h.bx k (by grind[S.readB,zG])) (fun k hk=>h.ob k (by simp only[S.readO,hop];exact pU hv hk));grind
    |_=>rfl
   |_=>rfl
 |store t x y=>
  rw[hop]at hev hevT;simp only[aT,hop,hev x (by simp[Op.operands]),hevT t y (by simp[Op.operands])];cases hv:s.ev M x with
  |none=>rfl
  |some v=>
   cases v with
   |one a=>
    cases a with
    |c p=>
     cases hyv:s.evT M t y with
     |none=>rfl
     |some yv=>
      simp only[yj];cases hcs:yv.cells with
      |none=>rfl
      |some cs=>
       have:kg M s' p cs=kg M s p cs:=by
        cases p with
        |bx k off=>
         have:=h.bx k (by grind[S.readB,zG]);have hsub:∀q∈Cs.obs cs,q∈s.obsX y:=fun q hq=>ut hyv (K4 hcs hq);cases hbk:s.bx[k]? with
         |none=>simp_all[kg]
         |some c=>
          cases c with
          |none=>simp_all[kg]
          |some c=>
           obtain⟨fz,cells⟩:=c;cases fz with
           |true=>simp_all[kg]
           |false=>
            cases hm:eI (Cs.obs cs) (Cs.obs (cells.take off++cells.drop (off+cs.length)))with
            |false=>simp_all[kg]
            |true=>
             have hm2:eI (s.obsX y) (s.boxObs (s.bxX x))=true:=by
              grind[SC,zG,Cs.obs,ahk,K2]
             have h2:∀q∈Cs.obs cs,s'.ob[q]?=s.ob[q]?:=fun q hq=>h.ob q (by
              simp_all[S.readO,ye])
             simp only[kg,this,hbk,hm,pT h2,ml h2]
        |em k v i off=>
         have h0:k∈s.obsX x:=pU hv (by simp[AV.obs,A.obs,C.obs]);have h1:=h.ob k (by simp_all[S.readO,ye])
         have h2:∀q∈Cs.obs cs,s'.ob[q]?=s.ob[q]?:=fun q hq=>h.ob q (by
          simp only[S.readO,hop,ye];right;split
          ·rename_i hh _;rw[hh]at h0;simp at h0
          ·exact ut hyv (K4 hcs hq))
         simp only[kg,ki h1,pT h2,ml h2]
        |_=>rfl
       grind
    |_=>rfl
   |_=>rfl
 |nilCheck x=>
  rw[hop]at hev;simp only[aT,hop,hev x (by simp[Op.operands])];cases hv:s.ev M x with
  |none=>rfl
  |some v=>
   cases v with
   |one a=>
    cases a with
    |c p=>
     cases p with
     |em k v i off=>
      have:=h.ob k (by grind[S.readO,pU,AV.obs,A.obs,C.obs]);grind[ki]
     |_=>rfl
    |_=>rfl
   |_=>rfl
 |binOp op t x y t'=>simp_all[aT,Op.operands]
 |unOp op t x=>simp_all[aT,Op.operands]
 |convert src dst x=>simp_all[aT,Op.operands]
 |slice t x lo hi mx=>
  rw[hop]at hev;have b1:=h.bnd (x:=lo) (fun y e=>by simp_all[Op.operands]);have b2:=h.bnd (x:=hi) (fun y e=>by simp_all[Op.operands]);have b3:=h.bnd (x:=mx) (fun y e=>by simp_all[Op.operands]);have key:∀v,s.ev M x=some v→∀ti l hh m,yS s' ti v l hh m=yS s ti v l hh m:=by
   intro v hv ti l hh m;cases v with
   |one a=>
    cases a with
    |c cx=>
     have h1:∀k∈cx.obs,s'.ob[k]?=s.ob[k]?:=fun k hk=>h.ob k (by simp only[S.readO,hop];exact pU hv hk);unfold yS;cases ti with
     |sl e τ bytes=>simp only[KZ h1,ml h1]
     |_=>first|rfl|grind
    |_=>cases ti<;>rfl
   |_=>cases ti<;>rfl
  simp only[aT,hop,hev x (by simp[Op.operands]),b1,b2,b3];grind
 |fieldAddr t x f=>
  rw[hop]at hev;simp only[aT,hop,hev x (by simp[Op.operands])];split
  ·rename_i p fs n hv hti;have h1:∀k∈p.obs,s'.ob[k]?=s.ob[k]?:=fun k hk=>h.ob k (by simp only[S.readO,hop];exact pU hv hk);grind[ahn]
  rfl
 |field t x f=>simp_all[aT,Op.operands]
 |indexAddr t x y=>
  rw[hop]at hev;simp only[aT,hop,hev x (by simp[Op.operands]),hev y (by simp[Op.operands])];split
  ·rfl
  ·rename_i k v _ _ _ _ _ hv _ _;have:=h.ob k (by grind[S.readO,pU,AV.obs,A.obs,C.obs]);rw[ki this]
  all_goals rfl
 |index t x y=>simp_all[aT,Op.operands]
 |extract x n=>simp_all[aT,Op.operands]
 |makeSlice t x y=>
  rw[hop]at hev;simp only[aT,hop,hev x (by simp[Op.operands]),hev y (by simp[Op.operands])];cases hd:o.dst with
  |none=>simp
  |some d=>
   have hq:=h.ob (s.okey d) (by simp_all[S.readO]);have:∀l c,yT M s' d t l c=yT M s d t l c:=fun l c=>by
    unfold yT;rw[h.okey,Bn hq];split
    ·rename_i n c0 e τ bytes hti;split
     ·rename_i z ver hz _
      have h2:∀q∈Cs.obs z,s'.ob[q]?=s.ob[q]?:=fun q hq=>h.ob q (by
       simp_all[S.readO,ye,Mc.zobs])
      rw[pT h2]
     rfl
    rfl
   grind
 |makeFunc fn first captured=>
  cases fn with
  |func f=>
   simp only[aT,hop];cases first.toList with
   |cons x r=>rfl
   |nil=>
    dsimp only;unfold Kp;rw[h.caps (xs:=captured.toList) (fun x hx=>by simp_all[Op.operands])];cases hk:kh s M captured.toList with
    |none=>rfl
    |some ks=>
     have hsub:=SI hk;dsimp only;rw[show s'.caps ks=s.caps ks from SJ (fun k hk'=>h.bx k (by simp_all[S.readB])) (fun q hq=>h.ob q (by grind[S.readO,GA]))]
  |_=>simp_all[aT]
 |call c=>
  have ha:∀x∈c.args.toList,x∈o.op.operands.toList:=fun x hx=>by simp_all[Op.operands,Call.operands]
  simp only[aT,hop,sH];cases hc:c.callee with
  |builtin b=>
   dsimp only;cases b with
   |len=>
    simp only[iJ];cases hl:c.args.toList with
    |nil=>rfl
    |cons x r=>
     cases r with
     |cons y r=>rfl
     |nil=>
      cases c.argTypes.toList with
      |nil=>rfl
      |cons t r'=>
       cases r' with
       |cons t' r'=>rfl
       |nil=>
        dsimp only;rw[h.ev (ha x (by grind))];cases hv:s.ev M x with
        |none=>rfl
        |some v=>
         cases v with
         |one a=>
          cases a with
          |c cx=>
           have h1:∀k∈cx.obs,s'.ob[k]?=s.ob[k]?:=fun k hk=>h.ob k (by
            simp only[S.readO,hop,hl,S.obsXs,ye];exact .inl (.inr (.inl (pU hv hk))))
           grind[KZ]
          |_=>rfl
         |_=>rfl
   |append=>
    simp only[iJ];cases hl:c.args.toList with
    |nil=>rfl
    |cons x r=>
     cases r with
     |nil=>rfl
     |cons y r=>
      cases r with
      |cons z r=>rfl
      |nil=>
       cases c.argTypes.toList with
       |nil=>rfl
       |cons t r'=>
        cases r' with
        |nil=>rfl
        |cons t' r'=>
         cases r' with
         |cons t'' r'=>rfl
         |nil=>
          cases hd:o.dst with
          |none=>rfl
          |some d=>
           dsimp only;rw[h.evT (ha x (by rw[hl];simp)),h.evT (ha y (by rw[hl];simp))];cases hx:s.evT M t x with
           |none=>rfl
           |some vx=>
            cases hy:s.evT M t' y with
            |none=>rfl
            |some vy=>
             have:=aho h (d:=d) (tx:=t) (x:=vx) (y:=vy) (h.ob _ (by simp[S.readO,hop,hd]))
              (fun k hk=>h.ob k (by simp only[S.readO,hop,hl,S.obsXs,ye];exact .inl (.inr (.inl (ut hx hk)))))
              (fun k hk=>h.ob k (by simp only[S.readO,hop,hl,S.obsXs,ye];exact .inl (.inr (.inr (.inl (ut hy hk))))))
             cases M.ti t' with
             |sl e τ b=>exact this
             |_=>rfl
   |min=>simp only[iJ,h.args ha]
   |max=>simp only[iJ,h.args ha]
   |_=>rfl
  |value v=>
   cases v with
   |func f=>
    dsimp only;rw[h.args ha];cases M.fns f with
    |none=>
     cases hal:dK M s c.args.toList c.argTypes.toList with
     |none=>rfl
     |some al=>
      have hu:∀F:mh U,ny s' F al=ny s F al:=fun F=>aht (fun k hk=>h.ob k (by simp only[S.readO,hop,ye];exact .inl (.inr (vE hal k hk))));cases hd:o.dst with
      |none=>
       dsimp only;cases M.ups f with
       |none=>rfl
       |some F=>exact hu F
      |some d=>
       dsimp only;cases M.gns f with
       |none=>
        dsimp only;cases M.ups f with
        |none=>rfl
        |some F=>exact hu F
       |some x=>
        obtain⟨ms,F⟩:=x;dsimp only;refine SS h.base (fun j hj=>h.ob _ ?_) (fun k hk=>h.ob k ?_) (fun k hk=>h.bx k ?_) (fun k hk=>h.ob k ?_)
        ·simp only[S.readO,hop,hd];refine f9 _ (f9 _ ?_);rcases(by omega:j=0∨j=1∨j=2∨j=3)with rfl|rfl|rfl|rfl<;>simp
        ·simp only[S.readO,hop];exact f9 _ (gL _ (vE hal k hk))
        ·simp only[S.readB,hop];exact f9 _ (DJ hal k hk)
        ·simp only[S.readO,hop];exact gL _ (GA (fun q hq=>f9 _ (DJ hal q hq)) k hk)
    |some F=>
     cases hal:dK M s c.args.toList c.argTypes.toList with
     |none=>rfl
     |some al=>
      cases hd:o.dst with
      |none=>rfl
      |some d=>
       dsimp only;have h1:∀k∈As.obs al,s'.ob[k]?=s.ob[k]?:=fun k hk=>h.ob k (by simp only[S.readO,hop,ye];exact .inl (.inr (vE hal k hk)));unfold Kn;rw[K0 h1,ml h1,h.okey];cases s.toDs al with
       |none=>rfl
       |some ds=>
        dsimp only;cases F ds with
        |none=>rfl
        |some x=>
         obtain⟨ob,rs,os⟩:=x;dsimp only;split
         ·rename_i hos
          rw[K1 (os:=os) (q:=s.okey d) (fun j hj=>h.ob _ (by
           simp only[S.readO,hop,hd,ye];left;left;have:j=0∨j=1∨j=2∨j=3:=by omega
           rcases this with rfl|rfl|rfl|rfl<;>simp))]
         ·rfl
   |tmp t=>
    dsimp only;have ht:s'.tm[t]?=s.tm[t]?:=h.tm t (by simp[Kq,hop,Op.operands,Call.operands,hc]);rw[h.args ha,ht];split
    ·rename_i φ al _ hal;have h1:∀k∈As.obs al,s'.ob[k]?=s.ob[k]?:=fun k hk=>h.ob k (by simp only[S.readO,hop,ye];exact .inl (.inr (vE hal k hk)));unfold Ko;rw[SB h1,ml h1]
    ·rename_i f ks al htm hal;have hcap:s.capX c=ks:=by unfold S.capX;rw[hc];dsimp only;rw[htm]
     cases M.gns f with
     |none=>rfl
     |some x=>
      obtain⟨ms,F⟩:=x;cases hd:o.dst with
      |none=>rfl
      |some d=>
       dsimp only;obtain⟨e1,e2⟩:=ahs al ks;have hsub:∀q∈As.bxs (al++ks.map fun k=>A.c (C.bx (U:=U) k 0)),q∈s.bxXs c.args.toList++s.capX c:=by
        intro q hq;rw[e1]at hq;rcases ye.1 hq with hq|hq
        ·exact f9 _ (DJ hal q hq)
        ·rw[hcap];exact gL _ hq
       refine SS h.base (fun j hj=>h.ob _ ?_) (fun k hk=>h.ob k ?_) (fun k hk=>h.bx k ?_) (fun k hk=>h.ob k ?_)
       ·simp only[S.readO,hop,hd];refine f9 _ (f9 _ ?_);rcases(by omega:j=0∨j=1∨j=2∨j=3)with rfl|rfl|rfl|rfl<;>simp
       ·rw[e2]at hk;simp only[S.readO,hop];exact f9 _ (gL _ (vE hal k hk))
       ·simp only[S.readB,hop];exact hsub k hk
       ·simp only[S.readO,hop];exact gL _ (GA hsub k hk)
    ·rfl
   |_=>rfl
  |invoke r m=>rfl
 |_=>simp only[aT,hop]
end B
namespace B
open Go Go.RowKit
variable {U:Uni} {P:Program} {M:Mc U} {fr:Fr} {w:World} {g:G} {s:S U} {a:Act} {o:Oper}
def ST{E}(h:Sim P E fr g s a w){ops b}(hw:nU ops.toList s o=some b):Region.wanted o (yielded ops a.tmps)=b:=by
 unfold nU at hw;unfold Region.wanted;split at hw
 ·grind
 ·rename_i j want hg;cases hd:(ops.toList[j]?).bind (·.dst)with
  |none=>grind
  |some d=>
   simp only[hd]at hw;split at hw
   ·rename_i x hx;obtain⟨v,hv,hr⟩:=All2.get d h.tms hx;have hvx:v=.bool x:=hr.1;simp_all[yielded]
   ·rename_i hx;obtain⟨v,hv,hr⟩:=All2.get d h.tms hx;have hvx:v=undef:=hr;simp_all[yielded,undef]
   grind
def Step(M:Mc U)(ops:List Oper)(o:Oper)(f:Fp)(s s':S U):Prop:=
 (∃r,nU ops s o=some true∧aT M s o=some r∧(∀p∈r.ob,p)∧s'=s.upd o.dst r∧f=s.fp M ops o r)∨(nU ops s o=some false∧s'=s.upd o.dst yU∧f=S.fp0 ops o)
def oa(M:Mc U)(ops:List Oper):List (Oper×Fp)→S U→S U→Prop
 |[],s,s'=>s=s'
 |(o,f)::rest,s,s'=>∃s1,Step M ops o f s s1∧oa M ops rest s1 s'
def obs_iff{ps K}:obs ps K↔(∀p∈ps,p)∧K:=by
 induction ps with
 |nil=>simp[obs]
 |cons p ps ih=>simp only[obs,ih,yh,forall_eq_or_imp];grind
def K8{ops:List Oper}{K:S U→List Fp→Prop}:∀(l:List Oper)(i:Nat)(s:S U)(fs:List Fp),pN M ops l i s fs K→∃l' s',l'.map (·.1)=l∧oa M ops l' s s'∧K s' ((l'.map (·.2)).reverse++fs)
 |[],_,s,fs,h=>⟨[],s,rfl,rfl,h⟩
 |o::rest,i,s,fs,h=>by
  simp only[pN]at h;split at h
  ·rename_i hw;split at h
   ·rename_i r hr;unfold Rz at h;rw[obs_iff]at h;obtain⟨hob,h⟩:=h;have go:∀v,v=r.v→pN M ops rest (i+1) (s.upd o.dst {r with v:=v}) (s.fp M ops o r::fs) K→∃l' s',l'.map (·.1)=o::rest∧oa M ops l' s s'∧K s' ((l'.map (·.2)).reverse++fs):=by
     intro v hv hh;subst hv;obtain⟨l',s',h1,h2,h3⟩:=K8 rest (i+1) _ _ hh;refine⟨(o,s.fp M ops o r)::l',s',by grind,⟨_,.inl ⟨r,hw,hr,hob,rfl,rfl⟩,h2⟩,?_⟩;grind
    split at h
    ·rename_i x _ hv;cases x with
     |true=>exact go _ hv.symm h
     |false=>exact go _ hv.symm h
    simp_all
   grind
  ·rename_i hw;obtain⟨l',s',h1,h2,h3⟩:=K8 rest (i+1) _ _ h;refine⟨(o,S.fp0 ops o)::l',s',by grind,⟨_,.inr ⟨hw,rfl,rfl⟩,h2⟩,?_⟩;grind
  grind
theorem Sim.undef(h:Sim P M.E fr g s a w) dst:Sim P M.E fr g (s.upd dst yU) (a.put dst Go.undef) w:=h.put rfl rfl rfl
def SU(hT:TabOK P M)(hF:FnsOK P M){ops Q i}(ho:ops[i]?=some o){f s'}(h:Sim P M.E fr g s a w)(hs:Step M ops.toList o f s s'){K}(hK:∀g' a' w',Sim P M.E fr g' s' a' w'→K a' w'):wpOp P ops Q i K a w:=by
 unfold wpOp;rw[ho];dsimp only;rcases hs with⟨r,hw,hr,hob,rfl,_⟩|⟨hw,rfl,_⟩
 ·rw[ST h hw,if_pos rfl];refine .inl ?_;have hd:=ahg hT hF h hr hob Q;exact Oper.wp_mono (fun a' w' ⟨g',hs'⟩=>hK g' a' w' hs') hd
 ·rw[ST h hw];exact hK g _ _<|h.undef _
theorem SV(hT:TabOK P M)(hF:FnsOK P M){ops:Array Oper}{Q:Exit→Act→World→Prop}{s':S U}(hK:∀g' a' w',Sim P M.E fr g' s' a' w'→Q .normal a' w'):
 ∀(l:List (Oper×Fp))(k:Nat){g:G}{s:S U}{a:Act}{w:World},(∀(j:Nat),(l.map (·.1))[j]?=ops[k+j]?)→Sim P M.E fr g s a w→oa M ops.toList l s s'→wpOps P ops Q (List.range' k l.length) a w
 |[],k,g,s,a,w,_,h,hr=>by
  have:s=s':=hr;subst this;exact hK g a w h
 |(o,f)::l,k,g,s,a,w,hl,h,hr=>by
  obtain⟨s1,h1,h2⟩:=hr;refine SU hT hF (by have:=hl 0;grind) h h1 fun g' a' w' h'=>?_;exact SV hT hF hK l (k+1) (fun j=>by have:=hl<|j+1;grind) h' h2
theorem zH{α q}:∀{x:List (Nat×α)}{l:List α},q ∉x.map (·.1)→(aH l x)[q]?=l[q]?
 |[],_,_=>rfl
 |(k,y)::x,l,h=>by
  simp only[cL,yh,not_or]at h;simp only[aH];rw[zH h.2,dP<|Ne.symm h.1]
def SW{α q z}:∀{x:List (Nat×α)}{l:List α},q ∉x.map (·.1)→aH (l.set q z) x=(aH l x).set q z
 |[],_,_=>rfl
 |(k,y)::x,l,h=>by
  simp only[cL,yh,not_or]at h;simp only[aH];rw[List.set_comm _ _ h.1,SW h.2]
theorem SY{α}:∀{y x:List (Nat×α)}{l:List α},(∀k∈x.map (·.1),k ∉y.map (·.1))→aH (aH l x) y=aH (aH l y) x
 |[],_,_,_=>rfl
 |(k,z)::y,x,l,h=>by
  simp only[aH];have hk:k ∉x.map (·.1):=fun hk=>h k hk (by simp);rw[←SW hk,SY (fun q hq hq'=>h q hq (by grind))]
structure Frame'(f:Fp)(s s1:S U):Prop where
 base:s1.base=s.base
 tm:∀t,t ∉f.ws→s1.tm[t]?=s.tm[t]?
 bx:∀k,k ∉f.wb→s1.bx[k]?=s.bx[k]?
 ob:∀k,k ∉f.wo→s1.ob[k]?=s.ob[k]?
def SZ{r:Res U}{dst:Option Nat}{f:Fp}(h1:f.ws=dst.toList)(h2:f.wb=r.bw.map (·.1))(h3:f.wo=r.ow.map (·.1)):Frame' f s (s.upd dst r):=by
 refine⟨rfl,fun t ht=>?_,fun k hk=>?_,fun k hk=>?_⟩
 ·cases dst with
  |none=>rfl
  |some d=>
   have:t≠d:=by grind
   exact dP<|Ne.symm this
 ·rw[h2]at hk;exact zH hk
 ·rw[h3]at hk;exact zH hk
theorem ahx{r r':Res U}{d d':Option Nat}(h1:∀x∈d.toList,x ∉d'.toList)(h2:∀k∈r.bw.map (·.1),k ∉r'.bw.map (·.1))(h3:∀k∈r.ow.map (·.1),k ∉r'.ow.map (·.1)):(s.upd d r).upd d' r'=(s.upd d' r').upd d r:=by
 unfold S.upd;congr 1
 ·cases d with
  |none=>rfl
  |some x=>
   cases d' with
   |none=>rfl
   |some y=>
    have:x≠y:=by simp_all
    grind[List.set_comm]
 all_goals grind[SY]
theorem S4{ops}{s s':S U}(h:∀t∈Dr ops o,s'.tm[t]?=s.tm[t]?):nU ops s' o=nU ops s o:=by
 grind[nU,Dr,bind]
theorem sL{s s':S U}{x}(h:∀t,x=.tmp t→s'.tm[t]?=s.tm[t]?):s'.obsX x=s.obsX x:=by
 cases x with
 |tmp t=>simp only[S.obsX,h t rfl]
 |_=>rfl
theorem K9{s s':S U}:∀{xs:List Operand},(∀x∈xs,∀t,x=.tmp t→s'.tm[t]?=s.tm[t]?)→s'.obsXs xs=s.obsXs xs
 |[],_=>rfl
 |x::xs,h=>by simp only[S.obsXs,sL<|h x<|by simp,K9 (xs:=xs) fun y hy=>h y<|by grind]
theorem DK{s s':S U}{x}(h:∀t,x=.tmp t→s'.tm[t]?=s.tm[t]?):s'.bxX x=s.bxX x:=by
 cases x with
 |tmp t=>simp only[S.bxX,h t rfl]
 |_=>rfl
theorem La{s s':S U}:∀{xs:List Operand},(∀x∈xs,∀t,x=.tmp t→s'.tm[t]?=s.tm[t]?)→s'.bxXs xs=s.bxXs xs
 |[],_=>rfl
 |x::xs,h=>by simp only[S.bxXs,DK<|h x<|by simp,La (xs:=xs) fun y hy=>h y<|by grind]
theorem GB{s s':S U}:∀{ks:List Nat},(∀k∈ks,s'.bx[k]?=s.bx[k]?)→s'.boxObs ks=s.boxObs ks
 |[],_=>rfl
 |k::ks,h=>by simp only[S.boxObs,h k<|by simp,GB (ks:=ks) fun y hy=>h y<|by grind]
def Agree.read{s s'}(h:Agree M s s' o):s'.readB o=s.readB o∧s'.readO M o=s.readO M o:=by
 have hx:∀x∈o.op.operands.toList,∀t,x=.tmp t→s'.tm[t]?=s.tm[t]?:=fun x hx t e=>by subst e;exact h.tm t (List.mem_filterMap.2 ⟨_,hx,rfl⟩)
 have hb:s'.readB o=s.readB o:=by
  unfold S.readB;cases hop:o.op with
  |alloc t=>simp only[h.key]
  |box t x=>simp only[h.key]
  |load t x=>grind[DK,Op.operands]
  |store t x y=>grind[DK,Op.operands]
  |makeFunc fn first captured=>grind[La,Op.operands]
  |call c=>
   rw[hop]at hx;have h1:s'.bxXs c.args.toList=s.bxXs c.args.toList:=La (fun x hm=>hx x (by simp_all[Op.operands,Call.operands]));have h2:s'.capX c=s.capX c:=by
    unfold S.capX;split
    ·rename_i t hc;rw[hx (.tmp t) (by simp[Op.operands,Call.operands,hc]) t rfl]
    ·rfl
   grind
  |_=>rfl
 refine⟨hb,?_⟩;unfold S.readO;cases hop:o.op with
 |load t x=>grind[sL,Op.operands]
 |store t x y=>
  have hbx:=GB (s:=s) (s':=s') (ks:=s.bxX x) (fun k hk=>h.bx k (by simp_all[S.readB]));grind[sL,Op.operands,DK]
 |buildSlice t n ps=>
  have:s'.obsXs (ps.toList.map (·.2))=s.obsXs (ps.toList.map (·.2)):=K9 (fun x hm=>hx x (by simp_all[Op.operands]));simp only[this,h.okey]
 |makeSlice t x y=>simp only[h.okey]
 |slice t x lo hi mx=>grind[sL,Op.operands]
 |indexAddr t x y=>grind[sL,Op.operands]
 |nilCheck x=>grind[sL,Op.operands]
 |fieldAddr t x f=>grind[sL,Op.operands]
 |makeFunc fn first captured=>
  have h1:s'.bxXs captured.toList=s.bxXs captured.toList:=by simp_all[S.readB]
  dsimp only;rw[h1];exact GB (fun k hk=>h.bx k (by simp_all[S.readB]))
 |call c=>
  have:s'.obsXs c.args.toList=s.obsXs c.args.toList:=K9 (fun x hm=>hx x (by simp_all[Op.operands,Call.operands]));have h1:s'.bxXs c.args.toList++s'.capX c=s.bxXs c.args.toList++s.capX c:=by simp_all[S.readB]
  have h2:=GB (s:=s) (s':=s') (ks:=s.bxXs c.args.toList++s.capX c) (fun k hk=>h.bx k (by simp_all[S.readB]));simp only[this,h.okey,h1,h2]
 |_=>rfl
theorem Step.move{ops:List Oper}{f}{s s1:S U}(h:Step M ops o f s s1):
 ∃r,f.ws=o.dst.toList∧f.wb=r.bw.map (·.1)∧f.wo=r.ow.map (·.1)∧s1=s.upd o.dst r∧
  ∀s':S U,s'.base=s.base→(∀t∈f.rs,s'.tm[t]?=s.tm[t]?)→(∀k∈f.rb,s'.bx[k]?=s.bx[k]?)→(∀k∈f.ro,s'.ob[k]?=s.ob[k]?)→Step M ops o f s' (s'.upd o.dst r):=by
 rcases h with⟨r,hw,hr,hobl,rfl,rfl⟩|⟨hw,rfl,rfl⟩
 ·refine⟨r,rfl,rfl,rfl,rfl,fun s' hb htm hbx hob=>?_⟩;have hA:Agree M s s' o:=⟨hb,fun t ht=>htm t<|by simp[S.fp,ht],fun k hk=>hbx k hk,fun k hk=>hob k hk⟩;refine .inl ⟨r,?_,?_,hobl,rfl,?_⟩
  ·grind[S4,S.fp]
  ·grind[ahw]
  ·simp only[S.fp,hA.read.1,hA.read.2]
 ·refine⟨yU,rfl,rfl,rfl,rfl,fun s' hb htm hbx hob=>.inr ⟨?_,rfl,rfl⟩⟩;rw[S4 fun t ht=>htm t ht];omega
def S5{ops p f h s s1 s2}(hc:f.clash h=false)(h1:Step M ops o f s s1)(h2:Step M ops p h s1 s2):∃s1',Step M ops p h s s1'∧Step M ops o f s1' s2:=by
 simp only[Fp.clash,y3d]at hc;obtain⟨⟨⟨⟨⟨⟨⟨⟨c1,c2⟩,c3⟩,c4⟩,c5⟩,c6⟩,c7⟩,c8⟩,c9⟩:=hc;obtain⟨r,e1,e2,e3,rfl,ho⟩:=h1.move;have fr1:Frame' f s (s.upd o.dst r):=SZ e1 e2 e3;obtain⟨r',i1,i2,i3,rfl,hp⟩:=h2.move;have hp':=hp s fr1.base.symm (fun t ht=>(fr1.tm t fun hh=>mj c1 t hh ht).symm) (fun k hk=>(fr1.bx k fun hh=>mj c3 k hh hk).symm) fun k hk=>(fr1.ob k fun hh=>mj c5 k hh hk).symm;have fr2:Frame' h s (s.upd p.dst r'):=SZ i1 i2 i3;have ho':=ho (s.upd p.dst r') fr2.base (fun t ht=>fr2.tm t fun hh=>mj c7 t ht hh) (fun k hk=>fr2.bx k fun hh=>mj c8 k hk hh) fun k hk=>fr2.ob k fun hh=>mj c9 k hk hh;grind[ahx,mj]
def front{ops f}:∀{pre post:List (Oper×Fp)}{s s':S U},(∀x∈pre,x.2.clash f=false)→oa M ops (pre++(o,f)::post) s s'→oa M ops ((o,f)::(pre++post)) s s'
 |[],_,_,_,_,h=>h
 |(p,h)::pre,post,s,s',hc,hr=>by
  obtain⟨s1,h1,h2⟩:=hr;obtain⟨s2,h3,h4⟩:=front (fun x hx=>hc x<|by grind) h2;obtain⟨s1',h5,h6⟩:=S5 (hc (p,h)<|by simp) h1 h3;exact⟨s1',h5,s2,h6,h4⟩
def Lb{done j}:∀{es:List Edge},(pO done es).testBit j=true→∃e∈es,Region.binds .any e=true∧(j=e.on∨(done.getD e.on 0).testBit j=true)
 |[],h=>by grind[pO]
 |e::es,h=>by
  simp only[pO]at h;split at h
  ·simp at h;rcases h with(h|h)|h
   ·obtain⟨e',he,h2,h3⟩:=Lb h;grind
   all_goals grind
  ·obtain⟨e',he,h2,h3⟩:=Lb h;grind
def S6:∀(ops:List Oper)(done:List Nat),(lg ops done).length=done.length+ops.length∧(∀i,i<done.length→(lg ops done).getD i 0=done.getD i 0)∧
 ∀(i j:Nat),i<ops.length→((lg ops done).getD (done.length+i) 0).testBit j=true→∃o,ops[i]?=some o∧∃e∈o.after.toList,Region.binds .any e=true∧(j=e.on∨(e.on<done.length+i∧((lg ops done).getD e.on 0).testBit j=true))
 |[],done=>⟨by rfl,fun i _=>rfl,fun i j hi=>by grind⟩
 |o::r,done=>by
  obtain⟨h1,h2,h3⟩:=S6 r<|done++[pO done o.after.toList];simp only[lg];refine⟨by grind,fun i hi=>?_,fun i j hi hb=>?_⟩
  ·grind
  ·cases i with
   |zero=>
    rw[iC,h2 done.length<|by simp,yf,fC<|y7 _]at hb;simp at hb;obtain⟨e,he,hbd,hor⟩:=Lb hb;grind
   |succ i=>
    have hl:(done++[pO done o.after.toList]).length+i=done.length+(i+1):=by grind
    rw[←hl]at hb;grind
def S7{bs j fj}:∀(fs:List Fp)(k:Nat),Ds bs j fj k fs=true→∀(i:Nat) fi,fs[i]?=some fi→fi.clash fj=true→(bs.getD j 0).testBit (k+i)=true
 |[],_,_,i,fi,h,_=>by grind
 |f::fs,k,h,i,fi,hi,hc=>by
  simp only[Ds,yp,iF,jq]at h;cases i with
  |zero=>
   grind
  |succ i=>
   have:=S7 fs (k+1) h.2 i fi (by grind) hc;grind
def S8{bs}:∀(fs done:List Fp)(k:Nat),k=done.length→yV bs k done fs=true→∀(i j:Nat) fi fj,i<j→done.length≤j→(done++fs)[i]?=some fi→(done++fs)[j]?=some fj→fi.clash fj=true→(bs.getD j 0).testBit i=true
 |[],done,k,_,_,i,j,fi,fj,_,hj,_,h2,_=>by
  grind
 |f::fs,done,k,hk,h,i,j,fi,fj,hij,hj,h1,h2,hc=>by
  simp only[yV,yp]at h;rcases Nat.eq_or_lt_of_le hj with rfl|hlt
  ·simp at h2;subst h2;rw[d7 hij]at h1;have:=S7 done 0 h.1 i fi h1 hc;grind
  ·have:=S8 fs (done++[f]) (k+1) (by grind) h.2 i j fi fj hij (by grind) (by grind) (by grind) hc;omega
def S9:∀(ops:List Oper)(k:Nat),uk k ops=true→∀(i:Nat) o,ops[i]?=some o→∀e∈o.after.toList,Region.binds .any e=true→e.on<k+i
 |[],_,_,i,o,h=>by grind
 |o::r,k,h,i,o',hi=>by
  simp only[uk,yp,y1b]at h;cases i with
  |zero=>
   simp at hi;subst hi;intro e he hb;have:=h.1 e he;simp_all
  |succ i=>
   intro e he hb;have:=S9 r (k+1) h.2 i o' (by grind) e he hb;omega
structure Left(ops:Array Oper)(fs:List Fp)(listed:Array Bool)(L:List (Nat×Oper×Fp)):Prop where
 size:listed.size=ops.size
 sorted:L.Pairwise (fun x y=>x.1<y.1)
 what:∀x∈L,ops[x.1]?=some x.2.1∧fs[x.1]?=some x.2.2
 all:∀i,i<ops.size→(listed.getD i true=false↔∃x∈L,x.1=i)
 down:∀k,listed.getD k false=true→∀j,((lg ops.toList []).getD k 0).testBit j=true→listed.getD j false=true
def ahy{α:Type}{x}{l:List α}(h:x∈l):∃a b,l=a++x::b:=List.append_of_mem h
def Ta(l:Array Bool) i j d:(l.setIfInBounds i true).getD j d=if i=j∧i<l.size then true else l.getD j d:=by
 simp;grind
def Tb(hT:TabOK P M)(hF:FnsOK P M){ops:Array Oper}{Q:Exit→Act→World→Prop}{s':S U}{fs:List Fp}(hK:∀g' a' w',Sim P M.E fr g' s' a' w'→Q .normal a' w')
 (hedge:uk 0 ops.toList=true)(hap:∀(i j:Nat) fi fj,i<j→fs[i]?=some fi→fs[j]?=some fj→fi.clash fj=true→((lg ops.toList []).getD j 0).testBit i=true):
 ∀(fuel:Nat)(listed:Array Bool)(L:List (Nat×Oper×Fp)){g:G}{s:S U}{a:Act}{w:World},L.length=fuel→Left ops fs listed L→Sim P M.E fr g s a w→oa M ops.toList (L.map (·.2)) s s'→wpAny P .any ops Q fuel listed a w
 |0,listed,L,g,s,a,w,hl,hL,h,hr=>by
  have:L=[]:=yx hl;subst this;have e:s=s':=hr;subst e;refine⟨?_,hK g a w h⟩;unfold Region.ready;rw[List.filter_eq_nil_iff];intro i hi;have hlt:i<ops.size:=by grind
  have:listed.getD i true=true:=by
   cases hg:listed.getD i true with
   |true=>rfl
   |false=>obtain⟨x,hx,_⟩:=(hL.all i hlt).1 hg;grind
  grind
 |fuel+1,listed,L,g,s,a,w,hl,hL,h,hr=>by
  have hnotempty:Region.ready .any ops listed≠[]:=by
   cases L with
   |nil=>grind
   |cons x L=>
    obtain⟨i,o,f⟩:=x;have hx:=hL.what (i,o,f) (by simp);have hlt:i<ops.size:=(y33.1 hx.1).1;have hun:=(hL.all i hlt).2 ⟨(i,o,f),by simp,rfl⟩;have hmem:i∈Region.ready .any ops listed:=by
     unfold Region.ready;refine y2u.2 ⟨by grind,?_⟩;rw[hun,hx.1];simp only[Bool.not_false,dQ,iD,Gi,Array.all_eq_true'];intro e he;simp only[iF,jq];cases hb:Region.binds .any e with
     |false=>simp
     |true=>
      right;have hlt2:=S9 ops.toList 0 hedge i o (by grind) e (by grind) hb;have hlt3:e.on<ops.size:=by omega
      cases hg:listed.getD e.on true with
      |true=>
       grind
      |false=>
       obtain⟨y,hy,hyi⟩:=(hL.all e.on hlt3).1 hg;have hs:=y2l.1 hL.sorted;grind
    grind
  refine⟨fun hn=>(hnotempty hn).elim,fun i hi=>?_⟩;unfold Region.ready at hi;obtain⟨hi1,hi2⟩:=y2u.1 hi;have hlt:i<ops.size:=by grind
  simp only[yp,jq]at hi2;obtain⟨⟨i',o,f⟩,hx,hii⟩:=(hL.all i hlt).1 hi2.1;have hii':i'=i:=hii;subst hii';have hw:=hL.what _ hx;have hready:∀e∈o.after.toList,Region.binds .any e=true→listed.getD e.on false=true:=by
   have:=hi2.2;rw[hw.1]at this;simp only[iD,Gi,Array.all_eq_true']at this;intro e he hb;have:=this e (by simpa using he);rw[hb]at this;simpa using this
  have hbefore:∀j,((lg ops.toList []).getD i' 0).testBit j=true→listed.getD j false=true:=by
   intro j hj;have hspec:=(S6 ops.toList []).2.2 i' j (by omega) (by simp_all);obtain⟨o',ho',e,he,hb,hor⟩:=hspec;rw[nO,hw.1]at ho';simp at ho';subst ho';have hle:=hready e he hb;rcases hor with rfl|⟨_,hor⟩
   ·omega
   ·exact hL.down e.on hle j hor
  obtain⟨pre,post,rfl⟩:=ahy hx;have hpw:=y25.1 hL.sorted;have hlisted:∀x∈pre++post,listed.getD x.1 true=false:=by
   intro x hxm;have hm:x∈pre++(i',o,f)::post:=by
    grind
   exact(hL.all x.1 (y33.1 (hL.what x hm).1).1).2 ⟨x,hm,rfl⟩
  have hne:∀x∈pre++post,x.1≠i':=by
   intro x hxm;rcases ye.1 hxm with hh|hh
   ·have:=hpw.2.2 x hh (i',o,f) (by simp);exact Nat.ne_of_lt this
   ·have:=(y2l.1 hpw.2.1).1 x hh;exact(Nat.ne_of_lt this).symm
  have hrun:oa M ops.toList ((o,f)::((pre++post).map (·.2))) s s':=by
   have hr':oa M ops.toList (pre.map (·.2)++(o,f)::post.map (·.2)) s s':=by grind
   have:=front (fun x hxm=>by
    obtain⟨y,hy,rfl⟩:=y2a.1 hxm;cases hcl:y.2.2.clash f with
    |false=>rfl
    |true=>
     have hyw:=hL.what y (by grind)
     grind) hr'
   grind
  obtain⟨s1,hs1,hs2⟩:=hrun;refine SU hT hF hw.1 h hs1 fun g' a' w' h'=>?_;refine Tb hT hF hK hedge hap fuel (listed.setIfInBounds i' true) (pre++post) (by grind) ?_ h' hs2
  refine⟨by simp[hL.size],?_,fun x hxm=>hL.what x (by
   grind),fun j hj=>?_,fun k hk j hj=>?_⟩
  ·grind
  ·rw[Ta];by_cases e:i'=j
   ·grind
   ·rw[if_neg (by omega),hL.all j hj];constructor
    ·rintro⟨x,hxm,hxe⟩;grind
    ·rintro⟨x,hxm,hxe⟩;grind
  ·rw[Ta]at hk ⊢;by_cases e:i'=j
   ·grind
   ·rw[if_neg (by omega)];by_cases e2:i'=k
    ·grind
    ·rw[if_neg (by omega)]at hk;exact hL.down k hk j hj
end B
namespace B
open Go Go.RowKit
variable {U:Uni} {P:Program} {E:Enc U} {fr:Fr} {w:World} {g:G} {s:S U} {a:Act}
def Tc{α t x}:∀{l:List (Nat×α)},look t l=some x→(t,x)∈l:=fun h=>sJ h
theorem Td{k q}:∀{mp:List (Nat×Nat)},du (mp.map (·.1))=true→(k,q)∈mp→look k mp=some q
 |[],_,h=>by grind
 |(k',q')::r,hu,h=>by
  obtain⟨h1,h2⟩:=pS hu;simp only[look];rcases yh.1 h with e|h
  ·simp_all
  ·have hb:Nat.beq k' k=false:=by grind[Nat.beq,Nat.eq_of_beq_eq_true]
   rw[hb];exact Td h2 h
def back(q:Nat):List (Nat×Nat)→Option Nat
 |[]=>none
 |(k,q')::r=>if q'=q then some k else back q r
def Te{k q}:∀{mp:List (Nat×Nat)},du (mp.map (·.2))=true→(k,q)∈mp→back q mp=some k
 |[],_,h=>by grind
 |(k',q')::r,hu,h=>by
  obtain⟨h1,h2⟩:=pS hu;simp only[back];rcases yh.1 h with e|h
  ·grind
  ·have:q'≠q:=by grind
   rw[if_neg this];exact Te h2 h
def Tf{q}{o:Ob U}:∀{mp:List (Nat×Nat)}{l:List (Option<|Ob U)},du (mp.map (·.2))=true→(∀x∈mp,x.2<l.length)→(∀o,l[q]? ≠some (some o))→(aH l<|s.moved mp)[q]?=some (some o)→∃k o0,(k,q)∈mp∧s.ob[k]?=some (some o0)∧o={o0 with ver:=0}
 |[],l,_,_,hn,h=>(hn o h).elim
 |(k,q')::r,l,hu,hl,hn,h=>by
  obtain⟨h1,h2⟩:=pS hu;simp only[S.moved,aH]at h;by_cases e:q=q'
  ·have hnr:q ∉(s.moved r).map (·.1):=by
    have:∀r:List (Nat×Nat),(s.moved r).map (·.1)=r.map (·.2):=by
     intro r;induction r with
     |nil=>rfl
     |cons x r ih=>simp[S.moved,ih]
    grind
   grind[zH,List.getElem?_set_self]
  ·obtain⟨k',o0,m1,m2,m3⟩:=Tf (mp:=r) h2 (fun x hx=>by grind) (fun o' ho'=>by grind) h;grind
def Lc{k q}{o:Ob U}(ho:s.ob[k]?=some (some o)):∀{mp:List (Nat×Nat)}{l:List (Option<|Ob U)},du (mp.map (·.2))=true→(∀x∈mp,x.2<l.length)→(k,q)∈mp→(aH l<|s.moved mp)[q]?=some (some {o with ver:=0})
 |[],l,_,_,h=>by grind
 |(k',q')::r,l,hu,hl,h=>by
  obtain⟨h1,h2⟩:=pS hu;have hkeys:∀r:List (Nat×Nat),(s.moved r).map (·.1)=r.map (·.2):=by
   intro r;induction r with
   |nil=>rfl
   |cons x r ih=>simp[S.moved,ih]
  simp only[S.moved,aH];rcases yh.1 h with e|h
  ·obtain⟨rfl,rfl⟩:=e;rw[zH (by rw[hkeys];exact h1),eH<|hl (k,q)<|by simp,ho]
  ·exact Lc ho h2 (fun x hx=>by grind) h
def All2.keep{α β R z}(hz:∀a,R a z):∀(bs:List Bool){l:List α}{r:List β},All2 R l r→All2 R l (iK z bs r)
 |[],[],[],_=>trivial
 |[],_::_,_::_,h=>⟨hz _,All2.keep hz [] h.2⟩
 |_::_,[],[],_=>trivial
 |b::bs,_::_,_::_,h=>⟨by cases b;exact hz _;exact h.1,All2.keep hz bs h.2⟩
def Ld{α z}:∀(bs:List Bool)(l:List α)(k:Nat)(x:α),(iK z bs l)[k]?=some x→(l[k]?=some x∧bs[k]?=some true)∨x=z
 |_,[],k,x,h=>by grind[iK]
 |[],y::l,0,x,h=>by simp_all[iK]
 |[],y::l,k+1,x,h=>by
  rcases Ld [] l k x h with⟨_,h2⟩|h
  all_goals grind
 |b::bs,y::l,0,x,h=>by
  cases b
  ·simp[iK]at h;exact .inr h.symm
  ·simp[iK]at h;exact .inl ⟨by simp[h],rfl⟩
 |b::bs,y::l,k+1,x,h=>by
  exact Ld bs l k x h
def Tg{α z}:∀(bs:List Bool)(l:List α)(k:Nat)(x:α),l[k]?=some x→bs[k]?=some true→(iK z bs l)[k]?=some x
 |[],_,_,_,_,h=>by grind
 |_::_,[],_,_,h,_=>by grind
 |b::bs,y::l,0,x,h,hb=>by simp at hb h;subst hb h;rfl
 |b::bs,y::l,k+1,x,h,hb=>by
  exact Tg bs l k x h hb
theorem Sim.ren(h:Sim P E fr g s a w){mp:List (Nat×Nat)}(ts bs:List Bool)(hu1:du (mp.map (·.1))=true)(hu2:du (mp.map (·.2))=true)(hlt:∀x∈mp,x.2<s.ob.length):∃g',Sim P E fr g' (s.ren mp ts bs) a w:=by
  let g':G:={β:=g.β,lb:=fun k=>g.lb k∧bs[k]?=some true,
                  ω:=fun b i=>match g.ω b i with|some (.obj k)=>(look k mp).map Own.obj|x=>x,
                  tk:=fun q=>match back q mp with|some k=>g.tk k|none=>g.tk q}
  have hlt':∀x∈mp,x.2<(List.replicate s.ob.length (none:Option (Ob U))).length:=fun x hx=>by grind
  have hst:∀b i,g.St b i→g'.St b i:=fun b i hs=>by show(match g.ω b i with|some (.obj k)=>_|x=>x)=_;rw[show g.ω b i=some .st from hs]
  have hobj:∀b i k q,(k,q)∈mp→g.ω b i=some (.obj k)→g'.ω b i=some (.obj q):=fun b i k q hm he=>by
    show(match g.ω b i with|some (.obj k)=>_|x=>x)=_;rw[he];simp only[Td hu1 hm];rfl
  have htk:∀k q,(k,q)∈mp→g'.tk q=g.tk k:=fun k q hm=>by show(match back q mp with|some k=>_|none=>_)=_;rw[Te hu2 hm]
  have hk:Keeps g.St w g'.St w:=fun b i hs=>⟨hst b i hs,rfl⟩;have hc:∀v c,CRel P E g s.ob w v c→CRel P E g' (s.ren mp ts bs).ob w v (c.ren s mp bs):=by
    intro v c hv;cases c with
    |s x=>exact hv
    |sl τ xs f=>exact⟨hv.1.mono hk,hv.2⟩
    |ob k ver=>
      simp only[C.ren];split
      · rename_i q o hl ho;obtain⟨h1,h2⟩:=gN ho;obtain⟨i1,o',i2,i3,i4⟩:=hv;rw[h1]at i2;simp at i2;subst i2;have hm:=Tc hl;exact⟨i1,_,Lc h1 hu2 hlt' hm,y7 _,fun _=>by grind⟩
      · exact hv.1
    |bx k off=>
      simp only[C.ren];split
      · rename_i hb;exact⟨⟨hv.1,hb⟩,hv.2⟩
      · rw[hv.2];rfl
    |el τ xs i off=>obtain⟨h1,b,o,cap,h2,h3⟩:=hv;exact⟨h1,b,o,cap,h2,h3.mono hk⟩
    |em k ver i off=>
      simp only[C.ren];split
      · rename_i q o hl ho;obtain⟨h1,h2⟩:=gN ho;obtain⟨i1,o',i2,i3,i4⟩:=hv;rw[h1]at i2;simp at i2;subst i2;have hm:=Tc hl;obtain⟨j1,b,off',j2,j3⟩:=i4 h2.symm;exact⟨i1,_,Lc h1 hu2 hlt' hm,y7 _,fun _=>⟨j1,b,off',by grind,j3⟩⟩
      · exact hv.1
    |fv φ=>exact FunRel.mono hk hv
    |fc f caps=>
      simp only[C.ren];split
      · refine⟨hv.1,fun k hk'=>⟨hv.2 k hk',?_⟩⟩;grind
      · rw[hv.1];rfl
    |top=>exact hv
  have hcs:∀{us:List Value}{cs:List (C U)},All2 (CRel P E g s.ob w) us cs→All2 (CRel P E g' (s.ren mp ts bs).ob w) us (cs.map (C.ren s mp bs)):=fun hh=>All2.map_right (C.ren s mp bs) (fun x y hxy=>hc x y hxy) hh;have ha:∀v x,ARel P E g s.ob w v x→ARel P E g' (s.ren mp ts bs).ob w v (x.ren s mp bs):=by
    intro v x hv;cases x with
    |c y=>exact hc v y hv
    |agg cs=>obtain⟨arr,e,h2⟩:=hv;exact⟨arr,e,hcs h2⟩
    |top=>trivial
  have hav:∀v x,AVRel P E g s.ob w v x→AVRel P E g' (s.ren mp ts bs).ob w v (x.ren s mp bs):=by
    intro v x hv;cases x with
    |one y=>exact ha v y hv
    |tup al=>obtain⟨arr,e,h2⟩:=hv;exact⟨arr,e,All2.map_right (A.ren s mp bs) (fun x y hxy=>ha x y hxy) h2⟩
    |undef=>exact hv
  refine⟨g',{ext:=h.ext,tms:=?_,bxs:=?_,lbs:=?_,obs:=?_,own:=?_,dfr:=h.dfr,fix:=fun k hk hl=>h.fix k hk hl.1,bas:=h.bas}⟩
  · exact All2.map_right (AV.ren s mp bs) (fun x y hxy=>hav x y hxy) (All2.keep (fun _=>trivial) ts h.tms)
  · intro k fz cells hk';have hk2:((iK none bs s.bx).map (Option.map fun x=>(x.1,x.2.map (C.ren s mp bs))))[k]?=some (some (fz,cells)):=hk';rw[dn]at hk2;cases hb:(iK none bs s.bx)[k]? with
    |none=>grind
    |some x=>
      cases x with
      |none=>grind
      |some x=>
        obtain⟨fz0,c0⟩:=x;rw[hb]at hk2;obtain⟨rfl,rfl⟩:=hk2;rcases Ld bs s.bx k _ hb with⟨h1,h2⟩|h1
        · obtain⟨hl,vs,i1,i2⟩:=h.bxs k fz0 c0 h1;refine⟨⟨hl,h2⟩,vs,hcs i1,fun i v hv=>?_⟩;grind
        grind
  · intro k hl;obtain⟨c,hc'⟩:=h.lbs k hl.1;obtain⟨fz,cells⟩:=c;refine⟨(fz,cells.map (C.ren s mp bs)),?_⟩;show((iK none bs s.bx).map _)[k]?=_;rw[dn,Tg bs s.bx k _ hc' hl.2];rfl
  · intro q o hq;obtain⟨k,o0,hm,ho,rfl⟩:=Tf (mp:=mp) hu2 hlt' (fun o' ho'=>by grind) hq;obtain⟨⟨h1,h1'⟩,h2⟩:=h.obs k o0 ho;refine⟨⟨by grind,h1'⟩,fun hcap=>?_⟩;rw[htk k q hm]at hcap ⊢;obtain⟨b,off,cv,e,hA⟩:=h2 hcap;refine⟨b,off,cv,e,⟨fun i j hi hj=>?_,fun i hi j d hd=>(hA.rel i hi j d hd).mono hk,fun hl x hx hx'=>?_⟩⟩
    · obtain⟨c1,c2⟩:=hA.cell i j hi hj;unfold eu at c2 ⊢;grind
    · obtain⟨d1,d2,d3⟩:=hA.spare hl x hx hx';grind
  · intro b i x hx;have hx':(match g.ω b i with|some (.obj k)=>(look k mp).map Own.obj|x=>x)=some x:=hx;cases hw:g.ω b i with
    |none=>grind
    |some y=>
      rw[hw]at hx';cases y with
      |st=>simp at hx';subst hx';exact h.own b i _ hw
      |box k=>simp at hx';subst hx';exact h.own b i _ hw
      |obj k=>
        refine⟨(h.own b i _ hw).1,?_⟩;rcases(h.own b i _ hw).2 with h1|h1|⟨h1,_⟩
        all_goals grind
theorem Sim.objNils:∀{nm:List (Pos×Nat)}{g:G}{s s':S U},s.objNils nm=some s'→Sim P E fr g s a w→∃g',Sim P E fr g' s' a w
 |[],g,s,s',hn,h=>by grind[S.objNils]
 |(p,q)::r,g,s,s',hn,h=>by
  simp only[S.objNils]at hn;split at hn
  ·rename_i s1 h1;obtain⟨g1,hs1⟩:=h.objNil h1;exact Sim.objNils hn hs1
  grind
def Th{g ob v c}(h:CRel P E g ob w v c):CRel P E g ob w v c.weak:=by
 cases c with
 |sl τ xs f=>exact⟨h.1,by simp⟩
 |_=>exact h
def Sim.weakB:∀(l:List Nat){s:S U},Sim P E fr g s a w→Sim P E fr g (S.weakB l s) a w
 |[],s,h=>h
 |k::r,s,h=>by
  refine Sim.weakB r ?_;refine{ext:=h.ext,tms:=h.tms,bxs:=?_,lbs:=?_,obs:=h.obs,own:=h.own,dfr:=h.dfr,fix:=h.fix,bas:=h.bas}
  ·intro q fz cells hq;have hq':(s.bx.modify k<|Option.map fun x=>(x.1,x.2.map C.weak))[q]?=some (some (fz,cells)):=hq;rw[y4k]at hq';by_cases e:k=q
   ·subst e;cases hb:s.bx[k]? with
    |none=>grind
    |some x=>
     cases x with
     |none=>grind
     |some x=>
      obtain⟨f0,c0⟩:=x;rw[hb]at hq';simp at hq';obtain⟨rfl,rfl⟩:=hq';obtain⟨hl,vs,h1,h2⟩:=h.bxs k f0 c0 hb;exact⟨hl,vs,All2.map_right C.weak (fun _ _ hh=>Th hh) h1,h2⟩
   ·have:s.bx[q]?=some (some (fz,cells)):=by grind
    exact h.bxs q fz cells this
  ·intro q hl;obtain⟨c,hc⟩:=h.lbs q hl;grind
def Sim.weakS:∀(l:List Nat){s:S U},Sim P E fr g s a w→Sim P E fr g (S.weakS l s) a w
 |[],s,h=>h
 |d::r,s,h=>by
  refine Sim.weakS r {h with tms:=?_};refine All2.of_get (by rw[h.tms.length];simp) fun i v x hv hx=>?_;rw[y4k]at hx;cases hi:s.tm[i]? with
  |none=>grind
  |some y=>
   obtain⟨v',hv',hr⟩:=h.tms.get i hi;rw[hv]at hv';simp at hv';subst hv';rw[hi]at hx;by_cases e:d=i
   ·simp[e]at hx;subst hx;cases y with
    |one z=>
     cases z with
     |c c=>exact Th hr
     |_=>exact hr
    |_=>exact hr
   grind
def Sim.frzB1(h:Sim P E fr g s a w){k fz cells vs}(hk:s.bx[k]?=some (some (fz,cells)))(hv:s.toVs cells=some vs):
 ∃g',Sim P E fr g' {s with bx:=s.bx.set k<|some (fz,vs.map C.ofV),ob:=aH s.ob<|s.frz<|Cs.obs cells} a w:=by
 obtain⟨g1,hs1,hg1,hf1,hfz⟩:=Sim.frzs (Cs.obs cells) (s0:=s) rfl h<|FrzLe.refl _;refine⟨g1,{ext:=hs1.ext,tms:=hs1.tms,bxs:=?_,lbs:=?_,obs:=hs1.obs,own:=hs1.own,dfr:=hs1.dfr,fix:=hs1.fix,bas:=hs1.bas}⟩
 ·intro q fz' cells' hq;have hq':(s.bx.set k<|some (fz,vs.map C.ofV))[q]?=some (some (fz',cells')):=hq;by_cases e:q=k
  ·subst e;rw[eH (ym.1 hk).1]at hq';obtain⟨rfl,rfl⟩:=hq';obtain⟨hl,us,h1,h2⟩:=hs1.bxs q fz cells hk;have hvr:=hs1.frozenVs (s0:=s) hf1 (fun q' hq'=>hfz q'<|.inl hq') hv h1;exact⟨hl,us,All2.map_right C.ofV (fun _ _ hh=>pP rfl hh) hvr,h2⟩
  ·rw[dP<|Ne.symm e]at hq';exact hs1.bxs q fz' cells' hq'
 ·intro q hl;obtain⟨c,hc⟩:=hs1.lbs q hl;grind
theorem Sim.frzB:∀(l:List Nat){g:G}{s:S U},Sim P E fr g s a w→∃g',Sim P E fr g' (S.frzB l s) a w
 |[],g,s,h=>⟨g,h⟩
 |k::r,g,s,h=>by
  simp only[S.frzB];split
  ·rename_i fz cells hk;split
   ·rename_i vs hv;obtain⟨g1,h1⟩:=h.frzB1 hk hv;exact Sim.frzB r h1
   ·exact Sim.frzB r h
  ·exact Sim.frzB r h
def Sim.norm(h:Sim P E fr g s a w){n s'}(hn:s.norm n=some s'):∃g',Sim P E fr g' s' a w:=by
 unfold S.norm at hn;obtain⟨g0,hs0⟩:=h.frzB n.gb;split at hn
 ·rename_i s1 h1;obtain⟨g1,hs1⟩:=Sim.objNils h1 hs0;split at hn
  ·split at hn
   ·rename_i hc;simp at hn;subst hn;simp only[yp,y1b]at hc;obtain⟨g2,hs2⟩:=hs1.ren n.ts n.bs hc.1.1 hc.1.2 (fun x hx=>by have:=hc.2 x hx;simp_all);exact⟨g2,(hs2.weakB n.gb).weakS n.gs⟩
   grind
  grind
 grind
end B
namespace B
open Go Go.RowKit
variable {U:Uni} {P:Program} {M:Mc U} {fr:Fr}
def ahz(P:Program)(M:Mc U)(fr:Fr)(Q:Exit→S U→Prop)(R:Exit→Act→World→Prop):Prop:=
 ∀e s g a w,Q e s→Sim P M.E fr g s a w→R e a w
def ahA{ops:Array Oper}{l:List (Oper×Fp)}(hl:l.map (·.1)=ops.toList):∀(i:Nat)(x:Oper×Fp),l[i]?=some x→ops[i]?=some x.1∧(l.map (·.2))[i]?=some x.2:=by
 intro i x hx;refine⟨?_,by grind⟩;rw[←nO,←hl,dn,hx];rfl
def ahB{ops:Array Oper}{l:List (Oper×Fp)}(hl:l.map (·.1)=ops.toList):Left ops (l.map (·.2)) (Array.replicate ops.size false) (l.zipIdx.map fun x=>(x.2,x.1)):=by
 have hlen:l.length=ops.size:=by grind[Array.length_toList]
 refine⟨by simp,?_,?_,?_,?_⟩
 ·simp[List.pairwise_map,y3i]
 ·intro x hx;obtain⟨y,hy,rfl⟩:=y2a.1 hx;obtain⟨i,hi⟩:=j8 hy;rw[List.getElem?_zipIdx]at hi;cases hli:l[i]? with
  |none=>rw[hli]at hi;simp at hi
  |some z=>
   rw[hli]at hi;simp at hi;subst hi;exact ahA hl i z hli
 ·intro i hi;have h1:(Array.replicate ops.size false).getD i true=false:=by
   simp_all
  rw[h1];simp only[true_iff];refine⟨(i,l[i]),y2a.2 ⟨(l[i],i),?_,rfl⟩,rfl⟩;grind
 ·intro k hk;rw[y4l,Array.getElem?_replicate]at hk;grind
def Sim.drawn{g s a w}(h:Sim P M.E fr g s a w):Sim P M.E fr g s a {w with drawn:=w.drawn+1}:=
 h.later ((Ext.refl w).drew)
def ahC(hT:TabOK P M)(hF:FnsOK P M)(hm:P.follows .mixedOrders=true){id ops drawn R K g s a w}(h:Sim P M.E fr g s a w)(hw:Ks M ops drawn s K)(hK:∀s' g' a' w',K s'→Sim P M.E fr g' s' a' w'→R .normal a' w'):(Code.region id ops drawn).wp P R a w:=by
 obtain⟨l,s',hl,hr,hk⟩:=K8 _ _ _ _ hw;cases drawn with
 |false=>
  grind[wp_region,Array.length_toList,List.range_eq_range',SV]
 |true=>
  dsimp only at hk;unfold Kr at hk;split at hk
  ·rename_i hb;simp at hb;refine wp_region_any hm ?_;have hlen:l.length=ops.size:=by grind[Array.length_toList]
   refine Tb hT hF (fun g' a' w' h'=>hK s' g' a' w' hk h') hb.1 (fun i j fi fj hij h1 h2 hc=>?_) ops.size _ (l.zipIdx.map fun x=>(x.2,x.1)) (by simp_all) (ahB hl) h.drawn ?_
   ·exact S8 (l.map (·.2)) [] 0 rfl hb.2 i j fi fj hij (yc _) (by grind) (by grind) hc
   ·have:(l.zipIdx.map fun x=>(x.2,x.1)).map (·.2)=l:=by
     apply P4;grind
    grind
  grind
def S.onX_eq{U M}{s:S U}{f c v}(h:s.ev M c=some (.one<|.c<|.s<|.bool v)):s.onX f c v=s:=by
 unfold S.onX;split
 ·rename_i t;obtain⟨hl,h⟩:=ym.1<|show s.tm[t]?=some _ from h;rw[←h,List.set_getElem_self]
 rfl
def pV(hT:TabOK P M)(hF:FnsOK P M)(hm:P.follows .mixedOrders=true) N:∀(c:Code){Q:Exit→S U→Prop}{R:Exit→Act→World→Prop}{g:G}{s:S U}{a:Act}{w:World},ahz P M fr Q R→Sim P M.E fr g s a w→aB M N c s Q→c.wp P R a w
 | .skip,Q,R,g,s,a,w,hQ,h,hw=>wp_skip<|hQ _ _ _ _ _ hw h
 | .region id ops drawn,Q,R,g,s,a,w,hQ,h,hw=>ahC hT hF hm h hw fun s' g' a' w' hk h'=>hQ _ _ _ _ _ hk h'
 | .seq x y,Q,R,g,s,a,w,hQ,h,hw=>by
  refine wp_seq ?_;refine pV hT hF hm N x (Q:=Kt (fun s'=>aB M N y s' Q) Q) ?_ h hw;intro e s1 g1 a1 w1 hq h1;cases e with
  |normal=>exact pV hT hF hm N y hQ h1 hq
  |exit id=>exact hQ _ _ _ _ _ hq h1
  |goto l=>exact hQ _ _ _ _ _ hq h1
  |ret=>exact hQ _ _ _ _ _ hq h1
  |panic ch=>exact hQ _ _ _ _ _ hq h1
  |outgrown=>exact hQ _ _ _ _ _ hq h1
 | .cond c x y,Q,R,g,s,a,w,hQ,h,hw=>by
  simp only[aB]at hw;split at hw
  ·rename_i b hc;have hcv:a.eval c=.bool b:=(h.ev hF hc).1;cases b with
   |true=>exact wp_cond_true hcv<|pV hT hF hm N x hQ h (by rw[←S.onX_eq hc (f:=(N 0).cs)];exact hw)
   |false=>exact wp_cond_false hcv<|pV hT hF hm N y hQ h (by rw[←S.onX_eq hc (f:=(N 0).cs)];exact hw)
  grind
 | .block id c,Q,R,g,s,a,w,hQ,h,hw=>by
  refine wp_block ?_;refine pV hT hF hm N c (Q:=yW id Q) ?_ h hw;intro e s1 g1 a1 w1 hq h1;cases e with
  |exit id'=>
   simp only[yW]at hq;simp only[Exit.inBlock];split at hq
   ·rename_i e;rw[if_pos e];exact hQ _ _ _ _ _ hq h1
   ·rename_i e;rw[if_neg e];exact hQ _ _ _ _ _ hq h1
  |normal=>exact hQ _ _ _ _ _ hq h1
  |goto l=>exact hQ _ _ _ _ _ hq h1
  |ret=>exact hQ _ _ _ _ _ hq h1
  |panic ch=>exact hQ _ _ _ _ _ hq h1
  |outgrown=>exact hQ _ _ _ _ _ hq h1
 | .loop c,Q,R,g,s,a,w,hQ,h,hw=>by
  have nrm:∀{K:S U→Prop}{g:G}{s:S U}{a:Act}{w:World},Sim P M.E fr g s a w→nV (N<|eJ c) K s→∃g' s',Sim P M.E fr g' s' a w∧K s':=by
   intro K g s a w h hk;unfold nV at hk;split at hk
   ·rename_i s1 hn;obtain⟨g1,hs1⟩:=h.norm hn;grind
   grind
  have hw':nV (N<|eJ c) (zw (N<|eJ c) (aB M N c) Q) s:=hw;obtain⟨g0,s0,hs0,k,hk⟩:=nrm h hw';refine wp_loop_rounds k ?_;have key:∀(k:Nat){g:G}{s:S U}{a:Act}{w:World},Sim P M.E fr g s a w→br (N<|eJ c) (aB M N c) Q k s→Code.rounds P c R k a w:=by
   intro k
   induction k with
   |zero=>intro g s a w _ hk;exact hk.elim
   |succ k ih=>
    intro g s a w h hk;refine pV hT hF hm N c (Q:=Ku (N<|eJ c) (br (N<|eJ c) (aB M N c) Q k) Q) ?_ h hk;intro e s2 g2 a2 w2 hq h2;cases e with
    |normal=>obtain⟨g3,s3,h3,hq3⟩:=nrm h2 hq;exact ih h3 hq3
    |exit id=>obtain⟨g3,s3,h3,hq3⟩:=nrm h2 hq;exact hQ _ _ _ _ _ hq3 h3
    |goto l=>obtain⟨g3,s3,h3,hq3⟩:=nrm h2 hq;exact hQ _ _ _ _ _ hq3 h3
    |ret=>obtain⟨g3,s3,h3,hq3⟩:=nrm h2 hq;exact hQ _ _ _ _ _ hq3 h3
    |panic ch=>obtain⟨g3,s3,h3,hq3⟩:=nrm h2 hq;exact hQ _ _ _ _ _ hq3 h3
    |outgrown=>obtain⟨g3,s3,h3,hq3⟩:=nrm h2 hq;exact hQ _ _ _ _ _ hq3 h3
  grind
 | .exit id,Q,R,g,s,a,w,hQ,h,hw=>wp_exit<|hQ _ _ _ _ _ hw h
 | .ret,Q,R,g,s,a,w,hQ,h,hw=>wp_ret<|hQ _ _ _ _ _ hw h
 | .scope c,Q,R,g,s,a,w,hQ,h,hw=>by grind[aB]
 | .label l,Q,R,g,s,a,w,hQ,h,hw=>by grind[aB]
 | .goto l,Q,R,g,s,a,w,hQ,h,hw=>by grind[aB]
 | .refuse m,Q,R,g,s,a,w,hQ,h,hw=>by grind[aB]
end B
end Go.Proofs.YtjfpbchdcbhfgaaGreat
