/- Part 13 of the proof: Sscal2n Sevalg Sscal3 Saggspec Sagg1 Lown Lclone. -/
import Derived.Shelf.SlicesE.Clone
import Derived.Test.YtjfpbchdcbhfgaaGreatNsy12
set_option linter.unusedVariables false
set_option linter.unusedSimpArgs false
set_option linter.defProp false
set_option maxHeartbeats 2000000
namespace Go.Proofs.YtjfpbchdcbhfgaaGreat
namespace B
open Go Go.RowKit
set_option maxRecDepth 100000
noncomputable section
attribute [local irreducible] aB bk zw br aK b9 aR bu bA
def ik(op:Int)(name:ByteArray)(l:List Val):Val:=
 if op=3 then(if eM l 2=true then gp (jI (l.getD 0 z7).n).1 (jI (l.getD 0 z7).n).2 else z7)
 else if op=4 then ib (tp<|dN<|l.getD 0 z7)
 else if op=19 then cE ((l.getD 0 z7).kind ==0)
 else if op=5∨op=6∨op=7∨op=8∨op=9 then(if eM l 2=true then gp (jZ op (l.getD 0 z7).n (l.getD 1 z7).n).1 (jZ op (l.getD 0 z7).n (l.getD 1 z7).n).2 else z7)
 else if op=10 then(if eM l 3=true then(if(l.getD 0 z7).s.size+(l.getD 1 z7).s.size≤100 then fL ((l.getD 0 z7).s++(l.getD 1 z7).s)else z7)else z7)
 else if op=11∨op=12∨op=13∨op=14∨op=15∨op=16 then dO op (l.getD 0 z7) (l.getD 1 z7)
 else if op=17 then mW mU (l.getD 0 z7) (l.getD 1 z7)
 else if op=18 then mW eL (l.getD 0 z7) (l.getD 1 z7)
 else if op=20 then(if eM l 3=true then cE (tr (l.getD 0 z7).s (l.getD 1 z7).s)else z7)
 else if op=21 then tt (l.getD 0 z7) (l.drop 1)
 else if op=22 then mW mU (dO 16 (l.getD 0 z7)<|l.getD 1 z7) (dO 14 (l.getD 0 z7)<|l.getD 2 z7)
 else if op=23 then IY l
 else if op=24 then oT name l
 else z7
def bS(op:Int):Int×Bool:=if op=3∨op=4∨op=19 then(1,false)else if op=22 then(3,false)else if op=21∨op=23 then(2,true)else if op=24 then(0,true)else(2,false)
def Ze(op:Int):Option (RF Un):=aw av aV Tryz.f156 0 [.d,.d] [.d<|.v<|.s<|.int .i64 op]
def aqT(op):Ze op=af (op==3) (some<|aG ((1:Int),false)) (af (op==4) (some<|aG ((1:Int),false))<|af (op==19) (some<|aG ((1:Int),false))<|af (op==22) (some<|aG ((3:Int),false))<|af (op==21) (some<|aG ((2:Int),true))<|af (op==23) (some<|aG ((2:Int),true))<|af (op==24) (some<|aG ((0:Int),true))<|some<|aG ((2:Int),false)):=ah
def tu(op:Int):Int×Bool:=bS op
def aqU op(_h:WI op):Ze op=some (aG<|tu op):=by
 rw[aqT];unfold tu bS;simp only[z8,iF,beq_iff_eq];grind
def Zf:au Un:=aQ (dI .i64) fun op=>([],aG<|tu op)
def aqV:aj 156 Zf:=aU zn (M:=av) rfl trivial Tryz.func156 fun op=>GiF.r fun w _=>aqU op<|am w 0
def Zg:Mc Un:=az [(156,Zf),(157,YY),(159,Nq),(158,QM),(161,tq),(160,Yn),(155,w9),(39,xh),(162,Ny),(163,Nz),(164,IR),(165,QN),(167,YG),(168,Y7),(169,Y9),(170,Zd)] [(166,kD),(153,oN)] [] [] []
def Zh(op:Int)(l:List Val):=gp (jZ op (l.getD 0 z7).n (l.getD 1 z7).n).fst (jZ op (l.getD 0 z7).n (l.getD 1 z7).n).snd
def Zi(l:List Val):=mW (gP kD) (l.getD 0 z7)<|l.getD 1 z7
def Zj(l:List Val):=mW (gP oN) (l.getD 0 z7)<|l.getD 1 z7
def Zk(l:List Val):=mW (gP kD) (dO (16:Int) (l.getD 0 z7)<|l.getD 1 z7)<|dO (14:Int) (l.getD 0 z7)<|l.getD 2 z7
def Zl(op:Int)(name:ByteArray)(l:List Val):Option (RF Un):=aw Zg aV Tryz.f120 0 [.d] [.d<|.v<|.s<|.int .i64 op,.d<|.v<|cs name,.d<|.v<|.dat (U:=Un) Ty.val l]
def xl(op:Int)(l:List Val):Option (RF Un):=af (eM l (2:Int)) (ae (5≤op∧op≤9)<|ae ((0:Int)≤(0:Int)∧(0:Int)<(↑l.length:Int))<|ae ((0:Int)≤(1:Int)∧(1:Int)<(↑l.length:Int))<|some<|aq<|Zh op l)<|some<|aq z7
def tw(op:Int)(l:List Val):Option (RF Un):=ae ((0:Int)≤(0:Int)∧(0:Int)<(↑l.length:Int))<|ae ((0:Int)≤(1:Int)∧(1:Int)<(↑l.length:Int))<|ae (11≤op∧op≤16)<|some<|aq<|dO op (l.getD 0 z7)<|l.getD 1 z7
def I1(op:Int)(name:ByteArray)(l:List Val):Option (RF Un):=af (op==3) (af (eM l (2:Int)) (ae ((0:Int)≤(0:Int)∧(0:Int)<(↑l.length:Int))<|some<|aq<|gp (jI (l.getD 0 z7).n).fst (jI (l.getD 0 z7).n).snd)<|some<|aq z7)<|af (op==4) (ae ((0:Int)≤(0:Int)∧(0:Int)<(↑l.length:Int))<|some<|aq<|ib<|tp<|dN<|l.getD 0 z7)<|af (op==19) (ae ((0:Int)≤(0:Int)∧(0:Int)<(↑l.length:Int))<|some<|aq<|cE<|(l.getD 0 z7).kind ==0)<|af (op==5) (xl op l)<|af (op==6) (xl op l)<|af (op==7) (xl op l)<|af (op==8) (xl op l)<|af (op==9) (xl op l)<|af (op==10) (af (eM l (3:Int)) (ae ((0:Int)≤(0:Int)∧(0:Int)<(↑l.length:Int))<|ae ((0:Int)≤(1:Int)∧(1:Int)<(↑l.length:Int))<|af (decide<|IntKind.i64.wrap ((↑(l.getD 0 z7).s.size:Int)+(↑(l.getD 1 z7).s.size:Int))≤100) (ae ((0:Int)≤(0:Int)∧(0:Int)<(↑l.length:Int))<|ae ((0:Int)≤(1:Int)∧(1:Int)<(↑l.length:Int))<|ae ((l.getD 0 z7).s.size+(l.getD 1 z7).s.size≤(9223372036854775807:Nat))<|some<|aq<|fL<|(l.getD 0 z7).s++(l.getD 1 z7).s)<|some<|aq z7)<|some<|aq z7)<|af (op==11) (tw op l)<|af (op==12) (tw op l)<|af (op==13) (tw op l)<|af (op==14) (tw op l)<|af (op==15) (tw op l)<|af (op==16) (tw op l)<|af (op==17) (ae ((0:Int)≤(0:Int)∧(0:Int)<(↑l.length:Int))<|ae ((0:Int)≤(1:Int)∧(1:Int)<(↑l.length:Int))<|ae (kD=kl (gP kD))<|some<|aq<|Zi l)<|af (op==18) (ae ((0:Int)≤(0:Int)∧(0:Int)<(↑l.length:Int))<|ae ((0:Int)≤(1:Int)∧(1:Int)<(↑l.length:Int))<|ae (oN=kl (gP oN))<|some<|aq<|Zj l)<|af (op==20) (af (eM l (3:Int)) (ae ((0:Int)≤(0:Int)∧(0:Int)<(↑l.length:Int))<|ae ((0:Int)≤(1:Int)∧(1:Int)<(↑l.length:Int))<|ae ((l.getD 0 z7).s.size≤(2000000:Nat))<|ae ((l.getD 1 z7).s.size≤(2000000:Nat))<|some<|aq<|cE<|tr (l.getD 0 z7).s (l.getD 1 z7).s)<|some<|aq z7)<|af (op==21) (ae ((0:Int)≤(0:Int)∧(0:Int)<(↑l.length:Int))<|ae ((0:Int)≤(1:Int)∧(1:Int)≤(↑l.length:Int))<|ae ((List.drop 1 l).length≤(2000000:Nat))<|some<|aq<|tt (l.getD 0 z7)<|List.drop 1 l)<|af (op==22) (ae ((0:Int)≤(0:Int)∧(0:Int)<(↑l.length:Int))<|ae ((0:Int)≤(1:Int)∧(1:Int)<(↑l.length:Int))<|ae ((11:Int)≤(16:Int)∧(16:Int)≤(16:Int))<|ae ((0:Int)≤(0:Int)∧(0:Int)<(↑l.length:Int))<|ae ((0:Int)≤(2:Int)∧(2:Int)<(↑l.length:Int))<|ae ((11:Int)≤(14:Int)∧(14:Int)≤(16:Int))<|ae (kD=kl (gP kD))<|some<|aq<|Zk l)<|af (op==23) (some<|aq<|IY l)<|af (op==24) (ae (dY l)<|some<|aq<|oT name l)<|some<|aq z7
def aqW(op name l):Zl op name l=af (decide<|(↑l.length:Int)<(tu op).fst) (some<|aq z7) (af (!(tu op).snd) (af (decide<|(↑l.length:Int)>(tu op).fst) (some<|aq z7)<|I1 op name l)<|I1 op name l):=ah
def cJ(op:Int)(name:ByteArray)(l:List Val):Val:=if(l.length:Int)<(bS op).1∨((bS op).2=false∧(l.length:Int)>(bS op).1)then z7 else ik op name l
def aqX op name l(h:dY l)(hn:¬((l.length:Int)<(bS op).1∨((bS op).2=false∧(l.length:Int)>(bS op).1))):I1 op name l=some (aq (ik op name l)):=by
 have hlen:=h.1;have ht:∀i,i<l.length→(l.getD i z7).s.size≤2000000:=fun i hi=>h.2 _ (by grind);have hvA:kD=kl (gP kD):=by rfl
 have hfA:gP kD=mU:=by rfl
 have hvO:oN=kl (gP oN):=by rfl
 have hfO:gP oN=eL:=by rfl
 unfold I1 ik;simp only[zV];simp only[z8,iF,beq_iff_eq];by_cases h3:op=3
 ·have hc:l.length=1:=by have:bS 3=(1,false):=rfl;grind
  grind[z6]
 rw[if_neg h3,if_neg h3];by_cases h4:op=4
 ·have hc:l.length=1:=by have:bS 4=(1,false):=rfl;grind
  simp_all[if_pos,z6]
 rw[if_neg h4,if_neg h4];by_cases h19:op=19
 ·have hc:l.length=1:=by have:bS 19=(1,false):=rfl;grind
  simp_all[if_pos,z6]
 by_cases h5:op=5∨op=6∨op=7∨op=8∨op=9
 ·have hc:l.length=2:=by
   have:bS op=(2,false):=by unfold bS;grind
   grind
  grind[xl,Zh,z8,z6]
 rw[if_neg (by omega),if_neg h5];by_cases h10:op=10
 ·have hc:l.length=2:=by have:bS 10=(2,false):=rfl;grind
  have a0:=ht 0 (by omega);have a1:=ht 1 (by omega);rw[if_pos h10,if_pos h10];split
  ·rw[z6 (by omega),z6 (by omega),zm (by omega)];by_cases hs:(l.getD 0 z7).s.size+(l.getD 1 z7).s.size≤100
   ·rw[if_pos (by grind),if_pos hs,z6 (by omega),z6 (by omega),z6 (by omega)]
   grind
  rfl
 by_cases h11:op=11∨op=12∨op=13∨op=14∨op=15∨op=16
 ·have hc:l.length=2:=by
   have:bS op=(2,false):=by unfold bS;grind
   grind
  grind[tw,z6]
 by_cases h17:op=17
 ·have hc:l.length=2:=by have:bS 17=(2,false):=rfl;grind
  simp_all[if_pos,z6,Zi]
 by_cases h18:op=18
 ·have hc:l.length=2:=by have:bS 18=(2,false):=rfl;grind
  simp_all[if_pos,z6,Zj]
 by_cases h20:op=20
 ·have hc:l.length=2:=by have:bS 20=(2,false):=rfl;grind
  grind[z6]
 by_cases h21:op=21
 ·have hc:2≤l.length:=by have:bS 21=(2,true):=rfl;grind
  grind[z6,List.length_drop]
 by_cases h22:op=22
 ·have hc:l.length=3:=by have:bS 22=(3,false):=rfl;grind
  simp_all[if_pos,z6,trans,Zk]
 by_cases h23:op=23
 ·grind
 by_cases h24:op=24
 all_goals simp_all[if_pos,z6,if_neg]
def aqY op name(l:List Val)(_ho:WI op)(_hn:cm name)(_hl:WL .val l)(h:dY l):Zl op name l=some (aq<|cJ op name l):=by
 rw[aqW];unfold cJ tu;by_cases h1:(l.length:Int)<(bS op).1
 ·simp_all[z8,if_pos,decide_eq_true]
 by_cases h2:(bS op).2=false∧(l.length:Int)>(bS op).1
 ·simp_all[if_pos,z8,decide_eq_true]
 ·rw[if_neg fun e=>e.elim h1 h2,aqX op name l h fun e=>e.elim h1 h2]
  all_goals simp_all[z8,if_pos,if_neg,of_decide_eq_true]
def QQ:au Un:=dW (dI .i64) cB (dL .val) fun op name l=>([dY l],aq<|cJ op name l)
def Zm:aj 120 QQ:=jl zn cN zi (M:=Zg) (h2:=⟨apx,apy,trivial⟩) rfl ⟨aqV,aqu,Yd,Y1,Cv,apr,IK,QK,aqb,YU,zy3,aqz,apX,aqD,aqI,aqS,trivial⟩ Tryz.func120 fun op name l=>GiF.r fun w o=>aqY op name l (am w 0) (am w 1) (am w 2)<|aA o 0
def uV(depth at_:Int)(env:List (List Val)):Val:=if 0≤depth∧depth<(env.length:Int)∧0≤at_∧at_<((env.getD depth.toNat []).length:Int)then(env.getD depth.toNat []).getD at_.toNat z7 else z7
mutual
def nH(ap:Int→ByteArray→List Val→Val)(env:List (List Val)):Term→Val
 | .mk op v depth at_ name kids _ _=>if op=1 then v else if op=2 then uV depth at_ env else if op=26∨op=27∨op=28 then z7 else ap op name (kF ap env kids)
def kF(ap:Int→ByteArray→List Val→Val)(env:List (List Val)):List Term→List Val
 |[]=>[]
 |t::l=>nH ap env t::kF ap env l
end
def Zn ap env t:nH ap env t=if t.op=1 then t.v else if t.op=2 then uV t.depth t.at_ env else if t.op=26∨t.op=27∨t.op=28 then z7 else ap t.op t.name (kF ap env t.kids):=by cases t;simp only[nH];rfl
theorem E5 ap env:∀l:List Term,kF ap env l=l.map (nH ap env)
 |[]=>rfl
 |t::l=>by simp only[kF,cL,E5 ap env l]
def ba(v:Val):Prop:=v.s.size≤2000000
mutual
def dZ:Term→Prop
 | .mk _ v _ _ _ kids _ _=>v.s.size≤2000000∧nI kids
def nI:List Term→Prop
 |[]=>True
 |t::l=>dZ t∧nI l
end
def E6 t:dZ t↔(t.v.s.size≤2000000∧nI t.kids):=by cases t;simp only[dZ,Term.v_mk,Term.kids_mk]
theorem strTs_mem:∀{l:List Term},nI l↔∀t∈l,dZ t
 |[]=>by simp[nI]
 |t::l=>by simp only[nI,yh,forall_eq_or_imp,strTs_mem (l:=l)]
def cT(env:List (List Val)):Prop:=∀r∈env,∀v∈r,ba v
theorem gv:ba z7:=yc _
theorem E7 n:ba (zk n):=yc _
def Zo n b:ba (gp n b):=by
 unfold gp;split
 ·exact gv
 ·exact E7 n
def Zp b:ba (cE b):=by rw[IQ];exact yc _
def E8 a:ba (ib a):=by
 unfold ib
 repeat' split
 all_goals exact yc _
def aqZ op a b:ba (dO op a b):=by
 unfold dO;split
 ·exact yc _
 ·exact gv
def E9{l:List Val}(h:∀x∈l,ba x) i:ba (l.getD i z7):=by
 rw[yf];cases e:l[i]? with
 |none=>exact gv
 |some v=>exact h v<|y9 e
def Zq:∀(l:List Val),(∀x∈l,ba x)→ba (mX l)
 |[],_=>gv
 |[x],h=>h x<|by simp
 |c::v::r,h=>by
  simp only[mX];split
  ·exact h v<|by simp
  ·exact Zq r fun x hx=>h x<|by simp[hx]
def Zr{c}[Decidable c]{a b}(ha:c→ba a)(hb:¬c→ba b):ba (if c then a else b):=by split<;>simp_all
def aq0 name{l}(h:∀x∈l,ba x):ba (oT name l):=by
 have g:=E9 h;have gt:∀(x:Val) f b,ba x→ba (fL<|fX x.s f b):=fun x f b hx=>by
  show(fX x.s f b).size≤2000000;rw[Cz];exact hx
 unfold oT NB uU uT
 repeat' split
 all_goals first|exact gv|exact g _|exact Zo _ _|exact E7 _|exact gt _ _ _<|g _
def Zs op name{l}(h:∀x∈l,ba x):ba (cJ op name l):=by
 have g:=E9 h;unfold cJ;split
 ·exact gv
 unfold ik
 repeat' (first|refine Zr (fun _=>?_) (fun _=>?_)|exact gv|exact Zo _ _|exact Zp _|exact aqZ _ _ _|exact E8 _|(unfold mW;exact E8 _)|(unfold tt;exact E8 _)|exact Zq l h|exact aq0 name h)
 all_goals first
  |exact g _
  |(show(fX _ _ _).size≤2000000;rw[Cz];exact g _)
  |(rename_i hs;show(_++_:ByteArray).size≤2000000;rw[ByteArray.size_append];omega)
def aq1{env}(h:cT env) d a:ba (uV d a env):=by
 unfold uV;split
 ·rename_i hc;have hm:env.getD d.toNat []∈env:=by
   rw[yf,ya<|by omega];exact mc _
  exact E9 (h _ hm) _
 ·exact gv
mutual
def Zt{env:List (List Val)}(h:cT env):∀t:Term,dZ t→ba (nH cJ env t)
 | .mk op v depth at_ name kids _ _,ht=>by
  simp only[dZ]at ht;simp only[nH];split
  ·exact ht.1
  ·split
   ·exact aq1 h _ _
   ·split
    ·exact gv
    ·exact Zs _ _<|I2 h kids ht.2
def I2{env:List (List Val)}(h:cT env):∀l:List Term,nI l→∀x∈kF cJ env l,ba x
 |[],_=>by simp[kF]
 |t::l,ht=>by
  simp only[nI]at ht;simp only[kF,yh,forall_eq_or_imp];exact⟨Zt h t ht.1,I2 h l ht.2⟩
end
def il(t:Term)(env:List (List Val)):Val:=nH cJ env t
def QR(m:Nat):au Un:=aD (dS .term) (dL .row) fun t env=>bB t.ht m ([t.sz≤2000000,dZ t,cT env],aq<|il t env)
def I3(m:Nat):Mc Un:=az [(117,QR m),(120,QQ)] [] [] [] []
def QS:Nat→NS:=aO [(14,{ts:=bl 81 32281802128991715382,bs:=bl 81 20,nm:=[(.sl 5,324)],cs:=true})] true
def tz(t:Term)(env:List (List Val))(v0:Int)(v1:List Val):S Un:=(st 81 81 325 0 [(1,al .row env),(2,ax 2),(4,ax 4),(5,ao 324),(62,al .term t.kids),(63,ai (↑t.kids.length:Int)),(64,ai v0)] [(2,bg .term t),(4,bg .val z7)] [(324,some ⟨(0:Nat),Ty.val,v1,some (0:Nat),true⟩)])
def CA(m:Nat):S Un→Option (EX Un):=aC (I3 m) QS Tryz.f117 [1,1,1,0,1,2,2] 14
def QT(m:Nat):Exit→S Un→Option (RF Un):=aE (I3 m) QS Tryz.f117 [1,1,1,0,1,2] [.d]
def Zu(m:Nat)(t:Term)(env:List (List Val)):Option (RF Un):=aw (I3 m) QS Tryz.f117 1 [.d] [.d<|.agg<|enc Ty.term t,.d<|.v<|.dat (U:=Un) Ty.row env]
def aq2(m t env):Zu m t env=af (t.op==1) (some<|aq t.v) (af (t.op==2) (af (decide<|t.depth≥0) (af (decide<|t.depth<(↑env.length:Int)) (af (decide<|t.at_≥0) (ae (0≤t.depth∧t.depth<(↑env.length:Int))<|af (decide<|t.at_<(↑(List.length<|env.getD t.depth.toNat []):Int)) (ae (0≤t.depth∧t.depth<(↑env.length:Int))<|ae (0≤t.at_∧t.at_<(↑(List.length<|env.getD t.depth.toNat []):Int))<|some<|aq<|List.getD (env.getD t.depth.toNat []) t.at_.toNat z7)<|some<|aq z7)<|some<|aq z7)<|some<|aq z7)<|some<|aq z7)<|af (t.op==26) (some<|aq z7)<|af (t.op==27) (some<|aq z7)<|af (t.op==28) (some<|aq z7)<|ae ((0:Int)≤(0:Int)∧(0:Int)≤(↑t.kids.length:Int)∧(↑t.kids.length:Int).toNat*(32:Nat)≤ze)<|(CA m<|tz t env (0:Int)<|[]).bind<|zd<|QT m):=ah
def Zv(m t env v0 v1):CA m (tz t env v0 v1)=af (decide<|v0<(↑t.kids.length:Int)) (ae (0≤v0∧v0<(↑t.kids.length:Int))<|ae ((Term.ids<|t.kids.getD v0.toNat zb).ht<m)<|ae ((Term.ids<|t.kids.getD v0.toNat zb).sz≤(2000000:Nat))<|ae (dZ<|Term.ids<|t.kids.getD v0.toNat zb)<|ae (cT env)<|ae ((v1.length+[(il (Term.ids<|t.kids.getD v0.toNat zb) env)].length)*(32:Nat)≤ze)<|CA m<|tz t env (IntKind.i64.wrap<|v0+1)<|v1++[(il (Term.ids<|t.kids.getD v0.toNat zb) env)]) (some (.exit 1,(tz t env v0 v1))):=aF
def aq3(m t env v0 v1):QT m (.exit 1) (tz t env v0 v1)=ae (dY v1) (some<|aq<|cJ t.op t.name v1):=ah
def aq4 m(t:Term) env(ht:WS .term t)(hm:t.ht<m+1)(h1:t.sz≤2000000)(h2:dZ t)(h3:cT env):
 (CA m<|tz t env (0:Int) []).bind (zd<|QT m)=some (aq<|cJ t.op t.name<|kF cJ env t.kids):=by
 have hk:WL .term t.kids:=ht.term_kids;have hsz:=t.sz_eq;have hlen:=fG t.kids;have hst:=(E6 t).1 h2
 obtain⟨lp,_⟩:=zy (e:=.exit 1) (L:=CA m) (st:=fun(o:List Val) i=>tz t env i o) (l:=t.kids) (d:=zb) (g:=fun o x=>o++[il x env]) (fun i o=>o.length=i) hk.len
  (fun o i x hi hx hI=>by
   have hI':o.length=i:=hI;have hmem:x∈t.kids:=by rw[←hx,yf,ya<|by omega];exact mc _
   refine⟨by show(o++[_]).length=i+1;rw[yb,yd];omega,?_⟩;have hht:=Term.ht_kid hmem;have hxs:=p4 hmem;rw[Zv];simp only[z8,hi,decide_true,if_true,and_true,y5,hx,Term.ids_eq]
   rw[z6 (by omega),z6 (by omega),z6 (by omega),z6 (strTs_mem.1 hst.2 x hmem),z6 h3,z6 (by unfold ze;rw[yd];omega)])
  (fun o _=>by rw[Zv];simp[z8]) [] rfl
 rw[ij,yr]at lp;have he:t.kids.map (fun x=>il x env)=kF cJ env t.kids:=(E5 _ _ _).symm;rw[he]at lp;refine(zf lp).trans ?_;rw[aq3,z6];refine⟨by rw[E5,yy];omega,I2 h3 t.kids hst.2⟩
def aq5 m(t:Term)(env:List (List Val))(ht:WS .term t)(_he:WL .row env)(hm:t.ht<m+1)(h1:t.sz≤2000000)(h2:dZ t)(h3:cT env):Zu m t env=some (aq<|il t env):=by
 have hlen:=fG t.kids;have hsz:=t.sz_eq;rw[aq2,aq4 m t env ht hm h1 h2 h3];have e:il t env=nH cJ env t:=rfl;rw[e,Zn];simp only[zV];simp only[z8,iF,beq_iff_eq,decide_eq_true_eq];by_cases c1:t.op=1
 ·rw[if_pos c1,if_pos c1]
 rw[if_neg c1,if_neg c1];by_cases c2:t.op=2
 ·rw[if_pos c2,if_pos c2];unfold uV;by_cases d1:t.depth≥0
  ·rw[if_pos d1];by_cases d2:t.depth<(env.length:Int)
   ·rw[if_pos d2];by_cases d3:t.at_≥0
    ·rw[if_pos d3,z6 ⟨d1,d2⟩];by_cases d4:t.at_<((env.getD t.depth.toNat []).length:Int)
     ·rw[if_pos d4,if_pos ⟨d1,d2,d3,d4⟩,z6 ⟨d1,d2⟩,z6 ⟨d3,d4⟩]
     ·rw[if_neg d4,if_neg fun e=>d4 e.2.2.2]
    ·rw[if_neg d3,if_neg fun e=>d3 e.2.2.1]
   ·rw[if_neg d2,if_neg fun e=>d2 e.2.1]
  ·rw[if_neg d1,if_neg fun e=>d1 e.1]
 rw[if_neg c2,if_neg c2];by_cases c3:t.op=26∨t.op=27∨t.op=28
 ·rw[if_pos<|by omega,if_pos c3]
 ·rw[if_neg<|by omega,if_neg c3,z6 (by unfold ze;omega)]
abbrev Zw(m:Nat):Prop:=aj 117<|QR m
def aq6(m:Nat)(hG:Zw m):aj 117 (QR<|m+1):=aJ zo zi (M:=(I3 m)) rfl ⟨hG,Zm,trivial⟩ Tryz.func117 fun t env=>GiF.r fun w o=>aq5 m t env (am w 0) (am w 1) (aA o 0) (aA o 1) (aA o 2)<|aA o 3
def Zx:∀m,Zw m
 |0=>ew
 |m+1=>aq6 m<|Zx m
def Zy:au Un:=aD (dS .term) (dL .row) fun t env=>([t.sz≤2000000,dZ t,cT env],aq<|il t env)
def aq7:aj 117 Zy:=rP fun m=>(Zx m)
def eX:ByteArray:=⟨#[99,111,117,110,116]⟩
def nmSum:ByteArray:=⟨#[115,117,109]⟩
def dV:ByteArray:=⟨#[109,105,110]⟩
def en:ByteArray:=⟨#[109,97,120]⟩
def fu:ByteArray:=⟨#[114,111,119,115]⟩
def oU:ByteArray:=⟨#[]⟩
def sd(n:Int):Val:=⟨2,n,⟨#[]⟩⟩
open Classical in
def iw(nm:ByteArray)(v:Val):Bool:=decide (v.kind≠0)&&fV v&&(decide (nm≠nmSum)||decide (v.kind=2))
open Classical in
def j0(acc:List Val)(v:Val):List Val:=if v∈acc then acc else acc++[v]
def di(c:List Val):Int:=(c.map (·.n)).sum
def qF(b:Val)(c:List Val):Val:=c.foldl (fun b v=>if ordV v b<0 then v else b) b
def qG(b:Val)(c:List Val):Val:=c.foldl (fun b v=>if ordV v b>0 then v else b) b
def Fa(n:Int):Val:=if cR n then sd n else z7
open Classical in
def iZ(nm:ByteArray)(c:List Val):Val:=
 if nm=eX∨nm=fu then sd c.length
 else if c=[]then z7
 else if nm=nmSum then Fa (di c)
 else if nm=dV then qF (c.headD z7) c
 else if nm=en then qG (c.headD z7) c
 else z7
theorem Fb:(ByteArray.mk #[99,111,117,110,116])=eX:=rfl
theorem uW:(ByteArray.mk #[115,117,109])=nmSum:=rfl
theorem Av:(ByteArray.mk #[109,105,110])=dV:=rfl
theorem Aw:(ByteArray.mk #[109,97,120])=en:=rfl
theorem NC:(ByteArray.mk #[114,111,119,115])=fu:=rfl
theorem aq8:(ByteArray.mk #[])=oU:=rfl
theorem Ax(a b:ByteArray):(a.toList==b.toList)=true↔a=b:=by grind[TR]
open Classical in
theorem Ay(a b:ByteArray):(a.toList==b.toList)=decide (a=b):=by
 grind[decide_eq_true,Ax,decide_eq_false]
def ND a b:cK b a=- cK a b:=by grind[cK]
def Zz:∀a b:List UInt8,bF b a=- bF a b
 |[],[]=>rfl
 |[],_::_=>rfl
 |_::_,[]=>rfl
 |a::l,b::r=>by
  simp only[bF];by_cases h:a=b
  ·subst h;simp;exact Zz l r
  ·rw[if_neg h,if_neg<|Ne.symm h];exact ND _ _
theorem lJ a b:ordV b a=- ordV a b:=by
 unfold ordV;by_cases h:a.kind=b.kind
 ·rw[if_pos h,if_pos h.symm];by_cases h2:a.n=b.n
  ·rw[if_pos h2,if_pos h2.symm];exact Zz _ _
  ·rw[if_neg h2,if_neg<|Ne.symm h2];exact ND _ _
 ·rw[if_neg h,if_neg<|Ne.symm h];exact ND _ _
theorem mY{a b}:cK a b<0↔a<b:=by grind[cK]
def ZA:∀{a b c:List UInt8},bF a b<0→bF b c<0→bF a c<0
 |[],[],_,h,_=>by omega
 |[],_::_,[],_,h=>by grind[bF]
 |[],_::_,_::_,_,_=>by simp[bF]
 |_::_,[],_,h,_=>by grind[bF]
 |_::_,_::_,[],_,h=>by grind[bF]
 |a::l,b::r,c::t,h1,h2=>by
  simp only[bF]at h1 h2 ⊢;by_cases e1:a=b
  ·subst e1;by_cases e2:a=c
   ·subst e2;simp at h1 h2 ⊢;exact ZA h1 h2
   grind
  ·rw[if_neg e1]at h1;by_cases e2:b=c
   ·grind
   ·rw[if_neg e2]at h2;rw[mY]at h1 h2;have:a≠c:=by grind
    rw[if_neg this,mY];omega
theorem xm{a b c}(h1:ordV a b<0)(h2:ordV b c<0):ordV a c<0:=by
 unfold ordV at h1 h2 ⊢;by_cases k1:a.kind=b.kind
 ·rw[if_pos k1]at h1;by_cases k2:b.kind=c.kind
  ·rw[if_pos k2]at h2;rw[if_pos<|k1.trans k2];by_cases n1:a.n=b.n
   ·rw[if_pos n1]at h1;by_cases n2:b.n=c.n
    ·rw[if_pos n2]at h2;rw[if_pos<|n1.trans n2];exact ZA h1 h2
    grind
   ·rw[if_neg n1,mY]at h1;by_cases n2:b.n=c.n
    ·simp_all[if_neg,mY]
    ·rw[if_neg n2,mY]at h2;rw[if_neg<|by omega,mY];omega
  grind
 ·rw[if_neg k1,mY]at h1;by_cases k2:b.kind=c.kind
  ·simp_all[if_neg,mY]
  ·rw[if_neg k2,mY]at h2;rw[if_neg<|by omega,mY];omega
theorem CB a:ordV a a=0:=ordV_zero.2 rfl
def df(a b:Val):Prop:=ordV a b≤0
theorem xn a:df a a:=by simp[df,CB]
def ZB{a b}(h1:df a b)(h2:df b a):a=b:=by
 grind[df,lJ,ordV_zero]
theorem xp{a b c}(h1:df a b)(h2:df b c):df a c:=by
 unfold df at*;by_cases e1:ordV a b=0
 ·simp_all[ordV_zero]
 ·by_cases e2:ordV b c=0
  ·simp_all[ordV_zero]
  ·have:=xm (a:=a) (b:=b) (c:=c) (by omega) (by omega);omega
def ZC:∀(c:List Val)(b:Val),(qF b c=b∨qF b c∈c)∧df (qF b c) b∧∀v∈c,df (qF b c) v
 |[],b=>⟨.inl rfl,xn b,by simp⟩
 |v::c,b=>by
  have ih:=ZC c<|if ordV v b<0 then v else b;have e:qF b (v::c)=qF (if ordV v b<0 then v else b) c:=rfl;rw[e];by_cases h:ordV v b<0
  ·rw[if_pos h]at ih ⊢;have hvb:df v b:=by grind[df]
   refine⟨.inr ?_,xp ih.2.1 hvb,fun x hx=>?_⟩
   all_goals grind
  ·rw[if_neg h]at ih ⊢;have hbv:df b v:=by grind[df,lJ]
   refine⟨?_,ih.2.1,fun x hx=>?_⟩
   ·grind
   ·all_goals grind[xp]
def ZD:∀(c:List Val)(b:Val),(qG b c=b∨qG b c∈c)∧df b (qG b c)∧∀v∈c,df v<|qG b c
 |[],b=>⟨.inl rfl,xn b,by simp⟩
 |v::c,b=>by
  have ih:=ZD c<|if ordV v b>0 then v else b;have e:qG b (v::c)=qG (if ordV v b>0 then v else b) c:=rfl;rw[e];by_cases h:ordV v b>0
  ·rw[if_pos h]at ih ⊢;have hvb:df b v:=by grind[df,lJ]
   refine⟨.inr ?_,xp hvb ih.2.1,fun x hx=>?_⟩
   all_goals grind
  ·rw[if_neg h]at ih ⊢;have hbv:df v b:=by grind[df]
   refine⟨?_,ih.2.1,fun x hx=>?_⟩
   ·grind
   ·all_goals grind[xp]
def IsMin(m:Val)(c:List Val):Prop:=m∈c∧∀v∈c,df m v
def IsMax(m:Val)(c:List Val):Prop:=m∈c∧∀v∈c,df v m
def IsMin.uniq{m m' c c'}(h:IsMin m c)(h':IsMin m' c')(hp:∀v,v∈c↔v∈c'):m=m':=ZB (h.2 _<|(hp _).2 h'.1)<|h'.2 _<|(hp _).1 h.1
def IsMax.uniq{m m' c c'}(h:IsMax m c)(h':IsMax m' c')(hp:∀v,v∈c↔v∈c'):m=m':=ZB (h'.2 _<|(hp _).1 h.1)<|h.2 _<|(hp _).2 h'.1
def NE{c}(hc:c≠[]):IsMin (qF (c.headD z7) c) c:=by
 cases c with
 |nil=>grind
 |cons v c=>
  have h:=ZC (v::c) v;refine⟨?_,h.2.2⟩;grind
def NF{c}(hc:c≠[]):IsMax (qG (c.headD z7) c) c:=by
 cases c with
 |nil=>grind
 |cons v c=>
  have h:=ZD (v::c) v;refine⟨?_,h.2.2⟩;grind
def aq9{c c'}(h:c.Perm c'):di c=di c':=by
 unfold di
 induction h with
 |nil=>rfl
 |cons x _ ih=>grind
 |swap x y l=>grind
 |trans _ _ h1 h2=>omega
def aAY a b:di (a++b)=di a+di b:=by unfold di;simp
theorem ara{nm c c'}(h:c.Perm c'):iZ nm c=iZ nm c':=by
 unfold iZ;rw[h.length_eq,aq9 h];have hn:c=[]↔c'=[]:=by rw[←y47,←y47,h.length_eq]
 by_cases hc:c=[]
 ·grind
 ·have hc':c'≠[]:=fun e=>hc<|hn.2 e;rw[if_neg hc,if_neg hc',(NE hc).uniq (NE hc') fun v=>h.mem_iff,(NF hc).uniq (NF hc') fun v=>h.mem_iff]
def bigM:Int:=1000000000000000
open Classical in
def cn(a:Agg):Acc:=
 if a.name=eX then(if a.t=[]then⟨fu,false,0,0,0,z7,[]⟩else⟨a.name,a.distinct,0,0,0,z7,[]⟩)
 else if a.name=nmSum∨a.name=dV∨a.name=en then⟨a.name,a.distinct,0,0,0,z7,[]⟩
 else⟨oU,a.distinct,0,0,0,z7,[]⟩
open Classical in
def gw(nm:ByteArray)(v:Val):Bool:=decide (nm=fu)||iw nm v
open Classical in
def fY(x:Acc)(v:Val):Acc:=
 if x.name=nmSum then⟨x.name,x.distinct,x.n+1,x.hi+(x.lo+v.n).tdiv bigM,(x.lo+v.n).tmod bigM,x.v,x.l⟩
 else if x.name=dV then⟨x.name,x.distinct,x.n+1,x.hi,x.lo,if x.n+1=1∨ordV v x.v<0 then v else x.v,x.l⟩
 else if x.name=en then⟨x.name,x.distinct,x.n+1,x.hi,x.lo,if x.n+1=1∨ordV v x.v>0 then v else x.v,x.l⟩
 else⟨x.name,x.distinct,x.n+1,x.hi,x.lo,x.v,x.l⟩
def dJ(l:List Val)(v:Val):Nat:=(l.takeWhile fun x=>ordV x v<0).length
open Classical in
def nJ(l:List Val)(v:Val):List Val:=if v∈l then l else l.take (dJ l v)++v::l.drop (dJ l v)
def i8(x:Acc)(v:Val):Acc:=
 if gw x.name v=true then(if x.distinct=true then⟨x.name,x.distinct,x.n,x.hi,x.lo,x.v,nJ x.l v⟩else fY x v)else x
def Az(x:Acc):Val:=if x.n=0∨x.hi< -1∨x.hi>1 then z7 else if cR (x.hi*bigM+x.lo)then sd (x.hi*bigM+x.lo)else z7
open Classical in
def AA(x:Acc):Val:=
 if x.name=eX∨x.name=fu then sd x.n else if x.name=nmSum then Az x else if x.name=dV∨x.name=en then x.v else z7
def se(x:Acc):Val:=AA<|x.l.foldl fY x
def pB(a:Agg)(l:List Val):Val:=se<|l.foldl i8<|cn a
def Core(nm:ByteArray)(c:List Val)(x:Acc):Prop:=
 x.name=nm∧x.n=c.length∧(nm=nmSum→x.hi*bigM+x.lo=di c∧-bigM<x.lo∧x.lo<bigM)∧(nm≠nmSum→x.hi=0∧x.lo=0)∧
 (nm=dV→if c=[]then x.v=z7 else IsMin x.v c)∧(nm=en→if c=[]then x.v=z7 else IsMax x.v c)∧(nm≠dV→nm≠en→x.v=z7)
def Rep(nm:ByteArray)(d:Bool)(c:List Val)(x:Acc):Prop:=
 x.distinct=d∧(d=false→Core nm c x∧x.l=[])∧(d=true→Core nm [] x∧x.l.Pairwise (fun a b=>ordV a b<0)∧∀v,v∈x.l↔v∈c)
def arb{v}(h:fV v=true)(hk:v.kind=2): -bigM≤v.n∧v.n≤bigM:=by
 simp_all[fV,cR,bigM]
theorem ZE{v}(h:iw nmSum v=true): -bigM≤v.n∧v.n≤bigM:=by
 unfold iw at h;simp at h;exact arb h.1.2 h.2
theorem nm_ne:eX≠nmSum∧eX≠dV∧eX≠en∧eX≠fu∧nmSum≠dV∧nmSum≠en∧nmSum≠fu∧dV≠en∧dV≠fu∧en≠fu∧oU≠eX∧oU≠nmSum∧oU≠dV∧oU≠en∧oU≠fu:=by
 simp[eX,nmSum,dV,en,fu,oU]
def aAZ{n}:n.tdiv bigM*bigM+n.tmod bigM=n:=by rw[Int.mul_comm];exact Int.mul_tdiv_add_tmod n bigM
def ZF(n:Int): -bigM<n.tmod bigM∧n.tmod bigM<bigM:=by
 have hb:(0:Int)<bigM:=by decide
 refine⟨?_,Int.tmod_lt_of_pos n hb⟩;have:=Int.tmod_lt_of_pos (-n) hb;rw[Int.neg_tmod]at this;omega
def arc{n}(h1:-2*bigM<n)(h2:n<2*bigM): -1≤n.tdiv bigM∧n.tdiv bigM≤1:=by
 unfold bigM at*;grind
def Core.start nm x(h:x.name=nm∧x.n=0∧x.hi=0∧x.lo=0∧x.v=z7):Core nm [] x:=by
 obtain⟨h1,h2,h3,h4,h5⟩:=h;refine⟨h1,by omega,fun _=>?_,fun _=>⟨h3,h4⟩,fun _=>by grind,fun _=>by grind,fun _ _=>h5⟩;simp_all[di,bigM]
def Core.taken{nm c x}(h:Core nm c x){v}(hv:nm=nmSum→-bigM≤v.n∧v.n≤bigM):Core nm (c++[v]) (fY x v):=by
 obtain⟨n1,n2,n3,n4,n5,n6,n7,n8,n9,n10,n11⟩:=nm_ne;obtain⟨h1,h2,h3,h4,h5,h6,h7⟩:=h;have hlen:x.n+1=((c++[v]).length:Int):=by grind
 have hne:c++[v]≠[]:=by simp
 unfold fY;by_cases hs:x.name=nmSum
 ·rw[if_pos hs];have hs':nm=nmSum:=h1.symm.trans hs;have hm:=ZF<|x.lo+v.n;refine⟨h1,hlen,fun _=>⟨?_,hm.1,hm.2⟩,fun e=>(e hs').elim,fun e=>?_,fun e=>?_,fun e1 e2=>h7 e1 e2⟩
  ·grind[di,bigM,Int.add_mul]
  all_goals grind
 ·rw[if_neg hs];have hs':nm≠nmSum:=fun e=>hs<|h1.trans e;by_cases hm:x.name=dV
  ·rw[if_pos hm];have hm':nm=dV:=h1.symm.trans hm;refine⟨h1,hlen,fun e=>(hs' e).elim,fun _=>h4 hs',fun _=>?_,fun e=>by grind,fun e=>(e hm').elim⟩;rw[if_neg hne];have h5':=h5 hm';by_cases hc:c=[]
   ·subst hc;rw[if_pos<|.inl<|by grind];exact⟨by simp,by simp[xn]⟩
   ·rw[if_neg hc]at h5';have hl:(0:Int)<c.length:=by simp_all[y21]
    by_cases ho:ordV v x.v<0
    ·rw[if_pos<|.inr ho];refine⟨by simp,fun u hu=>?_⟩;rcases ye.1 hu with hu|hu
     ·exact xp (by grind[df])<|h5'.2 u hu
     simp_all[xn]
    ·rw[if_neg<|by omega];refine⟨f9 _ h5'.1,fun u hu=>?_⟩;rcases ye.1 hu with hu|hu
     ·exact h5'.2 u hu
     grind[df,lJ]
  ·rw[if_neg hm];have hm':nm≠dV:=fun e=>hm<|h1.trans e;by_cases hx:x.name=en
   ·rw[if_pos hx];have hx':nm=en:=h1.symm.trans hx;refine⟨h1,hlen,fun e=>(hs' e).elim,fun _=>h4 hs',fun e=>(hm' e).elim,fun _=>?_,fun _ e=>(e hx').elim⟩;rw[if_neg hne];have h6':=h6 hx';by_cases hc:c=[]
    ·subst hc;rw[if_pos<|.inl<|by grind];exact⟨by simp,by simp[xn]⟩
    ·rw[if_neg hc]at h6';have hl:(0:Int)<c.length:=by simp_all[y21]
     by_cases ho:ordV v x.v>0
     ·rw[if_pos<|.inr ho];refine⟨by simp,fun u hu=>?_⟩;rcases ye.1 hu with hu|hu
      ·exact xp (h6'.2 u hu)<|by grind[df,lJ]
      simp_all[xn]
     ·rw[if_neg<|by omega];refine⟨f9 _ h6'.1,fun u hu=>?_⟩;rcases ye.1 hu with hu|hu
      ·exact h6'.2 u hu
      simp_all[df]
   ·rw[if_neg hx];have hx':nm≠en:=fun e=>hx<|h1.trans e;exact⟨h1,hlen,fun e=>(hs' e).elim,fun _=>h4 hs',fun e=>(hm' e).elim,fun e=>(hx' e).elim,fun _ _=>h7 hm' hx'⟩
def NG x v:(fY x v).l=x.l∧(fY x v).distinct=x.distinct∧(fY x v).name=x.name:=by
 unfold fY;grind
def Core.folded{nm}:∀(l:List Val){c:List Val}{x:Acc},Core nm c x→(nm=nmSum→∀v∈l,-bigM≤v.n∧v.n≤bigM)→Core nm (c++l) (l.foldl fY x)
 |[],c,x,h,_=>by grind
 |v::l,c,x,h,hv=>by
  have h1:=h.taken (v:=v) (fun e=>hv e v (by simp));have:=Core.folded l h1 (fun e u hu=>hv e u (by grind));grind
def Core.end_{nm c x}(h:Core nm c x):AA x=iZ nm c:=by
 obtain⟨h1,h2,h3,h4,h5,h6,h7⟩:=h;unfold AA iZ;rw[h1];by_cases hc:nm=eX∨nm=fu
 ·grind
 ·rw[if_neg hc,if_neg hc];by_cases hs:nm=nmSum
  ·unfold Az Fa;by_cases he:c=[]
   ·grind
   ·have hl:(0:Int)<c.length:=by simp_all[y21]
    by_cases hb:x.hi< -1∨x.hi>1
    ·have:cR (di c)=false:=by
      unfold cR;have hbm:bigM=1000000000000000:=rfl;grind
     grind
    grind
  ·rw[if_neg hs];by_cases hm:nm=dV
   ·rw[if_pos<|.inl hm];have h5':=h5 hm;by_cases he:c=[]
    ·grind
    ·rw[if_neg he]at h5' ⊢;rw[if_neg hs,if_pos hm];exact h5'.uniq (NE he) fun _=>Iff.rfl
   ·by_cases hx:nm=en
    ·rw[if_pos<|.inr hx];have h6':=h6 hx;by_cases he:c=[]
     ·grind
     ·rw[if_neg he]at h6' ⊢;rw[if_neg hs,if_neg hm,if_pos hx];exact h6'.uniq (NF he) fun _=>Iff.rfl
    grind
theorem ZG l v:dJ l v≤l.length:=(P7 _).length_le
theorem ard{l:List Val}(h:l.Pairwise fun a b=>ordV a b<0):l.Nodup:=h.imp fun{a b} hab e=>by simp_all[CB]
theorem ZH l v u:u∈nJ l v↔u∈l∨u=v:=by
 unfold nJ;split
 ·grind
 ·rw[ye,yh];have:u∈l↔u∈l.take (dJ l v)∨u∈l.drop (dJ l v):=by rw[←ye,iB]
  rw[this];constructor
  ·rintro(h|h|h);exact .inl<|.inl h;exact .inr h;exact .inl<|.inr h
  ·rintro((h|h)|h);exact .inl h;exact .inr<|.inr h;exact .inr<|.inl h
theorem ZI{p}:∀(l:List Val),∀u∈l.takeWhile p,p u=true
 |[],u,h=>by simp at h
 |a::l,u,h=>by
  rw[vw]at h;split at h
  ·rcases yh.1 h with rfl|h
   ·omega
   ·exact ZI l u h
  grind
theorem ZJ{p}:∀(l:List Val){y:Val}{r:List Val},l.dropWhile p=y::r→p y=false
 |[],y,r,h=>by simp at h
 |a::l,y,r,h=>by
  rw[Be]at h;split at h
  ·exact ZJ l h
  grind
def NH{l:List Val}{v}:∀u∈l.take (dJ l v),ordV u v<0:=by
 grind[dJ,ordV,List.takeWhile_append_dropWhile,decide,List.take_left,ZI]
def NI{l:List Val}(h:l.Pairwise fun a b=>ordV a b<0){v}:∀u∈l.drop (dJ l v),¬ordV u v<0:=by
 have e:l.drop (dJ l v)=l.dropWhile fun x=>ordV x v<0:=by
  grind[dJ,List.takeWhile_append_dropWhile,decide,ordV,List.drop_left]
 have hp:(l.dropWhile fun x=>ordV x v<0).Pairwise fun a b=>ordV a b<0:=h.sublist<|List.dropWhile_sublist _;cases hd:l.dropWhile fun x=>ordV x v<0 with
 |nil=>grind
 |cons y r=>
  have hy:¬ordV y v<0:=by
   grind[ZJ]
  all_goals grind[List.pairwise_cons,xm]
def ZK{l}(h:l.Pairwise fun a b=>ordV a b<0) v:(nJ l v).Pairwise fun a b=>ordV a b<0:=by
 unfold nJ;split
 ·omega
 ·have hs:∀u∈l.drop (dJ l v),ordV v u<0:=fun u hu=>by
   have h1:=NI h u hu;grind[ordV,ordV_zero,List.mem_of_mem_drop,lJ]
  rw[y25];refine⟨h.sublist<|List.take_sublist _ _,y2l.2 ⟨hs,h.sublist<|List.drop_sublist _ _⟩,fun a ha b hb=>?_⟩;rcases yh.1 hb with rfl|hb
  ·exact NH a ha
  ·exact xm (NH a ha)<|hs b hb
theorem arf l v:(nJ l v).length≤l.length+1:=by
 grind[nJ,ZG]
open Classical in
theorem arh(c:List Val)(acc:List Val)(u:Val):u∈c.foldl j0 acc↔u∈acc∨u∈c:=by
 induction c generalizing acc with
 |nil=>simp
 |cons v c ih=>
  have:u∈j0 acc v↔u∈acc∨u=v:=by
   unfold j0;grind
  grind
def ari(c:List Val):∀{acc:List Val},acc.Nodup→(c.foldl j0 acc).Nodup:=by
 induction c with
 |nil=>simp
 |cons v c ih=>
  intro acc h;refine ih ?_;unfold j0;split
  ·exact h
  ·rename_i hn;rw[List.nodup_append];exact⟨h,by simp,fun a ha b hb e=>by simp at hb;subst hb;subst e;exact hn ha⟩
def oV(c:List Val):List Val:=c.foldl j0 []
theorem ZL c u:u∈oV c↔u∈c:=by simp[oV,arh]
theorem arj c:(oV c).Nodup:=ari c List.nodup_nil
theorem ark{a b:List Val}(ha:a.Nodup)(hb:b.Nodup)(h:∀v,v∈a↔v∈b):a.Perm b:=(List.perm_ext_iff_of_nodup ha hb).2 h
theorem arl c:(oV c).length≤c.length:=by
 have:∀(c acc:List Val),(c.foldl j0 acc).length≤acc.length+c.length:=by
  intro c
  induction c with
  |nil=>simp
  |cons v c ih=>
   intro acc;have h1:=ih<|j0 acc v;have h2:(j0 acc v).length≤acc.length+1:=by unfold j0;split<;>simp
   simp;omega
 grind[oV]
def aA0{c}(h:∀v∈c,-bigM≤v.n∧v.n≤bigM): -((c.length:Int)*bigM)≤di c∧di c≤c.length*bigM:=by
 induction c with
 |nil=>simp[di]
 |cons v c ih=>
  have h1:=ih fun u hu=>h u (by grind);have h2:=h v (by simp);have e:di (v::c)=v.n+di c:=by rfl
  simp only[yz,Int.natCast_add,Int.add_mul];omega
def Rep.start a:Rep (cn a).name (cn a).distinct [] (cn a):=by
 have hx:(cn a).n=0∧(cn a).hi=0∧(cn a).lo=0∧(cn a).v=z7∧(cn a).l=[]:=by
  unfold cn;grind
 obtain⟨h1,h2,h3,h4,h5⟩:=hx;refine⟨rfl,fun _=>⟨Core.start _ _ ⟨rfl,h1,h2,h3,h4⟩,h5⟩,fun _=>⟨Core.start _ _ ⟨rfl,h1,h2,h3,h4⟩,by simp_all,by grind⟩⟩
theorem CC{nm v}(h:gw nm v=true)(hs:nm=nmSum): -bigM≤v.n∧v.n≤bigM:=by
 simp_all[gw,iF,decide_eq_true_eq,nm_ne,ZE]
def Rep.name{nm d c x}(h:Rep nm d c x):x.name=nm:=by
 cases d with
 |true=>exact(h.2.2 rfl).1.1
 |false=>exact(h.2.1 rfl).1.1
theorem Rep.step{nm d c x}(h:Rep nm d c x) v:Rep nm d (c++[v].filter (gw nm)) (i8 x v):=by
 unfold i8;rw[h.name];by_cases hc:gw nm v=true
 ·rw[if_pos hc];have hf:[v].filter (gw nm)=[v]:=by grind
  rw[hf];cases d with
  |true=>
   obtain⟨h1,h2,h3⟩:=h.2.2 rfl;rw[if_pos h.1];refine⟨h.1,fun e=>by grind,fun _=>⟨?_,ZK h2 v,fun u=>?_⟩⟩
   ·obtain⟨i1,i2,i3,i4,i5,i6,i7⟩:=h1;exact⟨rfl,i2,i3,i4,i5,i6,i7⟩
   ·rw[ZH,h3,ye];simp
  |false=>
   obtain⟨h1,h2⟩:=h.2.1 rfl;rw[if_neg (by rw[h.1];simp)];have hk:=NG x v;exact⟨hk.2.1.trans h.1,fun _=>⟨h1.taken<|CC hc,hk.1.trans h2⟩,fun e=>by grind⟩
 grind
def Rep.steps{nm d}:∀(l:List Val){c:List Val}{x:Acc},Rep nm d c x→Rep nm d (c++l.filter (gw nm)) (l.foldl i8 x)
 |[],c,x,h=>by grind
 |v::l,c,x,h=>by
  have:=Rep.steps l<|h.step v;grind
def Rep.value{nm d c x}(h:Rep nm d c x)(hc:∀v∈c,gw nm v=true):se x=iZ nm (if d=true then oV c else c):=by
 unfold se;cases d with
 |false=>
  obtain⟨h1,h2⟩:=h.2.1 rfl;rw[h2,if_neg<|by simp];exact h1.end_
 |true=>
  obtain⟨h1,h2,h3⟩:=h.2.2 rfl;have h4:=Core.folded x.l h1 fun e v hv=>CC (hc v<|(h3 v).1 hv) e;rw[h4.end_];grind[ara,ark,ard,arj,ZL]
def sf(a:Agg)(l:List Val):List Val:=l.filter<|gw (cn a).name
def Fc(a:Agg)(c:List Val):Val:=iZ (cn a).name<|if(cn a).distinct=true then oV c else c
def arm a l:∀v∈sf a l,gw (cn a).name v=true:=fun v hv=>(y2u.1 hv).2
def arn a l:Rep (cn a).name (cn a).distinct (sf a l) (l.foldl i8<|cn a):=by
 have:=Rep.steps l<|Rep.start a;exact this
theorem NJ a l:pB a l=Fc a (sf a l):=(arn a l).value<|arm a l
def dp(r:Acc):RF Un:=([.agg<|jk Ty.acc r],[])
def ZM(a:Agg):Option (RF Un):=aw av aN Tryz.f185 0 [.d] [.d<|.agg<|enc Ty.agg a]
theorem aro(a):ZM a=af (a.name.toList==(ByteArray.mk #[99,111,117,110,116]).toList) (af ((↑a.t.length:Int)==(0:Int)) (some<|dp<|{name:=⟨#[114,111,119,115]⟩,distinct:=false,n:=(0:Int),hi:=(0:Int),lo:=(0:Int),v:=z7,l:=[]})<|some<|dp<|{name:=a.name,distinct:=a.distinct,n:=(0:Int),hi:=(0:Int),lo:=(0:Int),v:=z7,l:=[]}) (af (a.name.toList==(ByteArray.mk #[115,117,109]).toList) (af (a.name.toList==(ByteArray.mk #[115,117,109]).toList) (some<|dp<|{name:=a.name,distinct:=a.distinct,n:=(0:Int),hi:=(0:Int),lo:=(0:Int),v:=z7,l:=[]})<|some<|dp<|{name:=⟨#[]⟩,distinct:=a.distinct,n:=(0:Int),hi:=(0:Int),lo:=(0:Int),v:=z7,l:=[]})<|af (a.name.toList==(ByteArray.mk #[109,105,110]).toList) (af (a.name.toList==(ByteArray.mk #[109,105,110]).toList) (some<|dp<|{name:=a.name,distinct:=a.distinct,n:=(0:Int),hi:=(0:Int),lo:=(0:Int),v:=z7,l:=[]})<|some<|dp<|{name:=⟨#[]⟩,distinct:=a.distinct,n:=(0:Int),hi:=(0:Int),lo:=(0:Int),v:=z7,l:=[]})<|af (a.name.toList==(ByteArray.mk #[109,97,120]).toList) (some<|dp<|{name:=a.name,distinct:=a.distinct,n:=(0:Int),hi:=(0:Int),lo:=(0:Int),v:=z7,l:=[]})<|some<|dp<|{name:=⟨#[]⟩,distinct:=a.distinct,n:=(0:Int),hi:=(0:Int),lo:=(0:Int),v:=z7,l:=[]}):=ah
def xq(a:Agg):Acc:=
 if(a.name.toList==(ByteArray.mk #[(99:UInt8),(111:UInt8),(117:UInt8),(110:UInt8),(116:UInt8)]).toList)=true then
  if((↑a.t.length:Int)==(0:Int))=true then
   ({name:=(ByteArray.mk #[(114:UInt8),(111:UInt8),(119:UInt8),(115:UInt8)]),distinct:=false,n:=(0:Int),hi:=(0:Int),lo:=(0:Int),v:=z7,l:=[]})
  else
   ({name:=a.name,distinct:=a.distinct,n:=(0:Int),hi:=(0:Int),lo:=(0:Int),v:=z7,l:=[]})
 else
  if(a.name.toList==(ByteArray.mk #[(115:UInt8),(117:UInt8),(109:UInt8)]).toList)=true then
   if(a.name.toList==(ByteArray.mk #[(115:UInt8),(117:UInt8),(109:UInt8)]).toList)=true then
    ({name:=a.name,distinct:=a.distinct,n:=(0:Int),hi:=(0:Int),lo:=(0:Int),v:=z7,l:=[]})
   else
    ({name:=⟨#[]⟩,distinct:=a.distinct,n:=(0:Int),hi:=(0:Int),lo:=(0:Int),v:=z7,l:=[]})
  else
   if(a.name.toList==(ByteArray.mk #[(109:UInt8),(105:UInt8),(110:UInt8)]).toList)=true then
    if(a.name.toList==(ByteArray.mk #[(109:UInt8),(105:UInt8),(110:UInt8)]).toList)=true then
     ({name:=a.name,distinct:=a.distinct,n:=(0:Int),hi:=(0:Int),lo:=(0:Int),v:=z7,l:=[]})
    else
     ({name:=⟨#[]⟩,distinct:=a.distinct,n:=(0:Int),hi:=(0:Int),lo:=(0:Int),v:=z7,l:=[]})
   else
    if(a.name.toList==(ByteArray.mk #[(109:UInt8),(97:UInt8),(120:UInt8)]).toList)=true then
     ({name:=a.name,distinct:=a.distinct,n:=(0:Int),hi:=(0:Int),lo:=(0:Int),v:=z7,l:=[]})
    else
     ({name:=⟨#[]⟩,distinct:=a.distinct,n:=(0:Int),hi:=(0:Int),lo:=(0:Int),v:=z7,l:=[]})
def arp a:ZM a=some (dp<|xq a):=by grind[aro,xq,z8]
def ZN:au Un:=aQ (dS .agg) fun a=>([],dp<|xq a)
def arq:aj 185 ZN:=aU zo (M:=av) rfl trivial Tryz.func185 fun a=>GiF.r fun _ _=>arp a
theorem ars{α:Type}(l:List α):((l.length:Int)==0)=true↔l=[]:=by simp
@[simp] theorem art a:xq a=cn a:=by
 unfold xq cn;simp only[Fb,uW,Av,Aw,NC,aq8,Ax,ars];by_cases h1:a.name=eX
 ·simp[h1]
 ·by_cases h2:a.name=nmSum
  ·simp[h1,h2]
  ·by_cases h3:a.name=dV
   ·rw[h3]at h1 h2;simp[h1,h2,h3]
   ·simp[h1,h2,h3]
def ZO:Mc Un:=az [(240,zU)] [] [] [] []
def ZP(x:Acc)(v:Val):Option (RF Un):=aw ZO aN Tryz.f220 0 [.d] [.d<|.agg<|enc Ty.acc x,.d<|.agg<|enc Ty.val v]
def aru(x v):ZP x v=af (x.name.toList==(ByteArray.mk #[114,111,119,115]).toList) (some<|ak true) (af (v.kind !=0) (af (jA v) (af (!x.name.toList==(ByteArray.mk #[115,117,109]).toList) (some<|ak true)<|some<|ak<|v.kind==2)<|some<|ak false)<|some<|ak false):=ah
def CD(x:Acc)(v:Val):Bool:=gw x.name v
@[simp] theorem arv x v:CD x v=gw x.name v:=by rfl
def arw(x:Acc)(v:Val)(_hx:WS .acc x)(_hv:WS .val v):ZP x v=some (ak<|CD x v):=by
 rw[aru];unfold CD gw iw;simp only[z8,uW,NC,Ax,ajc,jq];by_cases h1:x.name=fu
 ·grind
 ·by_cases h2:v.kind=0
  ·grind
  ·by_cases h3:fV v=true
   ·by_cases h4:x.name=nmSum
    ·grind
    ·have e:(x.name.toList==nmSum.toList)=false:=by
      grind[Ax]
     grind
   grind
def ZQ:au Un:=aD (dS .acc) (dS .val) fun x v=>([],ak<|CD x v)
def arx:aj 220 ZQ:=aJ zo zo (M:=ZO) rfl ⟨ajg,trivial⟩ Tryz.func220 fun x v=>GiF.r fun w _=>arw x v (am w 0)<|am w 1
def ZR(hi:Int)(lo:Int):Option (RF Un):=aw av aN Tryz.f241 0 [.d,.d] [.d<|.v<|.s<|.int .i64 hi,.d<|.v<|.s<|.int .i64 lo]
theorem ary(hi lo):ZR hi lo=ae (¬(1000000000000000:Int)=(0:Int)) (ae (¬(1000000000000000:Int)=(0:Int))<|some<|aS (IntKind.i64.wrap<|hi+IntKind.i64.wrap (lo.tdiv (1000000000000000:Int)),lo.tmod (1000000000000000:Int))):=ah
def CE(hi lo:Int):Int×Int:=(hi+lo.tdiv bigM,lo.tmod bigM)
def arz hi lo(_h1:WI hi)(_h2:WI lo)(h:(-1000000000≤hi∧hi≤1000000000)∧-2000000000000000≤lo∧lo≤2000000000000000):ZR hi lo=some (aS<|CE hi lo):=by
 grind[ary,CE,bigM,z6,zm]
def ZS:au Un:=aD (dI .i64) (dI .i64) fun hi lo=>([(-1000000000≤hi∧hi≤1000000000)∧-2000000000000000≤lo∧lo≤2000000000000000],aS<|CE hi lo)
def arA:aj 241 ZS:=aJ zn zn (M:=av) rfl trivial Tryz.func241 fun hi lo=>GiF.r fun w o=>arz hi lo (am w 0) (am w 1)<|aA o 0
def ZT:Mc Un:=az [(241,ZS),(147,wZ)] [] [] [] []
def ZU(x:Acc)(v:Val):Option (RF Un):=aw ZT aN Tryz.f221 0 [.d] [.d<|.agg<|enc Ty.acc x,.d<|.agg<|enc Ty.val v]
def arB(x v):ZU x v=af (x.name.toList==(ByteArray.mk #[115,117,109]).toList) (ae (((-1000000000:Int)≤x.hi∧x.hi≤1000000000)∧(-2000000000000000:Int)≤IntKind.i64.wrap (x.lo+v.n)∧IntKind.i64.wrap (x.lo+v.n)≤2000000000000000)<|some<|dp<|{name:=x.name,distinct:=x.distinct,n:=IntKind.i64.wrap<|x.n+1,hi:=(CE x.hi<|IntKind.i64.wrap<|x.lo+v.n).fst,lo:=(CE x.hi<|IntKind.i64.wrap<|x.lo+v.n).snd,v:=x.v,l:=x.l}) (af (x.name.toList==(ByteArray.mk #[109,105,110]).toList) (af (IntKind.i64.wrap (x.n+1)==1) (some<|dp<|{name:=x.name,distinct:=x.distinct,n:=IntKind.i64.wrap<|x.n+1,hi:=x.hi,lo:=x.lo,v:=v,l:=x.l})<|af (decide<|cO v x.v<0) (some<|dp<|{name:=x.name,distinct:=x.distinct,n:=IntKind.i64.wrap<|x.n+1,hi:=x.hi,lo:=x.lo,v:=v,l:=x.l})<|some<|dp<|{name:=x.name,distinct:=x.distinct,n:=IntKind.i64.wrap<|x.n+1,hi:=x.hi,lo:=x.lo,v:=x.v,l:=x.l})<|af (x.name.toList==(ByteArray.mk #[109,97,120]).toList) (af (IntKind.i64.wrap (x.n+1)==1) (some<|dp<|{name:=x.name,distinct:=x.distinct,n:=IntKind.i64.wrap<|x.n+1,hi:=x.hi,lo:=x.lo,v:=v,l:=x.l})<|af (decide<|cO v x.v>0) (some<|dp<|{name:=x.name,distinct:=x.distinct,n:=IntKind.i64.wrap<|x.n+1,hi:=x.hi,lo:=x.lo,v:=v,l:=x.l})<|some<|dp<|{name:=x.name,distinct:=x.distinct,n:=IntKind.i64.wrap<|x.n+1,hi:=x.hi,lo:=x.lo,v:=x.v,l:=x.l})<|some<|dp<|{name:=x.name,distinct:=x.distinct,n:=IntKind.i64.wrap<|x.n+1,hi:=x.hi,lo:=x.lo,v:=x.v,l:=x.l}):=ah
def xr(x:Acc)(v:Val):Acc:=fY x v
@[simp] theorem ZV x v:xr x v=fY x v:=by rfl
def nK(x:Acc):Prop:=(0≤x.n∧x.n≤1000000000)∧(-100000000≤x.hi∧x.hi≤100000000)∧-1000000000000000<x.lo∧x.lo<1000000000000000
def arC(x:Acc)(v:Val)(_hx:WS .acc x)(_hv:WS .val v)(h:nK x∧(x.name=nmSum→-1000000000000000≤v.n∧v.n≤1000000000000000)):ZU x v=some (dp (xr x v)):=by
 obtain⟨⟨h1,h2,h3⟩,h4⟩:=h;rw[arB];unfold xr fY;simp only[z8,uW,Av,Aw,Ax,vO];rw[zm (n:=x.n+1) (by omega)];by_cases hs:x.name=nmSum
 ·have h4':=h4 hs;rw[if_pos hs,if_pos hs];have e:IntKind.i64.wrap (x.lo+v.n)=x.lo+v.n:=zm (by omega);rw[e,z6 (by omega)];rfl
 grind
def NK:au Un:=aD (dS .acc) (dS .val) fun x v=>([nK x∧(x.name=nmSum→-1000000000000000≤v.n∧v.n≤1000000000000000)],dp<|xr x v)
def ZW:aj 221 NK:=aJ zo zo (M:=ZT) rfl ⟨arA,QC,trivial⟩ Tryz.func221 fun x v=>GiF.r fun w o=>arC x v (am w 0) (am w 1)<|aA o 0
@[simp] theorem Fd n:zk n=sd n:=rfl
def ZX:Mc Un:=az [(211,lj),(32,vJ)] [] [] [] []
def ZY(x:Acc):Option (RF Un):=aw ZX aN Tryz.f225 0 [.d] [.d<|.agg<|enc Ty.acc x]
def arD(x):ZY x=af (x.n==0) (some<|aq z7) (af (decide<|x.hi<(-1:Int)) (some<|aq z7)<|af (decide<|x.hi>1) (some<|aq z7)<|af (!bf (IntKind.i64.wrap<|IntKind.i64.wrap (x.hi*1000000000000000)+x.lo)) (some<|aq z7)<|some<|aq<|zk<|IntKind.i64.wrap<|IntKind.i64.wrap (x.hi*1000000000000000)+x.lo):=ah
def CF(x:Acc):Val:=Az x
def arE(x:Acc)(_hx:WS .acc x)(h:nK x):ZY x=some (aq<|CF x):=by
 obtain⟨h1,h2,h3⟩:=h;rw[arD];unfold CF Az;simp only[z8,fH,Fd,beq_iff_eq,decide_eq_true_eq,jq];grind[bigM,zm,cR]
def ZZ:au Un:=aQ (dS .acc) fun x=>([nK x],aq<|CF x)
def arF:aj 225 ZZ:=aU zo (M:=ZX) rfl ⟨od,Bu,trivial⟩ Tryz.func225 fun x=>GiF.r fun w o=>arE x (am w 0)<|aA o 0
end
end B
namespace B
open Go Go.RowKit Go.Shelf
set_option maxRecDepth 1000000
def fM(n z:Nat)(cv:Nat→Nat→Value):List Value:=(List.range<|n*z).map fun q=>cv (q/z)<|q % z
theorem Fe n z cv:(fM n z cv).length=n*z:=by simp[fM]
def Z0{n z cv}(hz:0<z){i j}(hi:i<n)(hj:j<z):(fM n z cv)[i*z+j]?=some (cv i j):=by
 have h:i*z+j<n*z:=by
  have:(i+1)*z≤n*z:=fB _ hi;grind
 unfold fM;simp_all[iD,sy,Nat.mul_add_div,Nat.div_eq_of_lt,y3y,PX]
def Ff{n z cv q u}(h:(fM n z cv)[q]?=some u):∃i j,i<n∧j<z∧q=i*z+j∧u=cv i j:=by
 have hq:q<n*z:=by grind[List.getElem?_eq_some_iff,Fe]
 have hz:0<z:=by grind
 refine⟨q/z,q % z,(PW hz).2 hq,A6 _ hz,by simp[sy,y3w],?_⟩;simp_all[fM,dn,PZ]
open Classical in
def Fg{St:Nat→Nat→Prop}{w w':World}{v:Value}{e:TypeId}{τ:Ty}{xs:List (Den τ)}{news:List Value}(hext:Ext w w')(hbd:∀b o,St b o→b<w.heap.size)(hlen:xs.length≤9223372036854775807)
 (hrow:w'.ownsRow w.heap.size e (sz τ) v xs.length news)(hrel:∀i(hi:i<xs.length) j d,(enc τ xs[i])[j]?=some d→∃u,news[i*sz τ+j]?=some u∧VRel En St w u d):
 pQ Tryz.prog En St w w' v [.c<|.ob 0 0] [⟨0,τ,xs,some 0,true⟩]:=by
 refine⟨hext,?_⟩;obtain⟨hnl,⟨rfl,hn0⟩|⟨gb,cap,cur,rfl,hge,hheap,hcap,hmax,hsz,htake⟩⟩:=hrow
 ·have hx:xs=[]:=yx hn0;subst hx;refine⟨⟨fun _=>0,fun _=>False,fun b o=>if St b o then some .st else none,fun _=>(none,0)⟩,fun _ h=>h,?_,?_,?_,?_⟩
  ·simp
  ·intro b o x hx;have hx':(if St b o then some Own.st else none)=some x:=hx;split at hx'
   ·rename_i hs;exact yu (hbd b o hs) hext.le
   grind
  ·exact⟨rfl,_,rfl,y7 _,fun _=>rfl⟩
  ·intro k o ho;cases k with
   |zero=>simp at ho;subst ho;exact⟨⟨⟨⟨y7 _,by simp⟩,fun f hf=>by grind⟩,fun h=>absurd h<|Gq 0⟩,rfl⟩
   |succ k=>grind
 ·have hcell:∀q,q<cap*sz τ→w'.cell? ⟨gb,q,none⟩=cur[q]?∧(∃u,w'.cell? ⟨gb,q,none⟩=some u)∧stuck w' ⟨gb,q,none⟩=false:=by
   simp_all[World.cell?,sD,stuck,World.shape?,World.frozen?]
  let g:G:=⟨fun _=>0,fun _=>False,fun b o=>if b<w.heap.size then(if St b o then some .st else none)else if b=gb∧o<cap*sz τ then some (.obj 0)else none,fun _=>(some ⟨gb,0,none⟩,cap)⟩;have hω:∀o,o<cap*sz τ→g.ω gb o=some (.obj 0):=fun o ho=>by
   grind
  have hst:Keeps St w g.St w':=fun b o hs=>by
   refine⟨?_,hext.cell (p:=⟨b,o,none⟩)<|hbd b o hs⟩;show(if b<w.heap.size then _ else _)=_;grind
  refine⟨g,fun _ h=>h,?_,?_,?_,?_⟩
  ·grind
  ·grind
  ·exact⟨rfl,_,rfl,y7 _,fun _=>rfl⟩
  ·intro k o ho;cases k with
   |succ k=>grind
   |zero=>
    simp at ho;subst ho;refine⟨⟨⟨⟨hcap,hlen⟩,fun f hf=>by grind⟩,fun _=>⟨gb,0,fun i j=>cur.getD (i*sz τ+j) undef,rfl,⟨?_,?_,?_⟩⟩⟩,rfl⟩
    ·intro i j hi hj;have hlt:i*sz τ+j<cap*sz τ:=by
      grind[sz,Nat.mul_le_mul_right,Nat.le_trans,Nat.add_mul]
     simp_all[sz,y4l,sD,eu,absurd,cQ]
    ·intro i hi j d hd;obtain⟨u,hu,hr⟩:=hrel i hi j d hd;have hlt:i*sz τ+j<xs.length*sz τ:=by
      grind
     have hu2:cur.getD (i*sz τ+j) undef=u:=by
      rw[←htake,vn hlt,nO]at hu;simp_all
     rw[hu2];exact hr.mono hst
    grind
def arG{P:Program}{ρ:Ren}(L:SlLaysE0.n41 P ρ)(i0:TypeInfo)(z:Value)(size bytes:Nat)(hi:P.info? (ρ.t 23)=some i0)(hz0:i0.zero=some z)(hz1:i0.size=size)(hz2:i0.bytes=bytes)(hzs:z.cells.size=size)(hsz:0<size)
 (z23:∀w,(Go.sizeOf<|ρ.t 23).run P w=.ok size w)(a:Addr)(c:Nat)(w:World):
 Calls P (ρ.f 41) #[.slice (some a) 0 c] w fun e w'=>∃v',e=.returned v'∧w'.ownsRow w.heap.size (ρ.t 23) size v' 0 []∧Below w.heap.size w w':=by
 have t22:=L.t22;have q22:∀(w:World)(a:Option Addr)(n c n' c':Nat),(binOp .eql (ρ.t 22) (.slice a n c)<|.slice none n' c').run P w=.ok (.bool a.isNone) w:=fun w a n c n' c'=>Lib.run_eql_slice_nil w _ _ a n c n' c' L.t22;have u22:∀w,Sem.run P (underlying<|ρ.t 22) w=.ok (TypeDesc.slice<|ρ.t 23) w:=run_underlying t22;obtain⟨_,_,FG⟩:=L.f41
 go_enter FG,SlBodyN.n41_ntmps ρ
 go_wp2_with (refine wpList_append_own _ rfl _ _ (ρ.t 22) rfl w.heap.size (ρ.t 23) i0 z size bytes t22 hi hz0 hz1 hz2 hzs hsz _ _ _ rfl (World.ownsRow_made w #[] 0 (y7 _) (yc _)<|by simp) a 0 c [] rfl ?qc1 ?qc2 ?qc3 ?qc4 ?qc5 ?qc6 ?_)
 case qc1=>simp
 case qc2=>simp
 case qc3=>simp
 case qc4=>simp
 case qc5=>omega
 case qc6=>simp
 intro v' w1 hown hgrow hnil
 go_wp2
 go_ret;exact⟨v',rfl,by omega,((Below.refl _ w).alloc (y7 _) _).grown hgrow (by simp)<|by simp[Value.ownBlock]⟩
def Z1{w w'}(h:Below w.heap.size w w'):Ext w w':=⟨h.os,h.tape,h.output,h.size,h.block⟩
def AB(τ:Ty):au Un:=fun args=>match args with
 |[x0]=>(dL τ x0).bind fun s=>some ([s.length≤1000000000],[.c<|.ob 0 0],[⟨0,τ,s,some 0,true⟩])
 |_=>none
def arH{ρ}(L:SlLaysE0.n41 Tryz.prog ρ) τ i0 z bytes(hi:Tryz.prog.info? (ρ.t 23)=some i0)(hz0:i0.zero=some z)(hz1:i0.size=sz τ)(hz2:i0.bytes=bytes)(hzs:z.cells.size=sz τ)(hsz:0<sz τ)(hb:bytes≤100000)(z23:∀w,(Go.sizeOf (ρ.t 23)).run Tryz.prog w=.ok (sz τ) w)(hB:dw Tryz.prog (ρ.f 41)):aj (ρ.f 41) (AB τ):=by
  intro args ob rs os h hob;unfold AB at h;split at h
  · simp only[y6,y8,yi]at h;obtain⟨s,e0,rfl,rfl,rfl⟩:=h;obtain rfl:=zi e0;have hlen:s.length≤1000000000:=hob _ (by simp);refine⟨fun w St vs hbd hvs hld=>?_,hB⟩
    match vs,hvs with
    |[v0],⟨h0,_⟩=>
      have hV:VRel En St w v0 (.dat τ s):=h0;rcases hV.inv with⟨rfl,a,cap,rfl⟩|⟨b,o,cap,cv,rfl,hcap,hc,hr⟩
      · cases a with
        |none=>
          refine(AnyE.slices_Clone_nil L 0 cap w).mono ?_;rintro e w' ⟨rfl,rfl⟩;exact⟨_,rfl,Fg (e:=ρ.t 23) (news:=[]) (Ext.refl _) hbd (by simp) ⟨by simp,.inl ⟨rfl,rfl⟩⟩ (fun i hi=>absurd hi (cQ _))⟩
        |some a=>
          refine(arG L i0 z (sz τ) bytes hi hz0 hz1 hz2 hzs hsz z23 a cap w).mono ?_;rintro e w' ⟨v',rfl,hown,hbel⟩;exact⟨v',rfl,Fg (Z1 hbel) hbd (by simp) hown (fun i hi=>absurd hi (cQ _))⟩
      · have hcell:∀j u,(fM s.length (sz τ) cv)[j]?=some u→w.cell? ⟨b,o+j,none⟩=some u∧∃i q,i<s.length∧q<sz τ∧j=i*sz τ+q∧u=cv i q:=by
          intro j u hj;obtain⟨i,q,hi,hq,rfl,rfl⟩:=Ff hj;grind
        have hone:∀u∈fM s.length (sz τ) cv,u.oneCell'=true:=by
          intro u hu;obtain⟨j,hj⟩:=j8 hu;obtain⟨_,i,q,hi,hq,_,rfl⟩:=hcell j u hj;have hq':q<(enc τ (s[i]'hi)).length:=by grind[pX]
          have:=hr i hi q _ (ya hq');exact Ky this.one
        refine(AnyE.slices_Clone L i0 z (sz τ) bytes hi hz0 hz1 hz2 hzs hsz z23 b o s.length cap (fM s.length (sz τ) cv) w (Fe _ _ _) (by grind[maxLen])
          (by have:s.length*bytes≤1000000000*100000:=ld hlen hb
              omega) (fun j u hj=>(hcell j u hj).1) hone).mono ?_
        rintro e w' ⟨v',rfl,hown,_,hbel⟩;refine⟨v',rfl,Fg (Z1 hbel) hbd (by omega) hown fun i hi j d hd=>?_⟩;have hj:j<sz τ:=by grind[enc,List.getElem?_eq_some_iff,pX]
        exact⟨cv i j,Z0 hsz hi hj,hr i hi j d hd⟩
  grind
def mach0:Mc Un:=gG (fun _=>none) (fun _=>none) (fun _=>none) (fun _=>none) fun _=>none
def Fh(t e:TypeId)(τ:Ty):Bool:=match mach0.ti t with| .sl e' τ' b=>e'==e&&decide (τ'=τ)&&decide (b≤100000)|_=>false
def sg{t e τ}(h:Fh t e τ=true):∃bytes i z,bytes≤100000∧0<bytes∧0<sz τ∧Tryz.prog.underlying t=some (.slice e)∧Tryz.prog.info? e=some i∧i.size=sz τ∧i.bytes=bytes∧i.zero=some z∧z.cells.size=sz τ:=by
 unfold Fh at h;split at h
 ·rename_i e' τ' b hti;have h:=((DR (fun _=>none) (fun _=>none) (fun _=>none) (fun _=>none) fun _=>none).ti t).2;rw[show(gG (fun _=>none) (fun _=>none) (fun _=>none) (fun _=>none) fun _=>none).ti t=.sl e' τ' b from hti]at h;grind
 grind
def NL{ρ}(L:SlLaysE0.n41 Tryz.prog ρ){τ}(hti:Fh (ρ.t 22) (ρ.t 23) τ=true)(hB:dw Tryz.prog (ρ.f 41)):aj (ρ.f 41) (AB τ):=by
 obtain⟨bytes,i,z,hb,h1',h1,h0,h2,h3,h4,h5,h6⟩:=sg hti;refine arH L τ i z bytes h2 h5 h3 h4 h6 h1 hb (fun w=>?_) hB;have:=Go.run_sizeOf w h2;rw[this];simp only[Program.cellsOf,h2];exact congrArg (fun n=>Result.ok n w) h3
def arI:Ren:=⟨fun|41=>85|n=>n,fun|4=>4|22=>27|23=>57|n=>n,fun|n=>n⟩
def arJ:SlLaysE0.n41 Tryz.prog arI:={
 mixed:=by kernel_rfl
 f41:=⟨Tryz.f85.name,by kernel_rfl,Tryz.func85.trans<|congrArg some<|by kernel_rfl⟩
 t4:=Tryz.underlying4
 a4:=Tryz.isAgg4
 z4:=Tryz.sizeOf4
 v4:=Tryz.zeroValue4
 t22:=Tryz.underlying27
 a22:=Tryz.isAgg27
 z22:=Tryz.sizeOf27
 v22:=Tryz.zeroValue27}
def I4:au Un:=AB .row
def QU:aj 85 I4:=NL arJ (by kernel_rfl)<|zl Tryz.func85 (by kernel_rfl)<|by kernel_rfl
def arK:Ren:=⟨fun|41=>224|n=>n,fun|4=>4|22=>56|23=>37|n=>n,fun|n=>n⟩
def arL:SlLaysE0.n41 Tryz.prog arK:={
 mixed:=by kernel_rfl
 f41:=⟨Tryz.f224.name,by kernel_rfl,Tryz.func224.trans<|congrArg some<|by kernel_rfl⟩
 t4:=Tryz.underlying4
 a4:=Tryz.isAgg4
 z4:=Tryz.sizeOf4
 v4:=Tryz.zeroValue4
 t22:=Tryz.underlying56
 a22:=Tryz.isAgg56
 z22:=Tryz.sizeOf56
 v22:=Tryz.zeroValue56}
def Fi:au Un:=AB .val
def arM:aj 224 Fi:=NL arL (by kernel_rfl)<|zl Tryz.func224 (by kernel_rfl)<|by kernel_rfl
def arN:Ren:=⟨fun|41=>140|n=>n,fun|4=>4|22=>57|23=>37|n=>n,fun|n=>n⟩
def arO:SlLaysE0.n41 Tryz.prog arN:={
 mixed:=by kernel_rfl
 f41:=⟨Tryz.f140.name,by kernel_rfl,Tryz.func140.trans<|congrArg some<|by kernel_rfl⟩
 t4:=Tryz.underlying4
 a4:=Tryz.isAgg4
 z4:=Tryz.sizeOf4
 v4:=Tryz.zeroValue4
 t22:=Tryz.underlying57
 a22:=Tryz.isAgg57
 z22:=Tryz.sizeOf57
 v22:=Tryz.zeroValue57}
def arP:aj 140 Fi:=NL arO (by kernel_rfl)<|zl Tryz.func140 (by kernel_rfl)<|by kernel_rfl
end B
end Go.Proofs.YtjfpbchdcbhfgaaGreat
