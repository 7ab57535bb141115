/- Part 12 of the proof: Slike1 Svals Svbool Lscal Lscal2 Lscal3 Sscal1. -/
import Derived.MapKept
import Derived.Carry
import Derived.Lib.ConvBytes
import Derived.Laws.IdiomStrings
import Derived.Test.YtjfpbchdcbhfgaaGreatNsy11
set_option linter.unusedVariables false
set_option linter.unusedSimpArgs false
set_option linter.defProp false
set_option maxHeartbeats 2000000
namespace Go.Proofs.YtjfpbchdcbhfgaaGreat
namespace B
open Go Go.RowKit
set_option maxRecDepth 100000
noncomputable section
attribute [local irreducible] aB bk zw br aK b9 aR bu bA
def IL:Mc Un:=az [(235,QG)] [] [] [] []
def Nu(r:List Sign):RF Un:=([.c<|.ob 0 0],[⟨0,Ty.sign,r,none,true⟩])
def Nv:Nat→NS:=aO [(3,{ts:=bl 66 25,bs:=bl 66 0,nm:=[(.sl 3,264)]})] false
def ic(p:ByteArray)(v0:Int)(v1:List Sign):S Un:=(st 66 66 265 0 [(0,at_ p),(3,ao 264),(4,ai v0)] [] [(264,some ⟨(0:Nat),Ty.sign,v1,some (0:Nat),true⟩)])
def oO:S Un→Option (EX Un):=aC IL Nv Tryz.f207 [1,1,0,1,2,2] 3
def Yy:Exit→S Un→Option (RF Un):=aE IL Nv Tryz.f207 [1,1,0,1,2] [.o]
def Yz(p:ByteArray):Option (RF Un):=aw IL Nv Tryz.f207 1 [.o] [.d<|.v<|cs p]
def apL(p):Yz p=(oO<|ic p (0:Int)<|[]).bind (zd Yy):=ah
def Cw(p:ByteArray)(v0:Int)(v1:List Sign):Option (EX Un):=ae (0≤v0∧v0<(↑p.size:Int))<|ae ((v1.length+([{kind:=(0:Int),b:=(↑(p.toList.getD v0.toNat 0).toNat:Int)}]:List Sign).length)*(16:Nat)≤ze)<|oO<|ic p (IntKind.i64.wrap<|v0+1)<|v1++[{kind:=(0:Int),b:=(↑(p.toList.getD v0.toNat 0).toNat:Int)}]
def YA(p v0 v1):oO (ic p v0 v1)=af (decide<|v0<(↑p.size:Int)) (ae (0≤v0∧v0<(↑p.size:Int))<|af ((↑(p.toList.getD v0.toNat 0).toNat:Int)==(37:Int)) (ae ((v1.length+([{kind:=(2:Int),b:=(0:Int)}]:List Sign).length)*(16:Nat)≤ze)<|oO<|ic p (IntKind.i64.wrap<|v0+1)<|v1++[{kind:=(2:Int),b:=(0:Int)}])<|ae (0≤v0∧v0<(↑p.size:Int))<|af ((↑(p.toList.getD v0.toNat 0).toNat:Int)==(95:Int)) (ae ((v1.length+([{kind:=(1:Int),b:=(0:Int)}]:List Sign).length)*(16:Nat)≤ze)<|oO<|ic p (IntKind.i64.wrap<|v0+1)<|v1++[{kind:=(1:Int),b:=(0:Int)}])<|ae (0≤v0∧v0<(↑p.size:Int))<|af ((↑(p.toList.getD v0.toNat 0).toNat:Int)==(92:Int)) (af (decide<|IntKind.i64.wrap (v0+1)<(↑p.size:Int)) (ae (0≤IntKind.i64.wrap (v0+1)∧IntKind.i64.wrap (v0+1)<(↑p.size:Int))<|af (decide<|nF ⟨#[37,95,92]⟩ (↑(p.toList.getD (IntKind.i64.wrap<|v0+1).toNat 0).toNat:Int)≥(0:Int)) (ae (0≤IntKind.i64.wrap (v0+1)∧IntKind.i64.wrap (v0+1)<(↑p.size:Int))<|ae ((v1.length+([{kind:=(0:Int),b:=(↑(p.toList.getD (IntKind.i64.wrap<|v0+1).toNat 0).toNat:Int)}]:List Sign).length)*(16:Nat)≤ze)<|oO<|ic p (IntKind.i64.wrap<|IntKind.i64.wrap (v0+1)+1)<|v1++[{kind:=(0:Int),b:=(↑(p.toList.getD (IntKind.i64.wrap<|v0+1).toNat 0).toNat:Int)}])<|Cw p v0 v1)<|Cw p v0 v1)<|Cw p v0 v1) (some (.exit 0,(ic p v0 v1))):=aF
def apM(p v0 v1):Yy (.exit 0) (ic p v0 v1)=some (Nu v1):=ah
def sb(d:UInt8):Bool:=decide<|nF ⟨#[37,95,92]⟩ (d.toNat:Int)≥0
def da:List UInt8→List Sign
 |[]=>[]
 |[c]=>if(c.toNat:Int)=37 then[⟨2,0⟩]else if(c.toNat:Int)=95 then[⟨1,0⟩]else[⟨0,(c.toNat:Int)⟩]
 |c::d::r=>if(c.toNat:Int)=37 then⟨2,0⟩::da (d::r)else if(c.toNat:Int)=95 then⟨1,0⟩::da (d::r)else if(c.toNat:Int)=92∧sb d=true then⟨0,(d.toNat:Int)⟩::da r else⟨0,(c.toNat:Int)⟩::da (d::r)
def zg(p:ByteArray):List Sign:=da p.toList
def EZ:∀(n:Nat)(l:List UInt8),l.length≤n→(da l).length≤l.length
 |_,[],_=>y7 _
 |_,[c],_=>by
  grind[da]
 |n+1,c::d::r,h=>by
  simp at h;have h1:=EZ n (d::r) (by grind);have h2:=EZ n r (by omega);grind[List.length_cons,da]
 |0,c::d::r,h=>by grind
def apN p(hp:p.size≤2000000):∀(n i:Nat)(o:List Sign),p.size- i≤n→i≤p.size→o.length≤i→oO (ic p (i:Int) o)=some (.exit 0,ic p (p.size:Int) (o++da (p.toList.drop i))):=by
 intro n;have hsz:=eK p
 induction n with
 |zero=>
  intro i o h1 h2 h3;have e:i=p.size:=by omega
  subst e;rw[YA,z8,if_neg (by simp),fA (by omega)];simp only[da,de]
 |succ n ih=>
  intro i o h1 h2 h3;rcases yk i p.size with hi|hi
  ·have hw:IntKind.i64.wrap ((i:Int)+1)=((i+1:Nat):Int):=by grind[zm]
   have hg:(p.toList.getD i 0)=p.toList[i]'(by omega):=by grind
   have hd:p.toList.drop i=p.toList[i]'(by omega)::p.toList.drop (i+1):=fR (by omega);have ih1:∀x:Sign,oO (ic p ((i+1:Nat):Int) (o++[x]))=some (.exit 0,ic p (p.size:Int) (o++x::da (p.toList.drop (i+1)))):=by
    intro x;rw[ih (i+1) (o++[x]) (by omega) (by omega) (by grind),yw];rfl
   have e1:Cw p (i:Int) o=some (.exit 0,ic p (p.size:Int) (o++⟨0,((p.toList[i]'(by omega)).toNat:Int)⟩::da (p.toList.drop (i+1)))):=by
    unfold Cw;rw[z6 (by omega),z6 (by grind[ze,List.length_singleton]),y5,hg,hw,ih1]
   rw[YA,e1];simp only[z8,decide_eq_true_eq,beq_iff_eq,y5,hg,hw];rw[if_pos (by omega),z6 (by omega),z6 (by grind[ze,List.length_singleton]),z6 (by omega),z6 (by grind[ze,List.length_singleton]),z6 (by omega),ih1,ih1,hd];generalize p.toList[i]'(by omega)=c;rcases yk (i+1) p.size with hj|hj
   ·have hg2:(p.toList.getD (i+1) 0)=p.toList[i+1]'(by omega):=by grind
    have hd2:p.toList.drop (i+1)=p.toList[i+1]'(by omega)::p.toList.drop (i+1+1):=fR (by omega);have hw2:IntKind.i64.wrap (((i+1:Nat):Int)+1)=((i+1+1:Nat):Int):=by grind[zm]
    have ih2:∀x:Sign,oO (ic p ((i+1+1:Nat):Int) (o++[x]))=some (.exit 0,ic p (p.size:Int) (o++x::da (p.toList.drop (i+1+1)))):=by
     intro x;rw[ih (i+1+1) (o++[x]) (by omega) (by omega) (by grind),yw];rfl
    rw[if_pos (show((i+1:Nat):Int)<(p.size:Int) by omega),z6 (by omega),z6 (by omega),z6 (by grind[ze,List.length_singleton]),hg2,hw2,ih2,hd2];generalize p.toList[i+1]'(by omega)=d;simp only[da];by_cases c1:(c.toNat:Int)=37
    ·grind
    ·rw[if_neg c1,if_neg c1];by_cases c2:(c.toNat:Int)=95
     ·rw[if_pos c2,if_pos c2]
     ·rw[if_neg c2,if_neg c2];by_cases c3:(c.toNat:Int)=92
      ·by_cases c4:sb d=true
       ·have c4':nF ⟨#[37,95,92]⟩ (d.toNat:Int)≥0:=by exact of_decide_eq_true c4
        rw[if_pos c3,if_pos c4',if_pos ⟨c3,c4⟩]
       ·have c4':¬nF ⟨#[37,95,92]⟩ (d.toNat:Int)≥0:=fun e=>c4 (by exact decide_eq_true e);rw[if_pos c3,if_neg c4',if_neg (fun e=>c4 e.2)]
      ·rw[if_neg c3,if_neg (fun e=>c3 e.1)]
   ·have hd2:p.toList.drop (i+1)=[]:=fA (by omega);rw[if_neg (show¬((i+1:Nat):Int)<(p.size:Int) by omega),hd2];simp only[da];by_cases c1:(c.toNat:Int)=37
    ·rw[if_pos c1,if_pos c1]
    ·rw[if_neg c1,if_neg c1];by_cases c2:(c.toNat:Int)=95
     ·rw[if_pos c2,if_pos c2]
     ·rw[if_neg c2,if_neg c2];split<;>rfl
  grind
def apO p(_hp:cm p)(h:p.size≤2000000):Yz p=some (Nu<|zg p):=by
 have lp:=apN p h p.size 0 [] (by omega) (by omega)<|y7 _;rw[apL];refine(zf lp).trans ?_;rw[apM];rfl
def YB:au Un:=aQ cB fun p=>([p.size≤2000000],Nu<|zg p)
def apP:aj 207 YB:=aU cN (M:=IL) rfl ⟨apK,trivial⟩ Tryz.func207 fun p=>GiF.r fun w o=>apO p (am w 0)<|aA o 0
def xd:Mc Un:=az [(207,YB)] [] [] [] []
def Cx:Nat→NS:=aO [(4,{ts:=bl 87 1009,bs:=bl 87 0,nm:=[(.sl 5,348)]}),(15,{ts:=bl 87 160,bs:=bl 87 0,nm:=[(.sl 5,349)]})] false
def gn(s:ByteArray)(p:ByteArray)(v0:Int)(v1:Int)(v2:Int)(v3:Int):S Un:=(st 87 87 350 0 [(0,at_ s),(4,ab false),(5,ao 348),(6,ai v2),(7,ai v0),(8,ai v1),(9,ai v3)] [] [(348,some ⟨(0:Nat),Ty.sign,zg p,none,true⟩)])
def jJ(p:ByteArray)(v0:Int):S Un:=(st 87 87 350 0 [(5,ao 349),(7,ai v0)] [] [(349,some ⟨(0:Nat),Ty.sign,zg p,none,true⟩)])
def oP:S Un→Option (EX Un):=aC xd Cx Tryz.f167 [1,1,1,1,0,2,2] 4
def qD:S Un→Option (EX Un):=aC xd Cx Tryz.f167 [1,1,1,1,1,0,2,2] 15
def xe:Exit→S Un→Option (RF Un):=aE xd Cx Tryz.f167 [1,1,1,1,0,2] [.d]
def QH:Exit→S Un→Option (RF Un):=aE xd Cx Tryz.f167 [1,1,1,1,1,0,2] [.d]
def YC(s:ByteArray)(p:ByteArray):Option (RF Un):=aw xd Cx Tryz.f167 2 [.d] [.d<|.v<|cs s,.d<|.v<|cs p]
def apQ(s p):YC s p=ae (p.size≤(2000000:Nat)) ((oP<|gn s p (0:Int) (-1:Int) (0:Int) (0:Int)).bind<|zd xe):=ah
def IM(s:ByteArray)(p:ByteArray)(v0:Int)(v1:Int)(v2:Int)(v3:Int):Option (EX Un):=af (decide<|v1≥0) (oP<|gn s p (IntKind.i64.wrap<|v1+1) v1 (IntKind.i64.wrap<|v3+1)<|IntKind.i64.wrap<|v3+1)<|some (.ret,(gn s p v0 v1 v2 v3))
def IN(s:ByteArray)(p:ByteArray)(v0:Int)(v1:Int)(v2:Int)(v3:Int):Option (EX Un):=af (decide<|v0<(↑(zg p).length:Int)) (ae (0≤v0∧v0<(↑(zg p).length:Int))<|af (((zg p).getD v0.toNat bz).kind ==1) (oP<|gn s p (IntKind.i64.wrap<|v0+1) v1 (IntKind.i64.wrap<|v2+1) v3)<|ae (0≤v0∧v0<(↑(zg p).length:Int))<|ae (0≤v2∧v2<(↑s.size:Int))<|af (((zg p).getD v0.toNat bz).b ==(↑(s.toList.getD v2.toNat 0).toNat:Int)) (oP<|gn s p (IntKind.i64.wrap<|v0+1) v1 (IntKind.i64.wrap<|v2+1) v3)<|IM s p v0 v1 v2 v3)<|IM s p v0 v1 v2 v3
def YD(s p v0 v1 v2 v3):oP (gn s p v0 v1 v2 v3)=af (decide<|v2<(↑s.size:Int)) (af (decide<|v0<(↑(zg p).length:Int)) (ae (0≤v0∧v0<(↑(zg p).length:Int))<|af (((zg p).getD v0.toNat bz).kind ==2) (oP<|gn s p (IntKind.i64.wrap<|v0+1) v0 v2 v2)<|IN s p v0 v1 v2 v3)<|IN s p v0 v1 v2 v3) (some (.exit 0,(gn s p v0 v1 v2 v3))):=aF
def apR(s p v0 v1 v2 v3):xe .ret (gn s p v0 v1 v2 v3)=some (ak false):=ah
def apS(s p v0 v1 v2 v3):xe (.exit 0) (gn s p v0 v1 v2 v3)=(qD<|jJ p v0).bind (zd QH):=ah
def QI(p v0):qD (jJ p v0)=af (decide<|v0<(↑(zg p).length:Int)) (ae (0≤v0∧v0<(↑(zg p).length:Int))<|af (((zg p).getD v0.toNat bz).kind ==2) (qD<|jJ p<|IntKind.i64.wrap<|v0+1)<|some (.exit 3,(jJ p v0))) (some (.exit 3,(jJ p v0))):=aF
def zzv(p v0):QH (.exit 3) (jJ p v0)=some (ak<|v0==(↑(zg p).length:Int)):=ah
def ck:List Sign→List UInt8→Prop
 |[],l=>l=[]
 |g::p,l=>if g.kind=2 then∃n,n≤l.length∧ck p (l.drop n)else∃c t,l=c::t∧(g.kind=1∨g.b=(c.toNat:Int))∧ck p t
section
variable {G:List Sign} {S:List UInt8}
theorem YE{k a}(hk:G.length≤k):ck (G.drop k) (S.drop a)↔S.length≤a:=by
 simp_all[fA,ck,y1o]
def mV{α:Type} d{l:List α}{k}(hk:k<l.length):l.drop k=l.getD k d::l.drop (k+1):=by
 simp_all
theorem xf{k a}(hk:k<G.length)(h2:(G.getD k bz).kind=2)(ha:a≤S.length):ck (G.drop k) (S.drop a)↔∃n,a≤n∧n≤S.length∧ck (G.drop<|k+1) (S.drop n):=by
 rw[mV bz hk];simp only[ck];rw[if_pos h2,yt];constructor
 ·grind[List.drop_drop]
 ·rintro⟨n,h1,h3,h4⟩;refine⟨n- a,by omega,?_⟩;simp_all
theorem Ar{k a}(hk:k<G.length)(h2:(G.getD k bz).kind≠2):ck (G.drop k) (S.drop a)↔a<S.length∧((G.getD k bz).kind=1∨(G.getD k bz).b=((S.getD a 0).toNat:Int))∧ck (G.drop<|k+1) (S.drop<|a+1):=by
 rw[mV bz hk];simp only[ck];rcases yk a S.length with ha|ha
 ·rw[mV 0 ha];grind
 grind[List.drop_of_length_le]
def apT{k a b}(hk:k<G.length)(h2:(G.getD k bz).kind=2)(hab:a≤b)(hb:b≤S.length)(h:ck (G.drop k) (S.drop b)):ck (G.drop k) (S.drop a):=by
 grind[xf]
def YF:∀(L k a:Nat),k+L≤G.length→(∀i,k≤i→i<k+L→(G.getD i bz).kind≠2)→a≤S.length→ck (G.drop k) (S.drop a)→ck (G.drop<|k+L) (S.drop<|a+L)∧a+L≤S.length
 |0,k,a,_,_,ha,h=>⟨h,ha⟩
 |L+1,k,a,hk,hi,ha,h=>by
  obtain⟨h1,_,h3⟩:=(Ar (by omega)<|hi k (y7 _)<|by omega).1 h;have:=YF L (k+1) (a+1) (by omega) (fun i a b=>hi i (by omega)<|by omega) (by omega) h3;grind
def lkI(G:List Sign)(S:List UInt8)(k at_ from_:Nat)(star:Int):Prop:=
 (star=-1∧(ck G S↔ck (G.drop k) (S.drop at_)))∨∃q:Nat,star=q∧q<k∧(G.getD q bz).kind=2∧at_+q+1=from_+k∧(∀i,q+1≤i→i<k→(G.getD i bz).kind≠2)∧(ck G S↔ck (G.drop q) (S.drop from_))∧(ck (G.drop<|q+1) (S.drop from_)↔ck (G.drop k) (S.drop at_))
def lkI.here{k at_ from_ star}(h:lkI G S k at_ from_ star)(hk:k≤G.length)(hf:from_≤at_)(ha:at_≤S.length)(hx:(k<G.length∧(G.getD k bz).kind=2)∨at_=S.length):ck G S↔ck (G.drop k) (S.drop at_):=by
 rcases h with⟨_,h⟩|⟨q,_,h1,h2,h3,h4,h5,h6⟩
 ·omega
 ·rw[h5,xf (by omega) h2<|by omega];constructor
  ·rintro⟨j,j1,j2,j3⟩;obtain⟨e1,e2⟩:=YF (k- (q+1)) (q+1) j (by omega) (fun i a b=>h4 i a<|by omega) j2 j3;rw[show q+1+(k- (q+1))=k by omega]at e1;rcases hx with⟨x1,x2⟩|hx
   ·exact apT x1 x2 (by omega) e2 e1
   grind
  grind
def lkI.star{k at_ from_ star}(h:lkI G S k at_ from_ star)(hk:k<G.length)(hf:from_≤at_)(ha:at_≤S.length)(h2:(G.getD k bz).kind=2):lkI G S (k+1) at_ at_ k:=
 .inr ⟨k,rfl,pI _,h2,rfl,fun i a b=>by omega,h.here (by omega) hf ha<|.inl ⟨hk,h2⟩,Iff.rfl⟩
def lkI.one{k at_ from_ star}(h:lkI G S k at_ from_ star)(hk:k<G.length)(ha:at_<S.length)(h2:(G.getD k bz).kind≠2)(hm:(G.getD k bz).kind=1∨(G.getD k bz).b=((S.getD at_ 0).toNat:Int)):lkI G S (k+1) (at_+1) from_ star:=by
 have e:ck (G.drop k) (S.drop at_)↔ck (G.drop<|k+1) (S.drop<|at_+1):=by simp_all[Ar]
 rcases h with⟨h0,h⟩|⟨q,h0,h1,h3,h4,h5,h6,h7⟩
 ·exact .inl ⟨h0,h.trans e⟩
 ·exact .inr ⟨q,h0,by omega,h3,by omega,fun i a b=>by grind,h6,h7.trans e⟩
def lkI.miss{k at_}(ha:at_<S.length)(hm:k<G.length→(G.getD k bz).kind≠2∧¬((G.getD k bz).kind=1∨(G.getD k bz).b=((S.getD at_ 0).toNat:Int))):¬ck (G.drop k) (S.drop at_):=by
 grind[Nat.lt_or_ge,Ar,YE]
theorem lkI.back{k at_ from_ q:Nat}(h:lkI G S k at_ from_ q)(hk:k≤G.length)(hf:from_<S.length)(hm:¬ck (G.drop k) (S.drop at_)):lkI G S (q+1) (from_+1) (from_+1) q:=by
 rcases h with⟨h0,_⟩|⟨q',h0,h1,h3,h4,h5,h6,h7⟩
 ·omega
 ·obtain rfl:q=q':=by omega
  refine .inr ⟨q,rfl,pI _,h3,by rfl,fun i a b=>by omega,h6.trans ?_,Iff.rfl⟩;rw[xf (by omega) h3<|by omega,xf (by omega) h3<|by omega];grind
end
open Classical in
def apU(p:ByteArray)(hp:(zg p).length≤2000000):∀(c k:Nat),(zg p).length - k=c→k≤(zg p).length→(qD<|jJ p (k:Int)).bind (zd QH)=some (ak<|decide<|ck ((zg p).drop k) []):=by
 intro c
 induction c with
 |zero=>
  intro k h1 h2;have hk:k=(zg p).length:=by omega
  have e:qD (jJ p (k:Int))=some (.exit 3,jJ p (k:Int)):=by rw[QI,z8,if_neg (by simp;omega)]
  rw[zf e,zzv,hk,sC];simp[ck]
 |succ c ih=>
  intro k h1 h2;by_cases hk:((zg p).getD k bz).kind=2
  ·have e:qD (jJ p (k:Int))=qD (jJ p ((k+1:Nat):Int)):=by
    rw[QI,z8,if_pos (by simp;omega),z6<|by omega,y5,z8,if_pos<|by simpa using hk,show IntKind.i64.wrap ((k:Int)+1)=((k+1:Nat):Int) by rw[zm<|by omega];omega]
   rw[e,ih (k+1) (by omega)<|by omega,mV bz<|show k<(zg p).length by omega];refine congrArg (fun x=>some<|ak x)<|decide_eq_decide.2 ?_;simp only[ck];rw[if_pos hk];exact⟨fun h=>⟨0,y7 _,h⟩,fun⟨n,_,h⟩=>by rwa[List.drop_nil]at h⟩
  ·have e:qD (jJ p (k:Int))=some (.exit 3,jJ p (k:Int)):=by
    rw[QI,z8,if_pos (by simp;omega),z6<|by omega,y5,z8,if_neg<|by simpa using hk]
   rw[zf e,zzv,mV bz<|show k<(zg p).length by omega];rw[decide_eq_false (by simp only[ck];rw[if_neg hk];rintro⟨_,_,h,_⟩;simp at h),beq_eq_false_iff_ne.2<|by omega]
open Classical in
def apV(s p:ByteArray)(hs:s.size≤2000000)(hp:(zg p).length≤2000000):∀(a b c k at_ from_:Nat)(star:Int),s.size- from_=a→s.size- at_=b→(zg p).length - k=c→
 at_≤s.size→from_≤at_→k≤(zg p).length→lkI (zg p) s.toList k at_ from_ star→
 (oP (gn s p (k:Int) star (at_:Int) (from_:Int))).bind (zd xe)=some (ak (decide (ck (zg p) s.toList))):=by
 have hsz:=eK s;intro a
 induction a using Nat.strongRecOn with
 |ind a iha=>
  intro b
  induction b using Nat.strongRecOn with
  |ind b ihb=>
   intro c
   induction c using Nat.strongRecOn with
   |ind c ihc=>
    intro k at_ from_ star h1 h2 h3 h4 h5 h6 h7;rcases yk at_ s.size with ha|ha
    ·have wk:k<(zg p).length→IntKind.i64.wrap ((k:Int)+1)=((k+1:Nat):Int):=fun h=>by rw[zm (by omega)];omega
     have wa:IntKind.i64.wrap ((at_:Int)+1)=((at_+1:Nat):Int):=by rw[zm (by omega)];omega
     have wf:IntKind.i64.wrap ((from_:Int)+1)=((from_+1:Nat):Int):=by rw[zm (by omega)];omega
     have t1:¬ck ((zg p).drop k) (s.toList.drop at_)→(IM s p (k:Int) star (at_:Int) (from_:Int)).bind (zd xe)=some (ak (decide (ck (zg p) s.toList))):=by
      intro hm;unfold IM;by_cases hst:star≥0
      ·obtain⟨q,rfl⟩:=Bd hst;have hq:q<k:=by rcases h7 with⟨h,_⟩|⟨q',h,hh,_⟩<;>omega
       rw[z8,if_pos (decide_eq_true hst),wf,show IntKind.i64.wrap ((q:Int)+1)=((q+1:Nat):Int) by rw[zm (by omega)];omega];exact iha (s.size- (from_+1)) (by omega) _ _ (q+1) (from_+1) (from_+1) (q:Int) rfl rfl rfl (by omega) (by omega) (by omega) (h7.back h6 (by omega) hm)
      ·have e:af (decide (star≥0)) (oP (gn s p (IntKind.i64.wrap (star+1)) star (IntKind.i64.wrap ((from_:Int)+1)) (IntKind.i64.wrap ((from_:Int)+1)))) (some (.ret,(gn s p (k:Int) star (at_:Int) (from_:Int))))=some (.ret,(gn s p (k:Int) star (at_:Int) (from_:Int))):=by rw[z8,if_neg (by simpa using hst)]
       rw[zf e,apR];rcases h7 with⟨_,h⟩|⟨q,h,_⟩
       ·rw[decide_eq_false (fun e=>hm (h.1 e))]
       ·omega
     have t2:(k<(zg p).length→((zg p).getD k bz).kind≠2)→(IN s p (k:Int) star (at_:Int) (from_:Int)).bind (zd xe)=some (ak (decide (ck (zg p) s.toList))):=by
      intro hn;unfold IN;rcases yk k (zg p).length with hk|hk
      ·have ihm:=fun hm=>ihb (s.size- (at_+1)) (by omega) _ (k+1) (at_+1) from_ star h1 rfl rfl (by omega) (by omega) (by omega) (h7.one hk (by omega) (hn hk) hm);rw[z8,if_pos (by simp;omega),z6 (by omega),z6 (by omega),z6 (by omega),wk hk,wa,z8,z8,y5,y5];by_cases c1:((zg p).getD k bz).kind=1
       ·rw[if_pos (by simpa using c1)];exact ihm (.inl c1)
       rw[if_neg (by simpa using c1)];by_cases c2:((zg p).getD k bz).b=((s.toList.getD at_ 0).toNat:Int)
       ·rw[if_pos (by simpa using c2)];exact ihm (.inr c2)
       ·rw[if_neg (by simpa using c2)];exact t1 (lkI.miss (by omega) fun _=>⟨hn hk,fun e=>e.elim c1 c2⟩)
      ·rw[z8,if_neg (by simp;omega)];exact t1 (lkI.miss (by omega) fun h=>by omega)
     rw[YD,z8,if_pos (by simp;omega),z8];rcases yk k (zg p).length with hk|hk
     ·rw[if_pos (by simp;omega),z6 (by omega),z8,y5];by_cases c2:((zg p).getD k bz).kind=2
      ·rw[if_pos (by simpa using c2),wk hk];have hI:=h7.star hk h5 (by omega) c2;rcases yk (s.size- at_) a with hlt|hge
       ·exact iha (s.size- at_) hlt _ _ (k+1) at_ at_ (k:Int) rfl rfl rfl (by omega) (by omega) (by omega) hI
       ·exact ihc ((zg p).length - (k+1)) (by omega) (k+1) at_ at_ (k:Int) (by omega) h2 rfl (by omega) (by omega) (by omega) hI
      ·rw[if_neg (by simpa using c2)];exact t2 fun _=>c2
     ·rw[if_neg (by simp;omega)];exact t2 fun h=>by omega
    ·have e:oP (gn s p (k:Int) star (at_:Int) (from_:Int))=some (.exit 0,gn s p (k:Int) star (at_:Int) (from_:Int)):=by rw[YD,z8,if_neg (by simp;omega)]
     have hh:=h7.here h6 h5 (by omega) (.inr (by omega));rw[fA (show s.toList.length≤at_ by omega)]at hh;rw[zf e,apS,apU p hp _ k rfl h6,decide_eq_decide.2 hh]
open Classical in
noncomputable def tr(s p:ByteArray):Bool:=decide<|ck (zg p) s.toList
def apW s p(_hs:cm s)(_hp:cm p)(h1:s.size≤2000000)(h2:p.size≤2000000):YC s p=some (ak<|tr s p):=by
 have hl:(zg p).length≤2000000:=by
  have:=EZ _ p.toList<|y7 _;rw[eK]at this;unfold zg;omega
 rw[apQ,z6 h2];exact apV s p h1 hl _ _ _ 0 0 0 (-1) rfl rfl rfl (by omega) (by omega) (by omega)<|.inl ⟨rfl,Iff.rfl⟩
def YG:au Un:=aD cB cB fun s p=>([s.size≤2000000,p.size≤2000000],ak<|tr s p)
def apX:aj 167 YG:=aJ cN cN (M:=xd) rfl ⟨apP,trivial⟩ Tryz.func167 fun s p=>GiF.r fun w o=>apW s p (am w 0) (am w 1) (aA o 0)<|aA o 1
end
end B
namespace B
open Go Go.RowKit
set_option maxRecDepth 100000
noncomputable section
attribute [local irreducible] aB bk zw br aK b9 aR bu bA
def kE:Nat→NS:=aO [(2,{ts:=bl 19 403,bs:=bl 19 0,nm:=[]})] false
def lF(s:List Val)(f_o:Val→Prop)(f:Val→Bool)(v0:Int):S Un:=(st 19 19 76 0 [(0,al .val s),(1,AV.one<|A.c<|C.fv<|cX f_o f),(4,ai (0:Int)),(7,ai (↑s.length:Int)),(8,ai v0)] [] [])
def QJ(s:List Val)(f_o:Val→Prop)(f:Val→Bool)(v0:Int)(v1:Int):S Un:=(st 19 19 76 0 [(0,al .val s),(1,AV.one<|A.c<|C.fv<|cX f_o f),(4,ai v1),(7,ai (↑s.length:Int)),(8,ai v0)] [] [])
def qE:S Un→Option (EX Un):=aC av kE Tryz.f209 [1,0,1,2,2] 2
def IP:Exit→S Un→Option (RF Un):=aE av kE Tryz.f209 [1,0,1,2] [.d]
def YH(s:List Val)(f_o:Val→Prop)(f:Val→Bool):Option (RF Un):=aw av kE Tryz.f209 0 [.d] [.d<|.v<|.dat (U:=Un) Ty.val s,.fn<|cX f_o f]
def apY(s f_o f):YH s f_o f=(qE<|lF s f_o f (0:Int)).bind (zd IP):=ah
def Nw(s f_o f v0):qE (lF s f_o f v0)=af (decide<|v0<(↑s.length:Int)) (ae (0≤v0∧v0<(↑s.length:Int))<|ae (f_o<|s.getD v0.toNat z7)<|af (f<|s.getD v0.toNat z7) (some (.ret,(QJ s f_o f v0 v0)))<|qE<|lF s f_o f<|IntKind.i64.wrap<|v0+1) (some (.exit 0,(lF s f_o f v0))):=aF
def apZ(s f_o f v0 v1):IP .ret (QJ s f_o f v0 v1)=some (eD v1):=ah
def ap0(s f_o f v0):IP (.exit 0) (lF s f_o f v0)=some (eD<|(-1:Int)):=ah
def oQ(o:Val→Prop)(s:List Val):Prop:=∀x∈s,o x
def fJ(s:List Val)(_o:Val→Prop)(f:Val→Bool):Int:=match s.findIdx? f with|some i=>(i:Int)|none=>-1
theorem ap1 s o f:0≤fJ s o f↔s.any f=true:=by
 grind[fJ,List.findIdx?_eq_none_iff,List.any_eq_true,absurd,List.findIdx?_eq_some_iff_getElem,List.getElem_mem]
def ap2(s:List Val) o f(hs:WL .val s)(ho:oQ o s):YH s o f=some (eD<|fJ s o f):=by
 have key:∀(r:List Val)(i:Nat),s.drop i=r→i≤s.length→(qE<|lF s o f i).bind (zd IP)=some (eD (match r.findIdx? f with|some k=>((i+k:Nat):Int)|none=>-1)):=by
  intro r
  induction r with
  |nil=>
   intro i hr hi;have:s.length≤i:=by simp_all
   have e:qE (lF s o f i)=some (.exit 0,lF s o f i):=by rw[Nw,z8,if_neg<|by grind]
   rw[zf e,ap0];rfl
  |cons x r ih=>
   intro i hr hi;obtain⟨a1,a2,a3,hm⟩:=d9 hr;have hx:s.getD i z7=x:=a2 z7;by_cases hf:f x=true
   ·have e:qE (lF s o f i)=some (.ret,QJ s o f i i):=by
     rw[Nw,z8,if_pos<|by grind,z6<|by omega,y5,hx,z6<|ho x hm,z8,if_pos hf]
    rw[zf e,apZ];simp[nQ,hf]
   ·have e:qE (lF s o f i)=qE (lF s o f ((i+1:Nat):Int)):=by
     rw[Nw,z8,if_pos<|by grind,z6<|by omega,y5,hx,z6<|ho x hm,z8,if_neg hf,eW a1 hs.len]
    rw[e,ih (i+1) a3<|by omega];congr 2;grind
 rw[apY];have:=key s 0 rfl<|yc _;refine Eq.trans this ?_;simp[fJ]
def Cy:au Un:=fun args=>match args with
 |[x0,x1]=>(dL .val x0).bind fun s=>(dF x1).bind fun f=>some ([f=(cX (dy f)<|eU f),oQ (dy f) s],bh<|fJ s (dy f)<|eU f,bi<|fJ s (dy f)<|eU f)
 |_=>none
def YI:aj 209 Cy:=by
 intro args ob rs os h hob;unfold Cy at h;split at h
 ·simp only[y6,y8,yi]at h;obtain⟨s,e0,f,e1,rfl,rfl,rfl⟩:=h;obtain rfl:=zi e0;obtain rfl:=mv e1;have hfv0:=hob _<|y9 (i:=0) rfl;generalize eU f=pp0 at*;generalize dy f=qq0 at*;subst hfv0;exact⟨dz (M:=av) rfl (cM (l1:=[]) (l2:=[]) (l3:=[]) (l4:=[]) (l5:=[]) trivial trivial trivial trivial trivial) Tryz.func209 (by rfl) kE 0 [.d] fun hwf=>(ap2 s qq0 pp0 (bj hwf (a:=.d<|.v<|.dat (U:=Un) Ty.val s)<|y9 (i:=0) rfl)<|hob _<|y9 (i:=1) rfl),zl Tryz.func209 (by rfl)<|by rfl⟩
 grind
def YJ:Mc Un:=az [(209,Cy)] [] [] [] []
def jo(r:Bool):RF Un:=(bm r,bp r)
def YK(s:List Val)(f_o:Val→Prop)(f:Val→Bool):Option (RF Un):=aw YJ aN Tryz.f199 0 [.d] [.d<|.v<|.dat (U:=Un) Ty.val s,.fn<|cX f_o f]
def ap3(s f_o f):YK s f_o f=ae (cX f_o f=cX (dy<|cX f_o f) (eU<|cX f_o f)) (ae (oQ (dy<|cX f_o f) s)<|some<|jo<|decide<|fJ s (dy<|cX f_o f) (eU<|cX f_o f)≥0):=ah
def xg(s:List Val)(_o:Val→Prop)(f:Val→Bool):Bool:=s.any f
def ap4(s:List Val) o f(_hs:WL .val s)(ho:oQ o s):YK s o f=some (jo<|xg s o f):=by
 rw[ap3];simp only[Qj,Qi];rw[z6 trivial,z6 ho];grind[xg,ap1,fJ]
def Nx:au Un:=fun args=>match args with
 |[x0,x1]=>(dL .val x0).bind fun s=>(dF x1).bind fun f=>some ([f=(cX (dy f)<|eU f),oQ (dy f) s],bm<|xg s (dy f)<|eU f,bp<|xg s (dy f)<|eU f)
 |_=>none
def ap5:aj 199 Nx:=by
 intro args ob rs os h hob;unfold Nx at h;split at h
 ·simp only[y6,y8,yi]at h;obtain⟨s,e0,f,e1,rfl,rfl,rfl⟩:=h;obtain rfl:=zi e0;obtain rfl:=mv e1;have hfv0:=hob _<|y9 (i:=0) rfl;generalize eU f=pp0 at*;generalize dy f=qq0 at*;subst hfv0;exact⟨dz (M:=YJ) rfl (cM (l1:=[(209,Cy)]) (l2:=[]) (l3:=[]) (l4:=[]) (l5:=[]) ⟨YI,trivial⟩ trivial trivial trivial trivial) Tryz.func199 (by rfl) aN 0 [.d] fun hwf=>(ap4 s qq0 pp0 (bj hwf (a:=.d<|.v<|.dat (U:=Un) Ty.val s)<|y9 (i:=0) rfl)<|hob _<|y9 (i:=1) rfl),zl Tryz.func199 (by rfl)<|by rfl⟩
 grind
def nG(r:Val):RF Un:=(kT r,kU r)
def YL(b:Bool):Option (RF Un):=aw av aN Tryz.f39 0 [.d] [.d<|.v<|cb b]
def ap6(b):YL b=af b (some<|nG<|{kind:=(1:Int),n:=(1:Int),s:=⟨#[]⟩}) (some<|nG<|{kind:=(1:Int),n:=(0:Int),s:=⟨#[]⟩}):=ah
def cE(b:Bool):Val:=
 if(b)=true then
  ({kind:=(1:Int),n:=(1:Int),s:=⟨#[]⟩})
 else
  ({kind:=(1:Int),n:=(0:Int),s:=⟨#[]⟩})
def ap7 b:YL b=some (nG<|cE b):=by rw[ap6];unfold cE;simp only[z8];repeat(first|rfl|split)
def xh:au Un:=fun args=>match args with
 |[x0]=>(dB x0).bind fun b=>some ([],kT<|cE b,kU<|cE b)
 |_=>none
def QK:aj 39 xh:=by
 intro args ob rs os h hob;unfold xh at h;split at h
 ·simp only[y6,y8,yi]at h;obtain⟨b,e0,rfl,rfl,rfl⟩:=h;obtain rfl:=mu e0;exact⟨dz (M:=av) rfl (cM (l1:=[]) (l2:=[]) (l3:=[]) (l4:=[]) (l5:=[]) trivial trivial trivial trivial trivial) Tryz.func39 (by kernel_rfl) aN 0 [.d] fun hwf=>(ap7 b),zl Tryz.func39 (by kernel_rfl)<|by kernel_rfl⟩
 ·simp at h
def fK(b:Bool):Val:=⟨1,if b=true then 1 else 0,⟨#[]⟩⟩
@[simp] theorem IQ b:cE b=fK b:=by unfold cE fK;cases b<;>rfl
end
end B
namespace B
open Go Go.RowKit
set_option maxRecDepth 1000000
def jZ(op a b:Int):Int×Bool:=if op=5 then tg a b else if op=6 then kC a b else if op=7 then th a b else if op=8 then tj a b else tn a b
def l8(op:Int):FV Un:=fun args=>match args with
 |[x0,x1]=>(dI .i64<|.d x0).bind fun a=>(dI .i64<|.d x1).bind fun b=>some ([],[.v<|.s<|.int .i64 (jZ op a b).1,.v<|.s<|.bool (jZ op a b).2])
 |_=>none
def Ny:au Un:=fun args=>match args with
 |[x0]=>(dI .i64 x0).bind fun op=>some ([5≤op∧op≤9],[.c<|.fv<|l8 op],[])
 |_=>none
def ie(op c:Int):Bool:=if op=11 then decide (c=0)else if op=12 then decide (c=-1∨c=1)else if op=13 then decide (c=-1)else if op=14 then decide (c=-1∨c=0)else if op=15 then decide (c=1)else decide (c=0∨c=1)
def dO(op:Int)(a b:Val):Val:=if(dX a b).2=true then fK (ie op (dX a b).1)else z7
def IR:au Un:=fun args=>match args with
 |[x0,x1,x2]=>(dI .i64 x0).bind fun op=>(dS .val x1).bind fun a=>(dS .val x2).bind fun b=>some ([11≤op∧op≤16],[.agg<|jk Ty.val<|dO op a b],[])
 |_=>none
def ig(f b:Int)(c:UInt8):UInt8:=if(c.toNat:Int)≥f∧(c.toNat:Int)<IntKind.u8.wrap (f+26)then UInt8.ofNat (IntKind.u8.wrap<|IntKind.i64.wrap<|(c.toNat:Int)+b).toNat else c
def fX(s:ByteArray)(f b:Int):ByteArray:=⟨(s.toList.map<|ig f b).toArray⟩
def Cz s f b:(fX s f b).size=s.size:=by
 unfold fX;show(s.toList.map<|ig f b).toArray.size=s.size;rw[List.size_toArray,yy,eK]
def QL:au Un:=fun args=>match args with
 |[x0,x1,x2]=>(cB x0).bind fun s=>(dI .u8 x1).bind fun f=>(dI .i64 x2).bind fun b=>some ([s.size≤2000000],[.c<|.s<|.string<|fX s f b],[])
 |_=>none
def ap8{f φ}(h:eQ f φ){St w}:FunRel Tryz.prog En St w (.func (.func f) #[] #[]) φ:=by
 refine⟨f,#[],rfl,h.1,fun St' w' hk hb hld args ob rs hφ hob vs hvs=>?_⟩;have hc:=h.2 args ob rs hφ hob w' St' vs hb (All2.map_right D.d (fun _ _ h=>h) hvs) hld;rw[Array.append_empty];exact hc
def At{mt et}(hm:Tryz.prog.underlying mt=some (.map 3 et))(w:World) es c k v(hn:Instr.findNow (.int .i64) (.int .i64 k) es.toList 0=some none):
 (Instr.mapUpdate mt (.map<|some w.heap.size) (.int .i64 k) v).run Tryz.prog (w.alloc<|.map es c)=.ok () (w.alloc<|.map (es.push {key:=.int .i64 k,val:=v,born:=c})<|c+1):=by
 have hd:Tryz.prog.underlying 3=some (.int .i64):=by kernel_rfl
 have hb:(w.alloc<|.map es c).heap[w.heap.size]?=some (.map es c):=by unfold World.alloc;simp
 have hk:MapKept.IsKey (.int .i64) (.int .i64 k):=by simp[MapKept.IsKey]
 simp[Instr.mapUpdate,run_underlying hm,MapKept.run_getObj_map hb,MapKept.run_checkKey hd hk,MapKept.run_findKey hd hn,MapKept.run_setObj_map _ hb,Result.andThen];unfold World.alloc;simp only;congr 1;apply PV;simp[vu]
def ap9{mt et}(hm:Tryz.prog.underlying mt=some (.map 3 et))(w:World) es c k i v(hn:Instr.findNow (.int .i64) (.int .i64 k) es.toList 0=some (some (i,v))):
 (Instr.lookup mt (.map<|some w.heap.size) (.int .i64 k) false).run Tryz.prog (w.alloc<|.map es c)=.ok v (w.alloc<|.map es c):=by
 have hd:Tryz.prog.underlying 3=some (.int .i64):=by kernel_rfl
 have hb:(w.alloc<|.map es c).heap[w.heap.size]?=some (.map es c):=by unfold World.alloc;simp
 have hk:MapKept.IsKey (.int .i64) (.int .i64 k):=by simp[MapKept.IsKey]
 simp[Instr.lookup,run_underlying hm,MapKept.run_getObj_map hb,MapKept.run_checkKey hd hk,MapKept.run_findKey hd hn,Result.andThen]
def YM:List MapEntry:=[⟨.int .i64 5,.func (.func 202) #[] #[],0⟩,⟨.int .i64 6,.func (.func 201) #[] #[],1⟩,⟨.int .i64 7,.func (.func 203) #[] #[],2⟩,⟨.int .i64 8,.func (.func 204) #[] #[],3⟩,⟨.int .i64 9,.func (.func 205) #[] #[],4⟩]
def aqa op i v(hn:Instr.findNow (.int .i64) (.int .i64 op) YM 0=some (some (i,v))) w:Calls Tryz.prog 162 #[.int .i64 op] w fun e w'=>e=.returned v∧Ext w w':=by
 have mixed:Tryz.prog.follows .mixedOrders=true:=by kernel_rfl
 have hmm:=@run_makeMap Tryz.prog;have hm:Tryz.prog.underlying 192=some (.map 3 102):=by kernel_rfl
 have u1:=At hm w #[] 0 5 (.func (.func 202) #[] #[]) rfl;have u2:=At hm w #[⟨.int .i64 5,.func (.func 202) #[] #[],0⟩] 1 6 (.func (.func 201) #[] #[]) rfl;have u3:=At hm w #[⟨.int .i64 5,.func (.func 202) #[] #[],0⟩,⟨.int .i64 6,.func (.func 201) #[] #[],1⟩] 2 7 (.func (.func 203) #[] #[]) rfl;have u4:=At hm w #[⟨.int .i64 5,.func (.func 202) #[] #[],0⟩,⟨.int .i64 6,.func (.func 201) #[] #[],1⟩,⟨.int .i64 7,.func (.func 203) #[] #[],2⟩] 3 8 (.func (.func 204) #[] #[]) rfl;have u5:=At hm w #[⟨.int .i64 5,.func (.func 202) #[] #[],0⟩,⟨.int .i64 6,.func (.func 201) #[] #[],1⟩,⟨.int .i64 7,.func (.func 203) #[] #[],2⟩,⟨.int .i64 8,.func (.func 204) #[] #[],3⟩] 4 9 (.func (.func 205) #[] #[]) rfl;have lk:=ap9 hm w #[⟨.int .i64 5,.func (.func 202) #[] #[],0⟩,⟨.int .i64 6,.func (.func 201) #[] #[],1⟩,⟨.int .i64 7,.func (.func 203) #[] #[],2⟩,⟨.int .i64 8,.func (.func 204) #[] #[],3⟩,⟨.int .i64 9,.func (.func 205) #[] #[],4⟩] 5 op i v hn
 go_enter Tryz.func162,Tryz.ntmps162
 go_wp2
 go_ret;exact⟨rfl,(Ext.refl w).alloc _⟩
def Au{f F}(g:Int→Int→Int×Bool) op(hg:∀a b,jZ op a b=g a b)(hb:dw Tryz.prog f)(hok:aj f F)(hF:∀a b,F [.d<|.v<|.s<|.int .i64 a,.d<|.v<|.s<|.int .i64 b]=some ([],[.c<|.s<|.int .i64 (g a b).1,.c<|.s<|.bool (g a b).2],[])):eQ f (l8 op):=by
 refine⟨hb,fun args ob rs h hob=>?_⟩;unfold l8 at h;split at h
 ·simp only[y6,y8,yi]at h;obtain⟨a,e0,b,e1,rfl,rfl⟩:=h;simp only[cL,jr];rw[zn e0,zn e1,hg];exact Contract.data (hok _ [] _ _ (hF a b)<|by simp).1
 ·simp at h
def aqb:aj 162 Ny:=by
 have k5:eQ 202 (l8 5):=Au tg 5 (fun _ _=>rfl) (zl Tryz.func202 (by kernel_rfl)<|by kernel_rfl) ao0 fun a b=>rfl;have k6:eQ 201 (l8 6):=Au kC 6 (fun _ _=>rfl) (zl Tryz.func201 (by kernel_rfl)<|by kernel_rfl) Ya fun a b=>rfl;have k7:eQ 203 (l8 7):=Au th 7 (fun _ _=>rfl) (zl Tryz.func203 (by kernel_rfl)<|by kernel_rfl) ao8 fun a b=>rfl;have k8:eQ 204 (l8 8):=Au tj 8 (fun _ _=>rfl) (zl Tryz.func204 (by kernel_rfl)<|by kernel_rfl) apc fun a b=>rfl;have k9:eQ 205 (l8 9):=Au tn 9 (fun _ _=>rfl) (zl Tryz.func205 (by kernel_rfl)<|by kernel_rfl) apg fun a b=>rfl;intro args ob rs os h hob;unfold Ny at h;split at h
 ·rename_i x0;simp only[y6,y8,yi]at h;obtain⟨op,e0,rfl,rfl,rfl⟩:=h;obtain rfl:=zn e0;refine⟨?_,zl Tryz.func162 (by kernel_rfl)<|by kernel_rfl⟩;have hr:=hob _<|yl.2 rfl;have fin:∀(f:FuncId)(i:Nat),eQ f (l8 op)→Instr.findNow (.int .i64) (.int .i64 op) YM 0=some (some (i,.func (.func f) #[] #[]))→Contract Tryz.prog En 162 [.d<|.v<|.s<|.int .i64 op] [.c<|.fv<|l8 op] []:=by
   intro f i hk hn w St vs hbd hvs hld
   match vs,hvs with
   |[v0],⟨h0,_⟩=>
    obtain⟨rfl,-⟩:=tf h0;refine(aqa op i _ hn w).mono ?_;rintro e w' ⟨rfl,hx⟩;let gg:G:={β:=fun _=>0,lb:=fun _=>False,ω:=fun _ _=>none,tk:=fun _=>(none,0)};exact⟨_,rfl,hx,gg,fun _ h=>h,fun b o x _ h=>by simp[gg]at h,fun b o x h=>by simp[gg]at h,ap8 hk,fun k o h=>by simp at h⟩
  have hc:op=5∨op=6∨op=7∨op=8∨op=9:=by omega
  rcases hc with rfl|rfl|rfl|rfl|rfl
  ·exact fin _ 0 k5 rfl
  ·exact fin _ 1 k6 rfl
  ·exact fin _ 2 k7 rfl
  ·exact fin _ 3 k8 rfl
  ·exact fin _ 4 k9 rfl
 ·simp at h
def eE(a:Val):Value:=.agg #[.int .i64 a.kind,.int .i64 a.n,.string a.s]
def YN{w w1:World}{x y z}(h:Ext (((w.alloc x).alloc y).alloc z) w1):w1.heap[w.heap.size+1+1]?=some z:=by
 have e:(((w.alloc x).alloc y).alloc z).heap=((w.heap.push x).push y).push z:=rfl;have hs:((w.heap.push x).push y).size=w.heap.size+1+1:=by rw[sF,sF]
 refine(h.block (by rw[e,sF,hs];omega)).trans ?_;rw[e,←hs];exact P6
def E0{w:World}{b x y z t}(h:w.heap[b]?=some (.cells #[x,y,z] t)):w.cell? ⟨b,0,none⟩=some x∧w.cell? ⟨b,1,none⟩=some y∧w.cell? ⟨b,2,none⟩=some z∧∀o,w.frozen? ⟨b,o,none⟩=false:=by
 refine⟨?_,?_,?_,fun o=>?_⟩
 ·unfold World.cell?;simp only[h];rfl
 ·unfold World.cell?;simp only[h];rfl
 ·unfold World.cell?;simp only[h];rfl
 ·unfold World.frozen?;simp only[h];simp
def aqc op a b w(hn:(dX a b).2=false)(hld:Laid w)(hc:∀W,Laid W→Calls Tryz.prog 152 #[eE a,eE b] W fun e w'=>e=.returned (.tuple #[.int .i64 (dX a b).1,.bool false])∧Ext W w'):
 Calls Tryz.prog 164 #[.int .i64 op,eE a,eE b] w fun e w'=>e=.returned (eE z7)∧Ext w w':=by
 unfold eE at hc ⊢;have mixed:Tryz.prog.follows .mixedOrders=true:=by kernel_rfl
 have hmm:=@run_makeMap Tryz.prog
 go_enter Tryz.func164,Tryz.ntmps164
 go_wp2_with (go_at_call 152;go_loud (refine(hc _<|hld.ext<|(((Ext.refl w).alloc _).alloc _).alloc _).mono ?_;rintro e w1 ⟨rfl,h1⟩;have hz:=E0<|YN h1;obtain⟨z0,z1,z2,q0⟩:=hz))
 refine bodyPost_ret (v:=.agg #[.int .i64 0,.int .i64 0,.string ⟨#[]⟩]) (by unfold results;go_simp) rfl ?_;refine⟨rfl,?_⟩;have hx:Ext w w1:=((((Ext.refl w).alloc _).alloc _).alloc _).trans h1;exact((hx.setCell (by show w.heap.size≤w.heap.size+1+1;omega) _).setCell (by show w.heap.size≤w.heap.size+1+1;omega) _).setCell (by show w.heap.size≤w.heap.size+1+1;omega) _
def IS:∀(os:List Obj)(w:World),os.foldl World.alloc w={w with heap:=w.heap++os.toArray}
 |[],w=>by simp
 |o::os,w=>by
  rw[yq,IS os];unfold World.alloc;simp
def YO(os:List Obj)(w:World) m:(os.foldl World.alloc<|w.alloc m).heap=w.heap.push m++os.toArray:=by
 rw[IS];rfl
def YP(os:List Obj)(w:World) m:(os.foldl World.alloc<|w.alloc m).heap[w.heap.size]?=some m:=by
 rw[YO,Gp (by rw[sF];omega)];exact P6
def aqd(os:List Obj)(w:World) m m':{os.foldl World.alloc (w.alloc m)with heap:=(os.foldl World.alloc<|w.alloc m).heap.setIfInBounds w.heap.size m'}=os.foldl World.alloc (w.alloc m'):=by
 rw[IS,IS];unfold World.alloc;simp only;congr 1;apply PV;simp[vu]
def uR{mt et}(hm:Tryz.prog.underlying mt=some (.map 3 et))(os:List Obj)(w:World) es c k v(hn:Instr.findNow (.int .i64) (.int .i64 k) es.toList 0=some none):
 (Instr.mapUpdate mt (.map<|some w.heap.size) (.int .i64 k) v).run Tryz.prog (os.foldl World.alloc<|w.alloc<|.map es c)=.ok () (os.foldl World.alloc<|w.alloc<|.map (es.push {key:=.int .i64 k,val:=v,born:=c})<|c+1):=by
 have hd:Tryz.prog.underlying 3=some (.int .i64):=by kernel_rfl
 have hb:=YP os w<|.map es c;have hk:MapKept.IsKey (.int .i64) (.int .i64 k):=by simp[MapKept.IsKey]
 have hs:=aqd os w (.map es c)<|.map (es.push {key:=.int .i64 k,val:=v,born:=c})<|c+1;simp[Instr.mapUpdate,run_underlying hm,MapKept.run_getObj_map hb,MapKept.run_checkKey hd hk,MapKept.run_findKey hd hn,MapKept.run_setObj_map _ hb,Result.andThen];exact hs
def aqe{mt et}(hm:Tryz.prog.underlying mt=some (.map 3 et))(os:List Obj)(w:World) es c k i v(hn:Instr.findNow (.int .i64) (.int .i64 k) es.toList 0=some (some (i,v))):
 (Instr.lookup mt (.map<|some w.heap.size) (.int .i64 k) false).run Tryz.prog (os.foldl World.alloc<|w.alloc<|.map es c)=.ok v (os.foldl World.alloc<|w.alloc<|.map es c):=by
 have hd:Tryz.prog.underlying 3=some (.int .i64):=by kernel_rfl
 have hb:=YP os w<|.map es c;have hk:MapKept.IsKey (.int .i64) (.int .i64 k):=by simp[MapKept.IsKey]
 simp[Instr.lookup,run_underlying hm,MapKept.run_getObj_map hb,MapKept.run_checkKey hd hk,MapKept.run_findKey hd hn,Result.andThen]
def sgn(w:World):List (Int×Nat×List Int):=[(11,w.heap.size+1,[0]),(12,w.heap.size+1+1,[-1,1]),(13,w.heap.size+1+1+1,[-1]),(14,w.heap.size+1+1+1+1,[-1,0]),(15,w.heap.size+1+1+1+1+1,[1]),(16,w.heap.size+1+1+1+1+1+1,[0,1])]
def lG(w:World)(n:Nat):List MapEntry:=((sgn w).take n).zipIdx.map fun x=>⟨.int .i64 x.1.1,.slice (some ⟨x.1.2.1,0,none⟩) x.1.2.2.length x.1.2.2.length,x.2⟩
def bq(l:List Int):Obj:=.cells (l.map<|Value.int .i64).toArray 3
def aqf(os:List Obj)(w:World) m q o(h:os[q]?=some o):(os.foldl World.alloc<|w.alloc m).heap[w.heap.size+1+q]?=some o:=by
 rw[YO,Array.getElem?_append_right (by rw[sF];omega),sF];rw[show w.heap.size+1+q- (w.heap.size+1)=q by omega,List.getElem?_toArray];exact h
def aqg{W:World}{blk zs}(h:W.heap[blk]?=some (bq zs)):∀j,j<zs.length→W.cell? ⟨blk,0+j,none⟩=some (.int .i64<|zs.getD j 0):=by
 intro j hj;unfold World.cell?;simp only[h,bq];simp[hj,yf]
def aqh(os:List Obj) w m:Ext w (os.foldl World.alloc<|w.alloc m):=by
 have:∀(os:List Obj)(u:World),Ext w u→Ext w (os.foldl World.alloc u):=by
  intro os
  induction os with
  |nil=>intro u h;exact h
  |cons o os ih=>intro u h;exact ih _<|h.alloc o
 exact this os _<|(Ext.refl w).alloc m
def uS op(zs:List Int)(h:∀c:Int,ie op c=decide (c∈zs)) c:(zs.take zs.length).contains c=ie op c:=by
 rw[h,vp,Bb,List.contains_iff_mem,decide_eq_true_eq]
def xi(op:Int)(q:Nat)(zs:List Int)(hz2:zs.length≤2)(hq:[bq [0],bq [-1,1],bq [-1],bq [-1,0],bq [1],bq [0,1]][q]?=some (bq zs))(hfn:∀W:World,Instr.findNow (.int .i64) (.int .i64 op) (lG W 6) 0=some (some (q,.slice (some ⟨W.heap.size+1+q,0,none⟩) zs.length zs.length)))(hso:∀c:Int,(zs.take zs.length).contains c=ie op c)(a b:Val)(w:World)(hld:Laid w)(hc:∀W,Laid W→Calls Tryz.prog 152 #[eE a,eE b] W fun e w'=>e=.returned (.tuple #[.int .i64 (dX a b).1,.bool true])∧Ext W w')
 (hB:∀W x,Laid W→Calls Tryz.prog 39 #[.bool x] W fun e w'=>e=.returned (.agg #[.int .i64 (fK x).kind,.int .i64 (fK x).n,.string (fK x).s])∧Ext W w'):
 Calls Tryz.prog 164 #[.int .i64 op,eE a,eE b] w fun e w'=>e=.returned (eE<|fK<|ie op (dX a b).1)∧Ext w w':=by
 unfold eE at hc ⊢;have mixed:Tryz.prog.follows .mixedOrders=true:=by kernel_rfl
 have hmm:=@run_makeMap Tryz.prog;have hm:Tryz.prog.underlying 193=some (.map 3 42):=by kernel_rfl
 go_enter Tryz.func164,Tryz.ntmps164
 go_wp2_with (first
  |(go_at_call 152;refine(hc _<|hld.ext<|(((Ext.refl w).alloc _).alloc _).alloc _).mono ?_;rintro e w1 ⟨rfl,h1⟩;have hz:=YN h1;obtain⟨z0,z1,z2,q0⟩:=E0 hz;have hx:Ext w w1:=((((Ext.refl w).alloc _).alloc _).alloc _).trans h1;have u1:=uR hm [bq [0]] w1 (lG w1 0).toArray 0 11 (.slice (some ⟨w1.heap.size+1,0,none⟩) 1 1) rfl;have u2:=uR hm [bq [0],bq [-1,1]] w1 (lG w1 1).toArray 1 12 (.slice (some ⟨w1.heap.size+1+1,0,none⟩) 2 2) rfl;have u3:=uR hm [bq [0],bq [-1,1],bq [-1]] w1 (lG w1 2).toArray 2 13 (.slice (some ⟨w1.heap.size+1+1+1,0,none⟩) 1 1) rfl;have u4:=uR hm [bq [0],bq [-1,1],bq [-1],bq [-1,0]] w1 (lG w1 3).toArray 3 14 (.slice (some ⟨w1.heap.size+1+1+1+1,0,none⟩) 2 2) rfl;have u5:=uR hm [bq [0],bq [-1,1],bq [-1],bq [-1,0],bq [1]] w1 (lG w1 4).toArray 4 15 (.slice (some ⟨w1.heap.size+1+1+1+1+1,0,none⟩) 1 1) rfl;have u6:=uR hm [bq [0],bq [-1,1],bq [-1],bq [-1,0],bq [1],bq [0,1]] w1 (lG w1 5).toArray 5 16 (.slice (some ⟨w1.heap.size+1+1+1+1+1+1,0,none⟩) 2 2) rfl;have lk:=aqe hm [bq [0],bq [-1,1],bq [-1],bq [-1,0],bq [1],bq [0,1]] w1 (lG w1 6).toArray 6 op q (.slice (some ⟨w1.heap.size+1+q,0,none⟩) zs.length zs.length)<|hfn w1;have hro:=aqg<|aqf [bq [0],bq [-1,1],bq [-1],bq [-1,0],bq [1],bq [0,1]] w1 (.map (lG w1 6).toArray 6) q (bq zs) hq;have hce:=aqh [bq [0],bq [-1,1],bq [-1],bq [-1,0],bq [1],bq [0,1]] w1<|.map (lG w1 6).toArray 6;simp only[yq,Bc,lG,sgn,bq,List.take_zero,List.take_succ_cons,List.zipIdx_cons,List.zipIdx_nil,cL,jr,yz,nN,List.push_toArray,eT,yr,iE,Nat.reduceAdd]at u1 u2 u3 u4 u5 u6 lk hro hce)
  |(go_at_call 206;refine(Tryz.slices_Contains_int (w1.heap.size+1+q) 0 zs.length zs.length zs (dX a b).1 _ (by omega) (by omega) (fun j hj=>by rw[iE];exact hro j hj)).mono ?_;rintro e w2 ⟨rfl,rfl⟩;simp only[hso])
  |(go_at_call 39;refine(hB _ _ (hld.ext (hx.trans hce))).mono ?_;rintro e w3 ⟨rfl,h3⟩;have hlt:w.heap.size+1+1<w1.heap.size:=vz (p:=⟨w.heap.size+1+1,0,none⟩) z0;have h4:=hce.trans h3;have hz3:=(h4.block hlt).trans hz;obtain⟨y0,y1,y2,p0⟩:=E0 hz3))
 refine bodyPost_ret (v:=.agg #[.int .i64 (fK<|ie op (dX a b).1).kind,.int .i64 (fK<|ie op (dX a b).1).n,.string (fK<|ie op (dX a b).1).s]) (by unfold results;go_simp) rfl ?_;refine⟨rfl,?_⟩;have h5:=hx.trans h4;exact((h5.setCell (by show w.heap.size≤w.heap.size+1+1;omega) _).setCell (by show w.heap.size≤w.heap.size+1+1;omega) _).setCell (by show w.heap.size≤w.heap.size+1+1;omega) _
def YQ{St w v}{a:Val}(h:DRel Tryz.prog En St w v (.d<|.agg<|enc .val a)):v=eE a∧WI a.kind∧WI a.n∧cm a.s:=by
 obtain⟨arr,rfl,hall⟩:=h;have e:arr=arr.toList.toArray:=y3q.symm;rw[e];generalize arr.toList=l at hall
 match l,hall with
 |[x0,x1,x2],⟨h0,h1,h2,_⟩=>
  have g0:VRel En St w x0 (.s<|.int .i64 a.kind):=h0;have g1:VRel En St w x1 (.s<|.int .i64 a.n):=h1;have g2:VRel En St w x2 (.s<|.string a.s):=h2;cases g0 with
  |s _ k0=>cases g1 with
   |s _ k1=>cases g2 with
    |s _ k2=>exact⟨rfl,oneC_i64.1 k0,oneC_i64.1 k1,oneC_str.1 k2⟩
def YR{St w a}(h1:WI a.kind)(h2:WI a.n)(h3:cm a.s):DRel Tryz.prog En St w (eE a) (.d<|.agg<|enc .val a):=
 ⟨_,rfl,.s _<|oneC_i64.2 h1,.s _<|oneC_i64.2 h2,.s _<|oneC_str.2 h3,trivial⟩
def aqi{a b}(ha:WI a.kind∧WI a.n∧cm a.s)(hb:WI b.kind∧WI b.n∧cm b.s) W(hlW:Laid W):Calls Tryz.prog 152 #[eE a,eE b] W fun e w'=>e=.returned (.tuple #[.int .i64 (dX a b).1,.bool (dX a b).2])∧Ext W w':=by
 have hF:w4 [.d<|.agg<|enc .val a,.d<|.agg<|enc .val b]=some ([],lC<|cj a b,lD<|cj a b):=by
  unfold w4;simp only[ux];rfl
 have hc:=(QE _ _ _ _ hF<|by simp).1 W (fun _ _=>False) [eE a,eE b] (fun _ _ h=>h.elim) ⟨YR ha.1 ha.2.1 ha.2.2,YR hb.1 hb.2.1 hb.2.2,trivial⟩ hlW;refine hc.mono ?_;rintro e w' ⟨v,rfl,hx,g,_,_,_,hr,_⟩;refine⟨?_,hx⟩;rw[aoM]at hr;obtain⟨arr,rfl,hall⟩:=hr;have e:arr=arr.toList.toArray:=y3q.symm;rw[e];generalize arr.toList=l at hall
 match l,hall with
 |[x0,x1],⟨h0,h1,_⟩=>
  obtain⟨rfl,_⟩:=h0;obtain⟨rfl,_⟩:=h1;rfl
def xj W x(hlW:Laid W):Calls Tryz.prog 39 #[.bool x] W fun e w'=>e=.returned (.agg #[.int .i64 (fK x).kind,.int .i64 (fK x).n,.string (fK x).s])∧Ext W w':=by
 have hF:xh [.d<|.v<|cb x]=some ([],kT<|cE x,kU<|cE x):=by
  unfold xh;simp only[ain];rfl
 have hc:=(QK _ _ _ _ hF<|by simp).1 W (fun _ _=>False) [.bool x] (fun _ _ h=>h.elim) ⟨.s _ rfl,trivial⟩ hlW;refine hc.mono ?_;rintro e w' ⟨v,rfl,hx,g,_,_,_,hr,_⟩;refine⟨?_,hx⟩;rw[IQ]at hr;obtain⟨arr,rfl,hall⟩:=hr;have e:arr=arr.toList.toArray:=y3q.symm;rw[e];generalize arr.toList=l at hall
 match l,hall with
 |[x0,x1,x2],⟨h0,h1,h2,_⟩=>
  obtain⟨rfl,_⟩:=h0;obtain⟨rfl,_⟩:=h1;obtain⟨rfl,_⟩:=h2;rfl
def aqj op a b:WI (dO op a b).kind∧WI (dO op a b).n∧cm (dO op a b).s:=by
 unfold dO fK z7;split
 ·refine⟨by simp only;omega,?_,by show(0:Nat)≤_;omega⟩;simp only;split<;>omega
 ·exact⟨by simp only;omega,by simp only;omega,by show(0:Nat)≤_;omega⟩
def zy3:aj 164 IR:=by
 intro args ob rs os h hob;unfold IR at h;split at h
 ·rename_i x0 x1 x2;simp only[y6,y8,yi]at h;obtain⟨op,e0,a,e1,b,e2,rfl,rfl,rfl⟩:=h;obtain rfl:=zn e0;obtain rfl:=zo e1;obtain rfl:=zo e2;refine⟨?_,zl Tryz.func164 (by kernel_rfl)<|by kernel_rfl⟩;have hr:=hob _<|yl.2 rfl;intro w St vs hbd hvs hld
  match vs,hvs with
  |[v0,v1,v2],⟨h0,h1,h2,_⟩=>
   obtain⟨rfl,-⟩:=tf h0;obtain⟨rfl,ha⟩:=YQ h1;obtain⟨rfl,hb⟩:=YQ h2;have hc:=aqi ha hb;have main:Calls Tryz.prog 164 #[.int .i64 op,eE a,eE b] w fun e w'=>e=.returned (eE<|dO op a b)∧Ext w w':=by
    unfold dO;cases hk:(dX a b).2
    ·rw[if_neg<|by decide];rw[hk]at hc;exact aqc op a b w hk hld hc
    ·rw[if_pos rfl];rw[hk]at hc;have hcase:op=11∨op=12∨op=13∨op=14∨op=15∨op=16:=by omega
     rcases hcase with rfl|rfl|rfl|rfl|rfl|rfl
     ·exact xi 11 0 [0] (by decide) rfl (fun _=>rfl) (uS _ _ fun c=>by simp[ie]) a b w hld hc xj
     ·exact xi 12 1 [-1,1] (by decide) rfl (fun _=>rfl) (uS _ _ fun c=>by simp[ie]) a b w hld hc xj
     ·exact xi 13 2 [-1] (by decide) rfl (fun _=>rfl) (uS _ _ fun c=>by simp[ie]) a b w hld hc xj
     ·exact xi 14 3 [-1,0] (by decide) rfl (fun _=>rfl) (uS _ _ fun c=>by simp[ie]) a b w hld hc xj
     ·exact xi 15 4 [1] (by decide) rfl (fun _=>rfl) (uS _ _ fun c=>by simp[ie]) a b w hld hc xj
     ·exact xi 16 5 [0,1] (by decide) rfl (fun _=>rfl) (uS _ _ fun c=>by simp[ie]) a b w hld hc xj
   refine main.mono ?_;rintro e w' ⟨rfl,hx⟩;obtain⟨k0,k1,k2⟩:=aqj op a b;let gg:G:={β:=fun _=>0,lb:=fun _=>False,ω:=fun _ _=>none,tk:=fun _=>(none,0)};exact⟨_,rfl,hx,gg,fun _ h=>h,fun b o x _ h=>by simp[gg]at h,fun b o x h=>by simp[gg]at h,⟨_,rfl,⟨rfl,oneC_i64.2 k0⟩,⟨rfl,oneC_i64.2 k1⟩,⟨rfl,oneC_str.2 k2⟩,trivial⟩,fun k o h=>by simp at h⟩
 ·simp at h
def lH(s:ByteArray)(j:Nat):UInt8:=s.data.toList.getD j 0
structure RowT(w:World)(s:ByteArray)(f b:Int)(k:Nat)(wr:World):Prop where
 ext:Ext w wr
 cell:∀j,j<s.size→wr.cell? ⟨w.heap.size,j,none⟩=some (.int .u8 ((if j<k then ig f b (lH s j)else lH s j).toNat:Nat))
 fr:∀j,j<s.size→wr.frozen? ⟨w.heap.size,j,none⟩=false
def aqk w e s:Ext w (Lib.bytesWorld w e s):=by
 have h:Ext w ((w.drew.alloc<|.cells (Lib.bytesCells w e s) e)):=((Ext.refl w).drew).alloc _;have hs:=Lib.bytesWorld_size w e s;refine⟨rfl,rfl,rfl,by omega,fun k hk=>Lib.bytesWorld_at_old w e s k hk⟩
def YS(w:World)(e:TypeId)(s:ByteArray)(f b:Int):RowT w s f b 0 (Lib.bytesWorld w e s) where
 ext:=aqk w e s
 cell j hj:=by
  rw[Lib.bytesWorld_cell w e s j hj,if_neg<|by omega];rfl
 fr j hj:=by
  unfold World.frozen?;simp only[Lib.bytesWorld_at_new];have:s.size≤(Lib.bytesCells w e s).size:=by
   unfold Lib.bytesCells;rw[Array.size_append,Array.size_map];exact P0 _ _
  simp only[Bool.and_eq_false_iff,decide_eq_false_iff_not];omega
theorem RowT.step{w wr:World}{s:ByteArray}{f b:Int}{k:Nat}(h:RowT w s f b k wr)(hk:k<s.size)(v:Value)(hv:v=.int .u8 ((ig f b<|lH s k).toNat:Nat)):RowT w s f b (k+1) (wr.setCell ⟨w.heap.size,k,none⟩ v) where
 ext:=h.ext.setCell (y7 _) _
 cell j hj:=by
  by_cases e:j=k
  ·subst e;rw[World.cell?_setCell_same _ _ _<|h.cell j hj,if_pos<|by omega,hv]
  ·rw[World.cell?_setCell_other _ _ _ _ (by simp only[ne_eq,Addr.mk.injEq,not_and];omega),h.cell j hj];by_cases hjk:j<k
   ·rw[if_pos hjk,if_pos<|by omega]
   ·rw[if_neg hjk,if_neg<|by omega]
 fr j hj:=by rw[World.frozen?_setCell];exact h.fr j hj
def RowT.stay{w wr:World}{s:ByteArray}{f b:Int}{k:Nat}(h:RowT w s f b k wr)(hv:ig f b (lH s k)=lH s k):RowT w s f b (k+1) wr where
 ext:=h.ext
 cell j hj:=by
  rw[h.cell j hj];by_cases e:j=k
  ·subst e;rw[if_neg<|by omega,if_pos<|by omega,hv]
  ·by_cases hjk:j<k
   ·rw[if_pos hjk,if_pos<|by omega]
   ·rw[if_neg hjk,if_neg<|by omega]
 fr:=h.fr
def aql s f b w(hs:s.size≤2000000):Calls Tryz.prog 212 #[.string s,.int .u8 f,.int .i64 b] w fun e w'=>e=.returned (.string<|fX s f b)∧Ext w w':=by
 have h9:Tryz.prog.underlying 9=some .string:=by kernel_rfl
 have hB:Tryz.prog.underlying 201=some (.slice 5):=by kernel_rfl
 have h5:Tryz.prog.underlying 5=some (.int .u8):=by kernel_rfl
 have hconv:=Lib.run_convert_string_bytes (P:=Tryz.prog) w 9 201 5 s h9 hB h5;have hst:=Lib.hid<|YS w 5 s f b;generalize Lib.bytesWorld w 5 s=w1 at hconv hst;generalize grownCap w s.size 0 5=cp at hconv
 go_enter Tryz.func212,Tryz.ntmps212
 go_wp2_with fail
 go_loopw [14] (fun i wr=>∃k:Nat,k≤s.size∧i=.int .i64 k∧RowT w s f b k wr) (fun i _=>s.size- (intOf i).toNat)
 case atStart=>exact⟨0,by omega,rfl,hst.out⟩
 case round=>
  obtain⟨k,hk,rfl,hr⟩:=hrel;by_cases hlt:k<s.size
  ·have e1:=hr.cell k hlt;have e2:=hr.fr k hlt;rw[if_neg<|Gq _]at e1;have HR:=Lib.hid hr;clear hr;generalize hc:lH s k=c at e1
   go_wp2_with fail
   ·refine⟨⟨k+1,by omega,by simp,HR.out.step hlt _ ?_⟩,by simp[intOf];omega⟩;rename_i h1 h2;unfold ig;rw[hc,if_pos ⟨h1,by rw[IntKind.wrap_u8];exact h2⟩,IntKind.wrap_u8];have e:IntKind.i64.wrap ((c.toNat:Int)+b)=wrap64 ((c.toNat:Int)+b):=by rw[IntKind.wrap_i64];unfold wrap64;rfl
    rw[e];generalize wrap64 ((c.toNat:Int)+b)=y;congr 1;have h3:(UInt8.ofNat (y % 256).toNat).toNat=(y % 256).toNat % 256:=UInt8.toNat_ofNat';rw[h3];omega
   ·refine⟨⟨k+1,by omega,by simp,HR.out.stay ?_⟩,by simp[intOf];omega⟩;unfold ig;rw[hc,if_neg];rintro⟨_,h⟩;rw[IntKind.wrap_u8]at h;omega
   ·refine⟨⟨k+1,by omega,by simp,HR.out.stay ?_⟩,by simp[intOf];omega⟩;unfold ig;rw[hc,if_neg];rintro⟨h,_⟩;omega
  ·have hke:k=s.size:=by omega
   subst hke
   have hback:=run_convert_bytes_back (P:=Tryz.prog) wr 201 9 5 ⟨w.heap.size,0,none⟩ cp (s.toList.map (ig f b)) hB h5 h9 (fun j hj=>by
    rw[yy,eK]at hj;have:=hr.cell j hj;rw[if_pos hj]at this;have ea:(⟨w.heap.size,0,none⟩:Addr).add j=⟨w.heap.size,j,none⟩:=by unfold Addr.add;split<;>simp_all
    rw[ea,this,Ba];congr 4;unfold lH;rw[yf,ya (by rw[iz];exact hj),Gi]
    simp only[ByteArray.toList_eq])
   rw[yy,eK]at hback;have hx:=hr.ext;clear hr
   go_wp2_with fail
   go_ret;exact⟨rfl,hx⟩
def aqm:aj 212 QL:=by
 intro args ob rs os h hob;unfold QL at h;split at h
 ·rename_i x0 x1 x2;simp only[y6,y8,yi]at h;obtain⟨s,e0,f,e1,b,e2,rfl,rfl,rfl⟩:=h;obtain rfl:=cN e0;obtain rfl:=zn e1;obtain rfl:=zn e2;refine⟨?_,zl Tryz.func212 (by kernel_rfl)<|by kernel_rfl⟩;have hr:=hob _<|yl.2 rfl;intro w St vs hbd hvs hld
  match vs,hvs with
  |[v0,v1,v2],⟨h0,h1,h2,_⟩=>
   obtain⟨rfl,hs⟩:=wW h0;obtain⟨rfl,-⟩:=tf h1;obtain⟨rfl,-⟩:=tf h2;refine(aql s f b w hr).mono ?_;rintro e w' ⟨rfl,hx⟩;let gg:G:={β:=fun _=>0,lb:=fun _=>False,ω:=fun _ _=>none,tk:=fun _=>(none,0)};exact⟨_,rfl,hx,gg,fun _ h=>h,fun b o x _ h=>by simp[gg]at h,fun b o x h=>by simp[gg]at h,⟨rfl,oneC_str.2 (by rw[Cz];exact hs)⟩,fun k o h=>by simp at h⟩
 ·simp at h
end B
namespace B
open Go Go.RowKit
set_option maxRecDepth 100000
noncomputable section
attribute [local irreducible] aB bk zw br aK b9 aR bu bA
def YT(s:ByteArray):Option (RF Un):=aw av aN Tryz.f163 0 [.d] [.d<|.v<|cs s]
def aqn(s):YT s=some (aq<|{kind:=(3:Int),n:=(0:Int),s:=s}):=ah
def fL(s:ByteArray):Val:=
 ({kind:=(3:Int),n:=(0:Int),s:=s})
def aqo s:YT s=some (aq<|fL s):=by rw[aqn];unfold fL;simp only[z8];repeat(first|rfl|split)
def Nz:au Un:=aQ cB fun s=>([],aq<|fL s)
def YU:aj 163 Nz:=aU cN (M:=av) rfl trivial Tryz.func163 fun s=>GiF.r fun _ _=>aqo s
def YV(v:Val)(kind:Int):Option (RF Un):=aw av aN Tryz.f200 0 [.d] [.d<|.agg<|enc Ty.val v,.box [.v<|.s<|.int .i64 kind]]
def aqp(v kind):YV v kind=some (ak<|v.kind !=kind):=ah
def oR(v:Val)(kind:Int):Bool:=v.kind !=kind
def aqq(v:Val) kind(_hv:WS .val v)(_hk:WI kind)(_h:True):YV v kind=some (ak<|oR v kind):=by
 rw[aqp];rfl
def NA:List (List<|DC Un)→Option (FV Un):=fun dl=>match dl with
 |[b0]=>(bI .i64 b0).bind fun kind=>some<|cX (fun v=>True) fun v=>oR v kind
 |_=>none
def aqr:kR 200 NA:=by
 refine⟨zl Tryz.func200 (by kernel_rfl)<|by kernel_rfl,fun dl φ args ob rs hF hφ hob=>?_⟩;unfold NA at hF;split at hF
 ·simp only[y6,y8]at hF;obtain⟨kind,g0,hE⟩:=hF;subst hE;obtain rfl:=ais g0;unfold cX at hφ;split at hφ
  ·simp only[y6,y8,yi]at hφ;obtain⟨v,e0,rfl,rfl⟩:=hφ;simp only[cL,jr,eT,yr];rw[zo e0];exact Contract.data<|dz (M:=av) rfl (cM (l1:=[]) (l2:=[]) (l3:=[]) (l4:=[]) (l5:=[]) trivial trivial trivial trivial trivial) Tryz.func200 (by kernel_rfl) aN 0 [.d] fun hwf=>(aqq v kind (bj hwf (a:=.d<|.agg<|enc Ty.val v)<|y9 (i:=0) rfl) (bj hwf (a:=.box [.v<|.s<|.int .i64 kind])<|y9 (i:=1) rfl)<|hob _<|y9 (i:=0) rfl)
  ·simp at hφ
 ·simp at hF
def YW:Mc Un:=az [(199,Nx)] [] [(200,NA)] [] []
def YX(l:List Val)(kind:Int):Option (RF Un):=aw YW aN Tryz.f157 0 [.d] [.d<|.v<|.dat (U:=Un) Ty.val l,.d<|.v<|.s<|.int .i64 kind]
def aqs(l kind):YX l kind=ae ((cX (fun v=>True) fun v=>oR v kind)=cX (dy<|cX (fun v=>True) fun v=>oR v kind) (eU<|cX (fun v=>True) fun v=>oR v kind)) (ae (oQ (dy<|cX (fun v=>True) fun v=>oR v kind) l)<|some<|ak<|!xg l (dy<|cX (fun v=>True) fun v=>oR v kind) (eU<|cX (fun v=>True) fun v=>oR v kind)):=ah
def eM(l:List Val)(kind:Int):Bool:=l.all fun v=>v.kind==kind
def aqt(l:List Val) kind(_hl:WL .val l)(_hk:WI kind):YX l kind=some (ak<|eM l kind):=by
 rw[aqs];simp only[Qj,Qi];rw[z6 trivial,z6<|show oQ _ l from fun _ _=>trivial];unfold eM xg oR;congr 2;clear _hl
 induction l with
 |nil=>rfl
 |cons x l ih=>rw[List.any_cons,fb,Bool.not_or,ih];simp[bne]
def YY:au Un:=aD (dL .val) (dI .i64) fun l kind=>([],ak<|eM l kind)
def aqu:aj 157 YY:=aJ zi zn (M:=YW) (h3:=⟨aqr,trivial⟩) rfl ⟨ap5,trivial⟩ Tryz.func157 fun l kind=>GiF.r fun w _=>aqt l kind (am w 0)<|am w 1
def YZ:Mc Un:=az [(32,vJ)] [] [] [] []
def Y0(n:Int)(ok:Bool):Option (RF Un):=aw YZ aN Tryz.f158 0 [.d] [.d<|.v<|.s<|.int .i64 n,.d<|.v<|cb ok]
def aqv(n ok):Y0 n ok=af (!ok) (some<|aq z7) (some<|aq<|zk n):=ah
def gp(n:Int)(ok:Bool):Val:=
 if(!ok)=true then
  (z7)
 else
  (zk n)
def aqw n ok:Y0 n ok=some (aq<|gp n ok):=by rw[aqv];unfold gp;simp only[z8];repeat(first|rfl|split)
def QM:au Un:=aD (dI .i64) dB fun n ok=>([],aq<|gp n ok)
def Y1:aj 158 QM:=aJ zn mu (M:=YZ) rfl ⟨Bu,trivial⟩ Tryz.func158 fun n ok=>GiF.r fun _ _=>aqw n ok
def Y2:Mc Un:=az [(161,tq),(155,w9)] [] [] [] []
def Y3(f:Int→Int→Int)(a:Val)(b:Val):Option (RF Un):=aw Y2 aN Tryz.f165 0 [.d] [.fn<|kl f,.d<|.agg<|enc Ty.val a,.d<|.agg<|enc Ty.val b]
def aqx(f a b):Y3 f a b=some (nG<|ib<|f (dN a)<|dN b):=ah
def mW(f:Int→Int→Int)(a b:Val):Val:=ib<|f (dN a)<|dN b
def aqy f(a b:Val)(_ha:WS .val a)(_hb:WS .val b):Y3 f a b=some (nG<|mW f a b):=by
 rw[aqx];rfl
def QN:au Un:=fun args=>match args with
 |[x0,x1,x2]=>(dF x0).bind fun f=>(dS .val x1).bind fun a=>(dS .val x2).bind fun b=>some ([f=(kl<|gP f)],kT<|mW (gP f) a b,kU<|mW (gP f) a b)
 |_=>none
def aqz:aj 165 QN:=by
 intro args ob rs os h hob;unfold QN at h;split at h
 ·simp only[y6,y8,yi]at h;obtain⟨f,e0,a,e1,b,e2,rfl,rfl,rfl⟩:=h;obtain rfl:=mv e0;obtain rfl:=zo e1;obtain rfl:=zo e2;have hfv0:=hob _<|y9 (i:=0) rfl;generalize gP f=pp0 at*;subst hfv0;exact⟨dz (M:=Y2) rfl (cM (l1:=[(161,tq),(155,w9)]) (l2:=[]) (l3:=[]) (l4:=[]) (l5:=[]) ⟨Cv,IK,trivial⟩ trivial trivial trivial trivial) Tryz.func165 (by kernel_rfl) aN 0 [.d] fun hwf=>(aqy pp0 a b (bj hwf (a:=.d<|.agg<|enc Ty.val a)<|y9 (i:=1) rfl)<|bj hwf (a:=.d<|.agg<|enc Ty.val b)<|y9 (i:=2) rfl),zl Tryz.func165 (by kernel_rfl)<|by kernel_rfl⟩
 ·simp at h
def IT:Mc Un:=az [(164,IR),(161,tq),(208,Yw),(155,w9)] [] [] [] []
def QO:Nat→NS:=aO [(3,{ts:=bl 25 1844,bs:=bl 25 20,nm:=[(.sl 5,100)]})] false
def xk(v:Val)(l:List Val)(v0:Int)(v1:List Int):S Un:=(st 25 25 101 0 [(2,ax 2),(4,ax 4),(5,ao 100),(8,al .val l),(9,ai (↑l.length:Int)),(10,ai v0)] [(2,bg .val v),(4,bg .val z7)] [(100,some ⟨(0:Nat),Ty.int,v1,some (0:Nat),true⟩)])
def IU:S Un→Option (EX Un):=aC IT QO Tryz.f168 [1,1,0,1,2,2] 3
def Y4:Exit→S Un→Option (RF Un):=aE IT QO Tryz.f168 [1,1,0,1,2] [.d]
def Y5(v:Val)(l:List Val):Option (RF Un):=aw IT QO Tryz.f168 1 [.d] [.d<|.agg<|enc Ty.val v,.d<|.v<|.dat (U:=Un) Ty.val l]
def aqA(v l):Y5 v l=(IU<|xk v l (0:Int)<|[]).bind (zd Y4):=ah
def Y6(v l v0 v1):IU (xk v l v0 v1)=af (decide<|v0<(↑l.length:Int)) (ae (0≤v0∧v0<(↑l.length:Int))<|ae ((11:Int)≤(11:Int)∧(11:Int)≤(16:Int))<|ae ((v1.length+[dN<|dO (11:Int) v<|l.getD v0.toNat z7].length)*(8:Nat)≤ze)<|IU<|xk v l (IntKind.i64.wrap<|v0+1)<|v1++[dN<|dO (11:Int) v<|l.getD v0.toNat z7]) (some (.exit 0,(xk v l v0 v1))):=aF
def aqB(v l v0 v1):Y4 (.exit 0) (xk v l v0 v1)=some (aq<|ib<|Aq v1):=ah
def tt(v:Val)(l:List Val):Val:=ib<|Aq<|l.map fun x=>dN<|dO 11 v x
def ij{α β:Type} f:∀(l:List α)(o:List β),l.foldl (fun o x=>o++[f x]) o=o++l.map f
 |[],o=>by simp
 |x::l,o=>by rw[yq,ij f l];simp
def aqC(v:Val)(l:List Val)(_hv:WS .val v)(hl:WL .val l)(h:l.length≤2000000):Y5 v l=some (aq<|tt v l):=by
 obtain⟨lp,_⟩:=zy (e:=.exit 0) (L:=IU) (st:=fun(o:List Int) i=>xk v l i o) (l:=l) (d:=z7) (g:=fun o x=>o++[dN<|dO 11 v x]) (fun i o=>o.length=i) hl.len
  (fun o i x hi hx hI=>by
   have hI':o.length=i:=hI;refine⟨by show(o++[_]).length=i+1;rw[yb,yd];omega,?_⟩;rw[Y6];simp only[z8,hi,decide_true,if_true,and_true,y5,hx]
   rw[z6 (by omega),z6 (by omega),z6 (by unfold ze;rw[yd];omega)])
  (fun o _=>by rw[Y6];simp[z8]) [] rfl
 rw[ij,yr]at lp;rw[aqA];refine(zf lp).trans ?_;rw[aqB];rfl
def Y7:au Un:=aD (dS .val) (dL .val) fun v l=>([l.length≤2000000],aq<|tt v l)
def aqD:aj 168 Y7:=aJ zo zi (M:=IT) rfl ⟨zy3,Cv,apG,IK,trivial⟩ Tryz.func168 fun v l=>GiF.r fun w o=>aqC v l (am w 0) (am w 1)<|aA o 0
def IV:Mc Un:=az [(161,tq)] [] [] [] []
def QP:Nat→NS:=aO [(1,{ts:=bl 23 5,bs:=bl 23 4,nm:=[],gb:=[2]})] false
def gq(b2:Val)(v0:List Val):S Un:=(st 23 23 92 0 [(0,al .val v0),(2,ax 2)] [(2,bg .val b2)] [])
def oS:S Un→Option (EX Un):=aC IV QP Tryz.f169 [1,0,2,2] 1
def IW:Exit→S Un→Option (RF Un):=aE IV QP Tryz.f169 [1,0,2] [.d]
def Y8(l:List Val):Option (RF Un):=aw IV QP Tryz.f169 0 [.d] [.d<|.v<|.dat (U:=Un) Ty.val l]
def aqE(l):Y8 l=(oS<|gq z7 l).bind (zd IW):=ah
def IX(b2 v0):oS (gq b2 v0)=af (decide<|(↑v0.length:Int)>(1:Int)) (ae ((0:Int)≤(0:Int)∧(0:Int)<(↑v0.length:Int))<|af (dN (v0.getD 0 z7)==2) (ae ((0:Int)≤(1:Int)∧(1:Int)<(↑v0.length:Int))<|some (.ret,(gq (v0.getD 1 z7) v0)))<|ae ((0:Int)≤(2:Int)∧(2:Int)≤(↑v0.length:Int))<|oS<|gq b2<|List.drop 2 v0) (some (.exit 0,(gq b2 v0))):=aF
def aqF(b2 v0):IW .ret (gq b2 v0)=some (aq b2):=ah
def zy4(b2 v0):IW (.exit 0) (gq b2 v0)=af ((↑v0.length:Int)==(1:Int)) (ae ((0:Int)≤(0:Int)∧(0:Int)<(↑v0.length:Int))<|some<|aq<|v0.getD 0 z7) (some<|aq z7):=ah
def mX:List Val→Val
 |[]=>z7
 |[x]=>x
 |c::v::r=>if dN c=2 then v else mX r
def IY(l:List Val):Val:=mX l
def aqG:∀(n:Nat)(l:List Val),l.length≤n→(oS<|gq z7 l).bind (zd IW)=some (aq<|mX l):=by
 intro n
 induction n using Nat.strongRecOn with
 |ind n ih=>
  intro l hn
  match l,hn with
  |[],_=>
   have e:oS (gq z7 [])=some (.exit 0,gq z7 []):=by rw[IX];rfl
   rw[zf e,zy4];rfl
  |[x],_=>
   have e:oS (gq z7 [x])=some (.exit 0,gq z7 [x]):=by rw[IX];rfl
   rw[zf e,zy4,z8,if_pos<|by simp,z6<|by simp];rfl
  |c::v::r,hn=>
   simp only[yz]at hn;have hg0:(c::v::r).getD 0 z7=c:=rfl;have hg1:(c::v::r).getD 1 z7=v:=rfl;have hd:List.drop 2 (c::v::r)=r:=rfl;have hl:((c::v::r).length:Int)=(r.length:Int)+2:=by simp only[yz];omega
   by_cases h:dN c=2
   ·have e:oS (gq z7<|c::v::r)=some (.ret,gq v<|c::v::r):=by
     rw[IX,hg0,hg1,hl,z8,if_pos (by simp;omega),z6<|by omega,z8,if_pos<|by simpa using h,z6<|by omega]
    rw[zf e,aqF];simp only[mX];rw[if_pos h]
   ·have e:oS (gq z7<|c::v::r)=oS (gq z7 r):=by
     rw[IX,hg0,hg1,hl,hd,z8,if_pos (by simp;omega),z6<|by omega,z8,if_neg<|by simpa using h,z6<|by omega]
    rw[e,ih r.length (by omega) r<|y7 _];simp only[mX];rw[if_neg h]
def aqH(l:List Val)(_hl:WL .val l):Y8 l=some (aq<|IY l):=by
 rw[aqE];exact aqG _ l<|y7 _
def Y9:au Un:=aQ (dL .val) fun l=>([],aq<|IY l)
def aqI:aj 169 Y9:=aU zi (M:=IV) rfl ⟨Cv,trivial⟩ Tryz.func169 fun l=>GiF.r fun w _=>aqH l<|am w 0
def Za(v:Val):Option (RF Un):=aw av aN Tryz.f210 0 [.d] [.d<|.agg<|enc Ty.val v]
def aqJ(v):Za v=some (jo<|v.kind !=0):=ah
def lI(v:Val):Bool:=
 (v.kind !=(0:Int))
def aqK v:Za v=some (jo<|lI v):=by rw[aqJ];unfold lI;simp only[z8];repeat(first|rfl|split)
def E2:au Un:=fun args=>match args with
 |[x0]=>(dS .val x0).bind fun v=>some ([],bm<|lI v,bp<|lI v)
 |_=>none
def aqL:aj 210 E2:=by
 intro args ob rs os h hob;unfold E2 at h;split at h
 ·simp only[y6,y8,yi]at h;obtain⟨v,e0,rfl,rfl,rfl⟩:=h;obtain rfl:=zo e0;exact⟨dz (M:=av) rfl (cM (l1:=[]) (l2:=[]) (l3:=[]) (l4:=[]) (l5:=[]) trivial trivial trivial trivial trivial) Tryz.func210 (by kernel_rfl) aN 0 [.d] fun hwf=>(aqK v),zl Tryz.func210 (by kernel_rfl)<|by kernel_rfl⟩
 ·simp at h
def ej:FV Un:=cX (fun v=>True) fun v=>lI v
def aqM:eQ 210 ej:=by
 refine⟨zl Tryz.func210 (by kernel_rfl)<|by kernel_rfl,fun args ob rs h hob=>?_⟩;unfold ej cX at h;split at h
 ·simp only[y6,y8,yi]at h;obtain⟨v,e0,rfl,rfl⟩:=h;simp only[cL,jr];rw[zo e0];refine Contract.data (aqL _ ([]) _ _ (?_:E2 _=some _)<|by simp).1;unfold E2;simp only[ux];rfl
 ·simp at h
def Zb:Mc Un:=az [(209,Cy),(152,w4),(159,Nq),(158,QM),(211,lj),(32,vJ),(212,QL),(163,Nz)] [(210,ej)] [] [] []
def Zc(name:ByteArray)(l:List Val):Option (RF Un):=aw Zb aN Tryz.f170 0 [.d] [.d<|.v<|cs name,.d<|.v<|.dat (U:=Un) Ty.val l]
def IZ(name:ByteArray)(l:List Val):Option (RF Un):=ae ((0:Int)≤(0:Int)∧(0:Int)<(↑l.length:Int))<|af ((l.getD 0 z7).kind !=3) (some<|aq z7)<|af (name.toList==(ByteArray.mk #[108,101,110,103,116,104]).toList) (ae ((0:Int)≤(0:Int)∧(0:Int)<(↑l.length:Int))<|some<|aq<|zk (↑(l.getD 0 z7).s.size:Int))<|af (name.toList==(ByteArray.mk #[108,111,119,101,114]).toList) (ae ((0:Int)≤(0:Int)∧(0:Int)<(↑l.length:Int))<|ae ((l.getD 0 z7).s.size≤(2000000:Nat))<|some<|aq<|fL<|fX (l.getD 0 z7).s (65:Int) (32:Int))<|af (name.toList==(ByteArray.mk #[117,112,112,101,114]).toList) (ae ((0:Int)≤(0:Int)∧(0:Int)<(↑l.length:Int))<|ae ((l.getD 0 z7).s.size≤(2000000:Nat))<|some<|aq<|fL<|fX (l.getD 0 z7).s (97:Int) (-32:Int))<|some<|aq z7
def I0(name:ByteArray)(l:List Val):Option (RF Un):=af ((↑l.length:Int) !=(1:Int)) (some<|aq z7)<|af (name.toList==(ByteArray.mk #[97,98,115]).toList) (ae ((0:Int)≤(0:Int)∧(0:Int)<(↑l.length:Int))<|af ((l.getD 0 z7).kind ==2) (ae ((0:Int)≤(0:Int)∧(0:Int)<(↑l.length:Int))<|af (decide<|(l.getD 0 z7).n<0) (some<|aq<|gp (jI (l.getD 0 z7).n).fst (jI (l.getD 0 z7).n).snd)<|some<|aq<|gp (l.getD 0 z7).n<|bf (l.getD 0 z7).n)<|IZ name l)<|IZ name l
def aqN(name l):Zc name l=af (name.toList==(ByteArray.mk #[99,111,97,108,101,115,99,101]).toList) (ae (ej=cX (dy ej) (eU ej))<|ae (oQ (dy ej) l)<|af (decide<|fJ l (dy ej) (eU ej)≥0) (ae (0≤fJ l (dy ej) (eU ej)∧fJ l (dy ej) (eU ej)<(↑l.length:Int))<|some<|aq<|l.getD (fJ l (dy ej)<|eU ej).toNat z7)<|some<|aq z7) (af (name.toList==(ByteArray.mk #[110,117,108,108,105,102]).toList) (af ((↑l.length:Int)==(2:Int)) (ae ((0:Int)≤(0:Int)∧(0:Int)<(↑l.length:Int))<|ae ((0:Int)≤(1:Int)∧(1:Int)<(↑l.length:Int))<|af (!(cj (l.getD 0 z7)<|l.getD 1 z7).snd) (ae ((0:Int)≤(0:Int)∧(0:Int)<(↑l.length:Int))<|some<|aq<|l.getD 0 z7)<|af ((cj (l.getD 0 z7)<|l.getD 1 z7).fst !=0) (ae ((0:Int)≤(0:Int)∧(0:Int)<(↑l.length:Int))<|some<|aq<|l.getD 0 z7)<|some<|aq z7)<|I0 name l)<|I0 name l):=ah
def dY(l:List Val):Prop:=l.length≤2000000∧∀x∈l,x.s.size≤2000000
def gu(name:ByteArray)(x:ByteArray):Bool:=name.toList==x.toList
def uT(name:ByteArray)(x:Val):Val:=
 if x.kind≠3 then z7
 else if gu name ⟨#[108,101,110,103,116,104]⟩=true then zk (x.s.size:Int)
 else if gu name ⟨#[108,111,119,101,114]⟩=true then fL (fX x.s 65 32)
 else if gu name ⟨#[117,112,112,101,114]⟩=true then fL (fX x.s 97<|-32)
 else z7
def uU(name:ByteArray)(l:List Val):Val:=
 if l.length≠1 then z7
 else if gu name ⟨#[97,98,115]⟩=true∧(l.getD 0 z7).kind=2 then(if(l.getD 0 z7).n<0 then gp (jI (l.getD 0 z7).n).1 (jI (l.getD 0 z7).n).2 else gp (l.getD 0 z7).n (bf (l.getD 0 z7).n))
 else uT name (l.getD 0 z7)
def NB(l:List Val):Val:=if 0≤fJ l (fun _=>True) lI then l.getD (fJ l (fun _=>True) lI).toNat z7 else z7
def oT(name:ByteArray)(l:List Val):Val:=
 if gu name ⟨#[99,111,97,108,101,115,99,101]⟩=true then NB l
 else if gu name ⟨#[110,117,108,108,105,102]⟩=true∧l.length=2 then(if(cj (l.getD 0 z7)<|l.getD 1 z7).2=true∧(cj (l.getD 0 z7)<|l.getD 1 z7).1=0 then z7 else l.getD 0 z7)
 else uU name l
def aqO s o f:fJ s o f<(s.length:Int)∨fJ s o f=-1:=by
 unfold fJ;cases h:s.findIdx? f with
 |none=>exact .inr rfl
 |some i=>
  obtain⟨h1,_,_⟩:=y27.1 h;exact .inl (by show(i:Int)<_;omega)
def E3{β}(x y:Option β):af false x y=y:=rfl
def E4{β}(x y:Option β):af true x y=x:=rfl
def aqP name l(hl:l.length=1)(h:dY l):IZ name l=some (aq (uT name (l.getD 0 z7))):=by
 have hm:(l.getD 0 z7).s.size≤2000000:=h.2 _ (by rw[yf,ya (by omega)];exact mc _);unfold IZ uT gu;generalize l.getD 0 z7=x at hm;have p0:∀y:Option (RF Un),ae ((0:Int)≤(0:Int)∧(0:Int)<(l.length:Int)) y=y:=fun y=>z6 (by omega);have p1:∀y:Option (RF Un),ae (x.s.size≤2000000) y=y:=fun y=>z6 hm;simp only[p0,p1];generalize(name.toList==(ByteArray.mk #[108,101,110,103,116,104]).toList)=q1;generalize(name.toList==(ByteArray.mk #[108,111,119,101,114]).toList)=q2;generalize(name.toList==(ByteArray.mk #[117,112,112,101,114]).toList)=q3;by_cases h3:x.kind=3
 ·have e3:(x.kind !=3)=false:=by simp[h3]
  rw[e3,E3,if_neg (fun e=>e h3)];cases q1<;>cases q2<;>cases q3<;>rfl
 ·have e3:(x.kind !=3)=true:=by simp[h3]
  rw[e3,E4,if_pos h3]
def aqQ name l(h:dY l):I0 name l=some (aq<|uU name l):=by
 unfold I0 uU;by_cases hl:l.length=1
 ·have e0:((l.length:Int) !=1)=false:=by rw[hl];rfl
  rw[e0,E3,if_neg fun e=>e hl,aqP name l hl h];have hb:(name.toList==(ByteArray.mk #[97,98,115]).toList)=gu name ⟨#[97,98,115]⟩:=rfl;rw[hb];cases gu name ⟨#[97,98,115]⟩
  ·rw[E3,if_neg fun e=>by simp at e]
  ·rw[E4,z6<|by omega];by_cases hk:(l.getD 0 z7).kind=2
   ·have ek:((l.getD 0 z7).kind ==2)=true:=by rw[hk];rfl
    rw[ek,E4,z6<|by omega,if_pos ⟨rfl,hk⟩,z8];by_cases hn:(l.getD 0 z7).n<0
    ·rw[if_pos<|decide_eq_true hn,if_pos hn]
    ·rw[if_neg fun e=>hn<|of_decide_eq_true e,if_neg hn]
   ·have ek:((l.getD 0 z7).kind ==2)=false:=by rw[beq_eq_false_iff_ne];exact hk
    rw[ek,E3,if_neg fun e=>hk e.2]
 ·have e0:((l.length:Int) !=1)=true:=by simp;omega
  rw[e0,E4,if_pos hl]
def aqR name(l:List Val)(_hn:cm name)(_hl:WL .val l)(h:dY l):Zc name l=some (aq<|oT name l):=by
 have o1:dy ej=fun _=>True:=by unfold ej;exact Qj _ _
 have o2:eU ej=lI:=by unfold ej;exact Qi _ _
 have o3:ej=cX (dy ej) (eU ej):=by rw[o1,o2];rfl
 rw[aqN,z6 o3,o1,o2,z6<|show oQ _ l from fun _ _=>trivial,aqQ name l h];unfold oT NB;have hb:(name.toList==(ByteArray.mk #[99,111,97,108,101,115,99,101]).toList)=gu name ⟨#[99,111,97,108,101,115,99,101]⟩:=rfl;have hb2:(name.toList==(ByteArray.mk #[110,117,108,108,105,102]).toList)=gu name ⟨#[110,117,108,108,105,102]⟩:=rfl;rw[hb,hb2];generalize gu name ⟨#[99,111,97,108,101,115,99,101]⟩=q1;generalize gu name ⟨#[110,117,108,108,105,102]⟩=q2;cases q1
 ·rw[z8,if_neg<|by decide,if_neg<|by decide];cases q2
  ·rw[z8,if_neg<|by decide,if_neg fun e=>by simp at e]
  ·rw[z8,if_pos rfl,z8];by_cases h2:l.length=2
   ·rw[if_pos (by simp;omega),if_pos ⟨rfl,h2⟩,z6<|by omega,z6<|by omega,z6<|by omega];cases(cj (l.getD 0 z7)<|l.getD 1 z7).2
    ·rw[if_neg fun e=>by simp at e];rfl
    ·simp only[z8,vr,bne_iff_ne,ne_eq];by_cases h5:(cj (l.getD 0 z7)<|l.getD 1 z7).1=0
     ·rw[if_neg<|by decide,if_neg fun e=>e h5,if_pos ⟨trivial,h5⟩]
     ·rw[if_neg<|by decide,if_pos h5,if_neg fun e=>h5 e.2]
   ·rw[if_neg (by simp;omega),if_neg fun e=>h2 e.2]
 ·rw[z8,if_pos rfl,if_pos rfl,z8];have hlt:=aqO l (fun _=>True) lI;by_cases h3:0≤fJ l (fun _=>True) lI
  ·rw[if_pos<|decide_eq_true h3,if_pos h3,z6<|by omega]
  ·rw[if_neg fun e=>h3<|of_decide_eq_true e,if_neg h3]
def Zd:au Un:=aD cB (dL .val) fun name l=>([dY l],aq<|oT name l)
def aqS:aj 170 Zd:=aJ cN zi (M:=Zb) (h2:=⟨aqM,trivial⟩) rfl ⟨YI,QE,Yd,Y1,od,Bu,aqm,YU,trivial⟩ Tryz.func170 fun name l=>GiF.r fun w o=>aqR name l (am w 0) (am w 1)<|aA o 0
end
end B
end Go.Proofs.YtjfpbchdcbhfgaaGreat
