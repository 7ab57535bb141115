/- Part 18 of the proof: Snaive5 Snaive6 Sr03l. -/
import Derived.Test.YtjfpbchdcbhfgaaGreatNsy17
set_option linter.unusedVariables false
set_option linter.unusedSimpArgs false
set_option linter.defProp false
namespace Go.Proofs.YtjfpbchdcbhfgaaGreat
namespace B
open Go Go.RowKit
set_option maxRecDepth 100000
noncomputable section
attribute [local irreducible] aB bk zw br aK b9 aR bu bA
def Ra(m:Nat):au Un:=aD (dS .wld) (dS .term) fun w t=>bB (8*t.ht+6) m ([AH w t],aW<|jL w t)
def tL(m:Nat):au Un:=aD (dS .wld) (dS .term) fun w t=>bB (8*t.ht+7) m ([xC w t],aq<|kL w t)
def Jo(r:List Val):List (A Un):=[.c<|.sl (U:=Un) Ty.val r false]
def OM(_r:List Val):List (Ob Un):=[]
def CP(r:List Val):RF Un:=(Jo r,OM r)
def qS(m:Nat):au Un:=fun args=>match args with
 |[x0,x1]=>(dS .wld x0).bind fun w=>(dL .term x1).bind fun l=>some ([8*aY l+8<m,AG w l],Jo<|ja w l,OM<|ja w l)
 |_=>none
def Jp(m:Nat):au Un:=dW (dS .wld) (dL .term) (dL .val) fun w l x=>bB (8*aY l+8) m ([FB w l x],ak<|kM w l x)
def qT(m:Nat):au Un:=dW (dS .wld) (dS .rel) (dI .i64) fun w r n=>bB (8*r.ht+4) m ([i9 w r n],aW<|bC w r n)
def Rb(m:Nat):au Un:=aD (dS .wld) (dS .rel) fun w r=>bB (8*r.ht+7) m ([ix w r],aW<|lP w r)
def Rc(m:Nat):au Un:=aD (dS .wld) (dS .rel) fun w r=>bB (8*r.ht+6) m ([Ol w r],aW<|tH w r)
def Rd(m:Nat):au Un:=aD (dS .wld) (dS .rel) fun w r=>bB (8*r.ht+6) m ([Om w r],aW<|tI w r)
def Re(m:Nat):au Un:=aD (dS .wld) (dS .rel) fun w r=>bB (8*r.ht+6) m ([FF w r],aW<|lQ w r)
def avz(r:List Bunch):List (A Un):=[.c<|.sl (U:=Un) Ty.bunch r false]
def avA(_r:List Bunch):List (Ob Un):=[]
def CQ(m:Nat):au Un:=fun args=>match args with
 |[x0,x1,x2]=>(dS .wld x0).bind fun w=>(dL .row x1).bind fun rows=>(dL .term x2).bind fun terms=>some ([8*aY terms+9<m,Oo w rows terms],avz<|dG w rows terms,avA<|dG w rows terms)
 |_=>none
def Rf(m:Nat):au Un:=aD (dS .wld) (dS .rel) fun w r=>bB (8*r.ht+6) m ([On w r],aW<|m8 w r)
def ON(m:Nat):au Un:=aD (dS .wld) (dS .rel) fun w r=>bB (8*r.ht+6) m ([AI w r],aW<|oY w r)
def FO(m:Nat):Mc Un:=az [(45,Rb m)] [] [] [] []
def abV(m:Nat)(w:Wld)(t:Term):Option (RF Un):=aw (FO m) aV Tryz.f118 0 [.m] [.d<|.agg<|enc Ty.wld w,.d<|.agg<|enc Ty.term t]
def avB(m w t):abV m w t=af ((↑t.sub.length:Int)==(0:Int)) (some<|aW<|[]) (ae ((0:Int)≤(0:Int)∧(0:Int)<(↑t.sub.length:Int))<|ae ((8:Nat)*(Rel.ids<|t.sub.getD 0 za).ht+(7:Nat)<m)<|ae (ix w<|Rel.ids<|t.sub.getD 0 za)<|some<|aW<|lP w<|Rel.ids<|t.sub.getD 0 za):=ah
def Term.ht_kids(t:Term):aY t.kids<t.ht:=by cases t;grind[Term.kids_mk,Term.ht]
def Rel.ht_terms(r:Rel):aY r.terms<r.ht:=by cases r;grind[Rel.terms_mk,Rel.ht]
theorem pb{w t l}(h:kZ t.sub w=some l):jL w t=l:=by simp_all[jL]
def jb{w r l}(h:nR r w=some l):lP w r=l:=by simp_all[lP]
def qU{w t v}(h:nT t w=some v):kL w t=v:=by simp_all[kL]
def CR{w t v}(h:b8 t w=some v):ja w t=v:=by simp_all[ja]
def xM{w t x b}(h:cF t (zp w x)=some b):kM w t x=b:=by simp_all[kM]
def OO{w r n l}(h:bc r.kids n w=some l):bC w r (n:Int)=l:=by simp_all[bC,y5]
theorem kN{w r l}(h:bc r.kids 0 w=some l):bC w r (0:Int)=l:=OO (n:=0) h
theorem FP{w r l}(h:bc r.kids 1 w=some l):bC w r (1:Int)=l:=OO (n:=1) h
def qV{w r l}(h:bc r.kids 0 w=some l):i9 w r (0:Int):=⟨pJ _,l,h⟩
def abW{w r l}(h:bc r.kids 1 w=some l):i9 w r (1:Int):=⟨by omega,l,h⟩
def avC m(w:Wld)(t:Term)(_hw:WS .wld w)(_ht:WS .term t)(hm:8*t.ht+6<m+1)(h:AH w t):abV m w t=some (aW (jL w t)):=by
 obtain⟨l,hl⟩:=h;rw[pb hl];rw[Fz]at hl;rw[avB];simp only[z8,Rel.ids_eq,beq_iff_eq];by_cases h0:t.sub.length=0
 ·grind
 ·rw[if_neg h0]at hl;have hs:(t.sub.getD 0 za).ht<t.ht:=Term.ht_sub (cG (by omega));rw[if_neg (by omega),z6 (by omega),z6 (by omega),z6 ⟨l,hl⟩,jb hl]
abbrev jM(m:Nat):Prop:=aj 118 (Ra m)∧aj 67 (tL m)∧aj 121 (qS m)∧aj 136 (Jp m)∧aj 91 (qT m)∧aj 45 (Rb m)∧aj 86 (Rc m)∧aj 87 (Rd m)∧aj 88 (Re m)∧aj 139 (CQ m)∧aj 89 (Rf m)∧aj 92 (ON m)
def avD(m:Nat)(hG:jM m):aj 118 (Ra<|m+1):=aJ zo zo (M:=(FO m)) rfl ⟨hG.2.2.2.2.2.1,trivial⟩ Tryz.func118 fun w t=>GiF.r fun w1 o=>avC m w t (am w1 0) (am w1 1) (aA o 0)<|aA o 1
def abX(m:Nat):Mc Un:=az [(117,Zy),(118,Ra m),(39,xh),(67,tL m),(119,aaw),(121,qS m),(120,QQ)] [] [] [] []
def abY(m:Nat)(w:Wld)(t:Term):Option (RF Un):=aw (abX m) aV Tryz.f67 0 [.d] [.d<|.agg<|enc Ty.wld w,.d<|.agg<|enc Ty.term t]
def avE(m w t):abY m w t=af (t.op==1) (ae ((Term.ids t).sz≤(2000000:Nat))<|ae (dZ<|Term.ids t)<|ae (cT w.env)<|some<|aq<|il (Term.ids t) w.env) (af (t.op==2) (ae ((Term.ids t).sz≤(2000000:Nat))<|ae (dZ<|Term.ids t)<|ae (cT w.env)<|some<|aq<|il (Term.ids t) w.env)<|af (t.op==26) (ae ((8:Nat)*(Term.ids t).ht+(6:Nat)<m)<|ae (AH w<|Term.ids t)<|af ((↑(jL w<|Term.ids t).length:Int)==(1:Int)) (ae ((0:Int)≤(0:Int)∧(0:Int)<(↑(jL w<|Term.ids t).length:Int))<|af (decide<|(↑(List.length<|(jL w<|Term.ids t).getD 0 []):Int)>(0:Int)) (ae ((0:Int)≤(0:Int)∧(0:Int)<(↑(jL w<|Term.ids t).length:Int))<|ae ((0:Int)≤(0:Int)∧(0:Int)<(↑(List.length<|(jL w<|Term.ids t).getD 0 []):Int))<|some<|aq<|List.getD ((jL w<|Term.ids t).getD 0 []) 0 z7)<|some<|aq z7)<|some<|aq z7)<|af (t.op==27) (ae ((8:Nat)*(Term.ids t).ht+(6:Nat)<m)<|ae (AH w<|Term.ids t)<|some<|aq<|cE<|decide<|(↑(jL w<|Term.ids t).length:Int)>(0:Int))<|af (t.op==28) (af ((↑t.kids.length:Int)==(0:Int)) (some<|aq z7)<|ae ((0:Int)≤(0:Int)∧(0:Int)<(↑t.kids.length:Int))<|ae ((8:Nat)*(Term.ids<|t.kids.getD 0 zb).ht+(7:Nat)<m)<|ae (xC w<|Term.ids<|t.kids.getD 0 zb)<|ae ((8:Nat)*(Term.ids t).ht+(6:Nat)<m)<|ae (AH w<|Term.ids t)<|some<|aq<|xy (kL w<|Term.ids<|t.kids.getD 0 zb)<|jL w<|Term.ids t)<|ae ((8:Nat)*aY t.kids+(8:Nat)<m)<|ae (AG w t.kids)<|ae (dY<|ja w t.kids)<|some<|aq<|cJ t.op t.name<|ja w t.kids):=ah
def avF m(w:Wld)(t:Term)(_hw:WS .wld w)(_ht:WS .term t)(hm:8*t.ht+7<m+1)(h:xC w t):abY m w t=some (aq (kL w t)):=by
 obtain⟨v,hv⟩:=h;rw[qU hv];rw[uZ]at hv;rw[avE];simp only[z8,Term.ids_eq,beq_iff_eq,decide_eq_true_eq];have hkd:=Term.ht_kids t;by_cases c12:t.op=1∨t.op=2
 ·rw[if_pos c12]at hv;obtain⟨⟨h1,h2,h3⟩,h4⟩:=chkQ_some.1 hv;rcases c12 with c|c
  all_goals simp_all[if_pos,z6,if_neg]
 rw[if_neg c12]at hv;rw[if_neg (fun e=>c12 (.inl e)),if_neg (fun e=>c12 (.inr e))];by_cases c3:t.op=26
 ·rw[if_pos c3]at hv ⊢;obtain⟨l,hl,h4⟩:=y6.1 hv;rw[z6 (by omega),z6 ⟨l,hl⟩,pb hl];by_cases d1:l.length=1
  ·by_cases d2:0<(l.getD 0 []).length
   all_goals simp_all[if_pos,z6,if_neg]
  grind
 rw[if_neg c3]at hv ⊢;by_cases c4:t.op=27
 ·rw[if_pos c4]at hv ⊢;obtain⟨l,hl,h4⟩:=y6.1 hv;obtain rfl:=yg h4;rw[z6 (by omega),z6 ⟨l,hl⟩,pb hl];simp
 rw[if_neg c4]at hv ⊢;by_cases c5:t.op=28
 ·rw[if_pos c5]at hv ⊢;by_cases d:t.kids.length=0
  ·grind
  ·rw[if_neg d]at hv;obtain⟨x,hx,h4⟩:=y6.1 hv;obtain⟨l,hl,h5⟩:=y6.1 h4;obtain rfl:=yg h5;rw[sr,if_neg d]at hx;have hk:(t.kids.getD 0 zb).ht<t.ht:=Term.ht_kidD (by omega);rw[if_neg (by omega),z6 (by omega),z6 (by omega),z6 ⟨x,hx⟩,z6 (by omega),z6 ⟨l,hl⟩,qU hx,pb hl]
 rw[if_neg c5]at hv ⊢;split at hv
 ·obtain⟨l,hl,h4⟩:=y6.1 hv;obtain⟨h5,h6⟩:=chkQ_some.1 h4;obtain rfl:=yg h6;rw[z6 (by omega),z6 ⟨by omega,l,hl⟩,CR hl,z6 h5]
 grind
def avG(m:Nat)(hG:jM m):aj 67 (tL<|m+1):=aJ zo zo (M:=(abX m)) rfl ⟨aq7,hG.1,QK,hG.2.1,asI,hG.2.2.1,Zm,trivial⟩ Tryz.func67 fun w t=>GiF.r fun w1 o=>avF m w t (am w1 0) (am w1 1) (aA o 0)<|aA o 1
def Jq(m:Nat):Mc Un:=az [(67,tL m)] [] [] [] []
def Jr:Nat→NS:=aO [(3,{ts:=bl 26 14372,bs:=bl 26 4,nm:=[(.sl 5,104)],cs:=true})] true
def ng(w:Wld)(l:List Term)(v0:Int)(v1:List Val):S Un:=(st 26 26 105 0 [(2,ax 2),(5,ao 104),(11,al .term l),(12,ai (↑l.length:Int)),(13,ai v0)] [(2,bg .wld w)] [(104,some ⟨(0:Nat),Ty.val,v1,some (0:Nat),true⟩)])
def tM(m:Nat):S Un→Option (EX Un):=aC (Jq m) Jr Tryz.f121 [1,1,0,1,2,2] 3
def Rg(m:Nat):Exit→S Un→Option (RF Un):=aE (Jq m) Jr Tryz.f121 [1,1,0,1,2] [.d]
def abZ(m:Nat)(w:Wld)(l:List Term):Option (RF Un):=aw (Jq m) Jr Tryz.f121 1 [.d] [.d<|.agg<|enc Ty.wld w,.d<|.v<|.dat (U:=Un) Ty.term l]
def avH(m w l):abZ m w l=ae ((0:Int)≤(↑l.length:Int)∧(↑l.length:Int)≤(↑l.length:Int)∧(↑l.length:Int).toNat*(32:Nat)≤ze) ((tM m<|ng w l (0:Int)<|List.replicate (↑l.length:Int).toNat z7).bind<|zd<|Rg m):=ah
def ab0(m w l v0 v1):tM m (ng w l v0 v1)=af (decide<|v0<(↑l.length:Int)) (ae (0≤v0∧v0<(↑l.length:Int))<|ae ((8:Nat)*(Term.ids<|l.getD v0.toNat zb).ht+(7:Nat)<m)<|ae (xC w<|Term.ids<|l.getD v0.toNat zb)<|ae (0≤v0∧v0<(↑v1.length:Int))<|ae ((0:Nat)≤v0.toNat)<|tM m<|ng w l (IntKind.i64.wrap<|v0+1)<|v1.set v0.toNat<|kL w<|Term.ids<|l.getD v0.toNat zb) (some (.exit 0,(ng w l v0 v1))):=aF
theorem avI(m w l v0 v1):Rg m (.exit 0) (ng w l v0 v1)=some (CP v1):=ah
def ab1{α β f}:∀{l:List α}{s:List β}(i:Nat),dm f l=some s→dm f (l.drop i)=some (s.drop i)
 |_,_,0,h=>h
 |[],s,i+1,h=>by simp_all[dm,y8]
 |x::l,s,i+1,h=>by
  obtain⟨y,r,h1,h2,rfl⟩:=CL h;exact ab1 i h2
def avJ m(w:Wld)(l:List Term)(_hw:WS .wld w)(hl:WL .term l)(hm:8*aY l+8<m+1)(h:AG w l):abZ m w l=some (CP<|ja w l):=by
 obtain⟨hlen,s,hs⟩:=h;rw[CR hs];rw[ss]at hs;have hsl:=xD hs;have key:∀(r:List Term)(i:Nat)(q:List Val),l.drop i=r→i≤l.length→q.length=l.length→q.take i=s.take i→(tM m<|ng w l (i:Int) q).bind (zd<|Rg m)=some (CP s):=by
  intro r
  induction r with
  |nil=>
   intro i q hr hi hq ht;have hil:l.length≤i:=by simp_all
   have e:tM m (ng w l (i:Int) q)=some (.exit 0,ng w l (i:Int) q):=by rw[ab0,z8,if_neg<|by grind]
   grind[zf,avI,List.take_of_length_le]
  |cons x r ih=>
   intro i q hr hi hq ht;obtain⟨a1,a2,a3,hmem⟩:=d9 hr;have hx:l.getD i zb=x:=a2 zb;have hd:=ab1 i hs;rw[hr]at hd;obtain⟨y,s',h1,h2,h3⟩:=CL hd;have hht:=jy hmem;have e:tM m (ng w l (i:Int) q)=tM m (ng w l ((i+1:Nat):Int)<|q.set i y):=by
    rw[ab0];simp only[z8,Term.ids_eq,y5,hx];rw[if_pos<|by grind,z6<|by omega,z6<|by omega,z6 ⟨y,h1⟩,z6<|by omega,z6<|by omega,eW a1 hl.len,qU h1]
   rw[e];refine ih (i+1) (q.set i y) a3 (by omega) (by grind) ?_;have hsi:s[i]?=some y:=by
    have:=congrArg (fun z=>z[0]?) h3;grind
   simp_all[Gm,List.take_set_of_le,y7,eH]
 rw[avH,z6<|by grind[Int.toNat_natCast,ze]];have:=key l 0 (List.replicate (l.length:Int).toNat z7) rfl (yc _) (by simp) rfl;omega
def avK(m:Nat)(hG:jM m):aj 121 (qS<|m+1):=by
 intro args ob rs os h hob;unfold qS at h;split at h
 ·simp only[y6,y8,yi]at h;obtain⟨w,e0,l,e1,rfl,rfl,rfl⟩:=h;obtain rfl:=zo e0;obtain rfl:=zi e1;exact⟨dz (M:=(Jq m)) rfl (cM (l1:=[(67,tL m)]) (l2:=[]) (l3:=[]) (l4:=[]) (l5:=[]) ⟨hG.2.1,trivial⟩ trivial trivial trivial trivial) Tryz.func121 (by kernel_rfl) Jr 1 [.d] fun hwf=>(avJ m w l (bj hwf (a:=.d<|.agg<|enc Ty.wld w)<|y9 (i:=0) rfl) (bj hwf (a:=.d<|.v<|.dat (U:=Un) Ty.term l)<|y9 (i:=1) rfl) (hob _<|y9 (i:=0) rfl)<|hob _<|y9 (i:=1) rfl),zl Tryz.func121 (by kernel_rfl)<|by kernel_rfl⟩
 ·simp at h
def FQ(m:Nat):Mc Un:=az [(137,tD),(67,tL m),(161,tq)] [] [] [] []
def OP:Nat→NS:=aO [(3,{ts:=bl 25 57536,bs:=bl 25 128,nm:=[],cs:=true})] true
def jc(w:Wld)(l:List Term)(x:List Val)(v0:Int):S Un:=(st 25 25 100 0 [(6,ab false),(7,ax 7),(13,al .term l),(14,ai (↑l.length:Int)),(15,ai v0)] [(7,some (false,jk Ty.wld<|zp w x))] [])
def qW(m:Nat):S Un→Option (EX Un):=aC (FQ m) OP Tryz.f136 [1,1,0,1,2,2] 3
def Js(m:Nat):Exit→S Un→Option (RF Un):=aE (FQ m) OP Tryz.f136 [1,1,0,1,2] [.d]
def ab2(m:Nat)(w:Wld)(l:List Term)(x:List Val):Option (RF Un):=aw (FQ m) OP Tryz.f136 0 [.d] [.d<|.agg<|enc Ty.wld w,.d<|.v<|.dat (U:=Un) Ty.term l,.d<|.v<|.dat (U:=Un) Ty.val x]
def avL(m w l x):ab2 m w l x=ae (w.env.length≤(100000000:Nat)) ((qW m<|jc w l x (0:Int)).bind<|zd<|Js m):=ah
def OQ(m w l x v0):qW m (jc w l x v0)=af (decide<|v0<(↑l.length:Int)) (ae (0≤v0∧v0<(↑l.length:Int))<|ae ((8:Nat)*(Term.ids<|l.getD v0.toNat zb).ht+(7:Nat)<m)<|ae (xC (zp w x)<|Term.ids<|l.getD v0.toNat zb)<|af (dN (kL (zp w x)<|Term.ids<|l.getD v0.toNat zb) !=2) (some (.ret,(jc w l x v0)))<|qW m<|jc w l x<|IntKind.i64.wrap<|v0+1) (some (.exit 0,(jc w l x v0))):=aF
def avM(m w l x v0):Js m .ret (jc w l x v0)=some (ak false):=ah
theorem avN(m w l x v0):Js m (.exit 0) (jc w l x v0)=some (ak true):=ah
def avO m(w:Wld)(l:List Term)(x:List Val)(_hw:WS .wld w)(hl:WL .term l)(_hx:WL .val x)(hm:8*aY l+8<m+1)(h:FB w l x):ab2 m w l x=some (ak<|kM w l x):=by
 obtain⟨hE,b,hb⟩:=h;rw[xM hb];have key:∀(r:List Term)(i:Nat)(b:Bool),l.drop i=r→i≤l.length→cF r (zp w x)=some b→(qW m<|jc w l x (i:Int)).bind (zd<|Js m)=some (ak b):=by
  intro r
  induction r with
  |nil=>
   intro i b hr hi hs;have hil:l.length≤i:=by simp_all
   have e:qW m (jc w l x (i:Int))=some (.exit 0,jc w l x (i:Int)):=by rw[OQ,z8,if_neg<|by grind]
   grind[zf,avN,cF,Option.some.injEq]
  |cons t r ih=>
   intro i b hr hi hs;obtain⟨a1,a2,a3,hmem⟩:=d9 hr;have ht:l.getD i zb=t:=a2 zb;have hht:=jy hmem;simp only[cF,y6]at hs;obtain⟨v,hv,hs⟩:=hs;by_cases c:dN v=2
   ·have e:qW m (jc w l x (i:Int))=qW m (jc w l x ((i+1:Nat):Int)):=by
     rw[OQ];simp only[z8,Term.ids_eq,y5,ht];rw[if_pos<|by grind,z6<|by omega,z6<|by omega,z6 ⟨v,hv⟩,qU hv,if_neg<|by grind,eW a1 hl.len]
    grind
   ·rw[if_neg c]at hs;obtain rfl:=yg hs;have e:qW m (jc w l x (i:Int))=some (.ret,jc w l x (i:Int)):=by
     rw[OQ];simp only[z8,Term.ids_eq,y5,ht];rw[if_pos<|by grind,z6<|by omega,z6<|by omega,z6 ⟨v,hv⟩,qU hv,if_pos<|by grind]
    rw[zf e,avM]
 rw[avL,z6 hE];grind
def avP(m:Nat)(hG:jM m):aj 136 (Jp<|m+1):=jl zo zi zi (M:=(FQ m)) rfl ⟨Jd,hG.2.1,Cv,trivial⟩ Tryz.func136 fun w l x=>GiF.r fun w1 o=>avO m w l x (am w1 0) (am w1 1) (am w1 2) (aA o 0)<|aA o 1
def ab3(m:Nat)(w:Wld)(r:Rel)(n:Int):Option (RF Un):=aw (FO m) aV Tryz.f91 0 [.m] [.d<|.agg<|enc Ty.wld w,.d<|.agg<|enc Ty.rel r,.d<|.v<|.s<|.int .i64 n]
def avQ(m w r n):ab3 m w r n=af (decide<|n≥(↑r.kids.length:Int)) (some<|aW<|[]) (ae (0≤n∧n<(↑r.kids.length:Int))<|ae ((8:Nat)*(Rel.ids<|r.kids.getD n.toNat za).ht+(7:Nat)<m)<|ae (ix w<|Rel.ids<|r.kids.getD n.toNat za)<|some<|aW<|lP w<|Rel.ids<|r.kids.getD n.toNat za):=ah
def avR m(w:Wld)(r:Rel) n(_hw:WS .wld w)(_hr:WS .rel r)(_hn:WI n)(hm:8*r.ht+4<m+1)(h:i9 w r n):ab3 m w r n=some (aW<|bC w r n):=by
 obtain⟨h0,l,hl⟩:=h;obtain⟨k,rfl⟩:∃k:Nat,n=k:=⟨n.toNat,(Gr h0).symm⟩;rw[y5]at hl;rw[OO hl];rw[AF]at hl;rw[avQ];simp only[z8,Rel.ids_eq,decide_eq_true_eq,y5];by_cases c:k<r.kids.length
 ·rw[if_pos c]at hl;have hk:(r.kids.getD k za).ht<r.ht:=Rel.ht_kid<|cG c;rw[if_neg<|by omega,z6<|by omega,z6<|by omega,z6 ⟨l,hl⟩,jb hl]
 grind
def avS(m:Nat)(hG:jM m):aj 91 (qT<|m+1):=jl zo zo zn (M:=(FO m)) rfl ⟨hG.2.2.2.2.2.1,trivial⟩ Tryz.func91 fun w r n=>GiF.r fun w1 o=>avR m w r n (am w1 0) (am w1 1) (am w1 2) (aA o 0)<|aA o 1
def ab4(m:Nat):Mc Un:=az [(84,aaB),(85,I4),(86,Rc m),(87,Rd m),(88,Re m),(89,Rf m),(91,qT m),(90,N2),(92,ON m)] [] [] [(93,Q4),(94,Q6)] []
def ab5(m:Nat)(w:Wld)(r:Rel):Option (RF Un):=aw (ab4 m) aV Tryz.f45 0 [.m] [.d<|.agg<|enc Ty.wld w,.d<|.agg<|enc Ty.rel r]
def avT(m w r):ab5 m w r=af (r.op==1) (ae (sh w.db)<|some<|aW<|lM w r.table) (af (r.op==2) (ae (r.rows.length≤(1000000000:Nat))<|some<|aW r.rows)<|af (r.op==3) (ae ((8:Nat)*(Rel.ids r).ht+(6:Nat)<m)<|ae (Ol w<|Rel.ids r)<|some<|aW<|tH w<|Rel.ids r)<|af (r.op==4) (ae ((8:Nat)*(Rel.ids r).ht+(6:Nat)<m)<|ae (Om w<|Rel.ids r)<|some<|aW<|tI w<|Rel.ids r)<|af (r.op==5) (ae ((8:Nat)*(Rel.ids r).ht+(6:Nat)<m)<|ae (FF w<|Rel.ids r)<|some<|aW<|lQ w<|Rel.ids r)<|af (r.op==6) (ae ((8:Nat)*(Rel.ids r).ht+(6:Nat)<m)<|ae (FF w<|Rel.ids r)<|some<|aW<|lQ w<|Rel.ids r)<|af (r.op==7) (ae ((8:Nat)*(Rel.ids r).ht+(6:Nat)<m)<|ae (On w<|Rel.ids r)<|some<|aW<|m8 w<|Rel.ids r)<|af (r.op==8) (ae ((8:Nat)*(Rel.ids r).ht+(4:Nat)<m)<|ae (i9 w (Rel.ids r) (0:Int))<|ae ((bC w (Rel.ids r) (0:Int)).length≤(100000000:Nat))<|some<|aW<|bV<|bC w (Rel.ids r) (0:Int))<|af (r.op==9) (ae ((8:Nat)*(Rel.ids r).ht+(6:Nat)<m)<|ae (AI w<|Rel.ids r)<|some<|aW<|oY w<|Rel.ids r)<|af (r.op==10) (ae ((8:Nat)*(Rel.ids r).ht+(6:Nat)<m)<|ae (AI w<|Rel.ids r)<|some<|aW<|oY w<|Rel.ids r)<|af (r.op==11) (ae ((8:Nat)*(Rel.ids r).ht+(6:Nat)<m)<|ae (AI w<|Rel.ids r)<|some<|aW<|oY w<|Rel.ids r)<|af (r.op==12) (ae ((8:Nat)*(Rel.ids r).ht+(4:Nat)<m)<|ae (i9 w (Rel.ids r) (0:Int))<|ae ((bC w (Rel.ids r) (0:Int)).length≤(100000000:Nat))<|some<|aW<|jK (bC w (Rel.ids r) (0:Int)) r.keys)<|af (r.op==13) (ae ((8:Nat)*(Rel.ids r).ht+(4:Nat)<m)<|ae (i9 w (Rel.ids r) (0:Int))<|ae ((bC w (Rel.ids r) (0:Int)).length≤(100000000:Nat))<|some<|aW<|im (bC w (Rel.ids r) (0:Int)) r.limit r.skip)<|some<|aW<|[]):=ah
def avU m(w:Wld)(r:Rel)(_hw:WS .wld w)(_hr:WS .rel r)(hm:8*r.ht+7<m+1)(h:ix w r):ab5 m w r=some (aW<|lP w r):=by
 obtain⟨v,hv⟩:=h;rw[jb hv];rw[u7,y6]at hv;obtain⟨s,hs,hc⟩:=hv;obtain⟨rfl,hlen⟩:=qO hc;clear hc;rw[avT];simp only[z8,Rel.ids_eq,beq_iff_eq];by_cases c1:r.op=1
 ·rw[if_pos c1]at hs ⊢;obtain⟨h1,h2⟩:=chkQ_some.1 hs;rw[z6 h1,yg h2]
 rw[if_neg c1]at hs ⊢;by_cases c2:r.op=2
 ·rw[if_pos c2]at hs ⊢;obtain rfl:=yg hs;rw[z6<|by omega]
 rw[if_neg c2]at hs ⊢;by_cases c3:r.op=3
 ·rw[if_pos c3]at hs ⊢;have e:tH w r=s:=by unfold tH FC;rw[hs];rfl
  rw[z6<|by omega,z6 ⟨s,hs⟩,e]
 rw[if_neg c3]at hs ⊢;by_cases c4:r.op=4
 ·rw[if_pos c4]at hs ⊢;have e:tI w r=s:=by unfold tI FD;rw[hs];rfl
  rw[z6<|by omega,z6 ⟨s,hs⟩,e]
 rw[if_neg c4]at hs ⊢;by_cases c5:r.op=5∨r.op=6
 ·rw[if_pos c5]at hs;have e:lQ w r=s:=by unfold lQ u9;rw[hs];rfl
  rcases c5 with c|c
  ·rw[if_pos c,z6<|by omega,z6 ⟨s,hs⟩,e]
  ·rw[if_neg<|by omega,if_pos c,z6<|by omega,z6 ⟨s,hs⟩,e]
 rw[if_neg c5]at hs;rw[if_neg fun e=>c5<|.inl e,if_neg fun e=>c5<|.inr e];by_cases c7:r.op=7
 ·rw[if_pos c7]at hs ⊢;have e:m8 w r=s:=by unfold m8 su;rw[hs];rfl
  rw[z6<|by omega,z6 ⟨s,hs⟩,e]
 rw[if_neg c7]at hs ⊢;by_cases c8:r.op=8
 ·rw[if_pos c8]at hs ⊢;obtain⟨l,hl,h4⟩:=y6.1 hs;have hk:=m9 hl;rw[z6<|by omega,z6<|qV hl,kN hl,z6 hk,yg h4]
 rw[if_neg c8]at hs ⊢;by_cases c9:r.op=9∨r.op=10∨r.op=11
 ·rw[if_pos c9]at hs;have e:oY w r=s:=by unfold oY FE;rw[hs];rfl
  rcases c9 with c|c|c
  ·rw[if_pos c,z6<|by omega,z6 ⟨s,hs⟩,e]
  ·rw[if_neg<|by omega,if_pos c,z6<|by omega,z6 ⟨s,hs⟩,e]
  ·rw[if_neg<|by omega,if_neg<|by omega,if_pos c,z6<|by omega,z6 ⟨s,hs⟩,e]
 rw[if_neg c9]at hs;rw[if_neg fun e=>c9<|.inl e,if_neg fun e=>c9<|.inr<|.inl e,if_neg fun e=>c9<|.inr<|.inr e];by_cases c12:r.op=12
 ·rw[if_pos c12]at hs ⊢;obtain⟨l,hl,h4⟩:=y6.1 hs;have hk:=m9 hl;rw[z6<|by omega,z6<|qV hl,kN hl,z6 hk,yg h4]
 rw[if_neg c12]at hs ⊢;by_cases c13:r.op=13
 ·rw[if_pos c13]at hs ⊢;obtain⟨l,hl,h4⟩:=y6.1 hs;have hk:=m9 hl;rw[z6<|by omega,z6<|qV hl,kN hl,z6 hk,yg h4]
 rw[if_neg c13]at hs ⊢;rw[yg hs]
def avV(m:Nat)(hG:jM m):aj 45 (Rb<|m+1):=aJ zo zo (M:=(ab4 m)) (h4:=⟨atA,avl,trivial⟩) rfl ⟨asP,QU,hG.2.2.2.2.2.2.1,hG.2.2.2.2.2.2.2.1,hG.2.2.2.2.2.2.2.2.1,hG.2.2.2.2.2.2.2.2.2.2.1,hG.2.2.2.2.1,aas,hG.2.2.2.2.2.2.2.2.2.2.2,trivial⟩ Tryz.func45 fun w r=>GiF.r fun w1 o=>avU m w r (am w1 0) (am w1 1) (aA o 0)<|aA o 1
def Jt(m:Nat):Mc Un:=az [(91,qT m),(136,Jp m)] [] [] [] []
def xN:Nat→NS:=aO [(3,{ts:=bl 27 7212,bs:=bl 27 12,nm:=[(.sl 10,108),(.sl 5,109)],cs:=true})] true
def jN(w:Wld)(r:Rel)(v0:Int)(v1:List (List Val)):S Un:=(st 27 27 110 0 [(2,ax 2),(3,ax 3),(5,ao 109),(10,ao 108),(11,ai (↑(bC w (Rel.ids r) (0:Int)).length:Int)),(12,ai v0)] [(2,bg .wld w),(3,bg .rel r)] [(108,some ⟨(0:Nat),Ty.row,bC w (Rel.ids r) (0:Int),some (0:Nat),true⟩),(109,some ⟨(0:Nat),Ty.row,v1,some (0:Nat),true⟩)])
def CS(m:Nat):S Un→Option (EX Un):=aC (Jt m) xN Tryz.f86 [1,1,0,1,2,2] 3
def ab6(m:Nat):Exit→S Un→Option (RF Un):=aE (Jt m) xN Tryz.f86 [1,1,0,1,2] [.m]
def ab7(m:Nat)(w:Wld)(r:Rel):Option (RF Un):=aw (Jt m) xN Tryz.f86 2 [.m] [.d<|.agg<|enc Ty.wld w,.d<|.agg<|enc Ty.rel r]
def avW(m w r):ab7 m w r=ae ((8:Nat)*(Rel.ids r).ht+(4:Nat)<m) (ae (i9 w (Rel.ids r) (0:Int))<|(CS m<|jN w r (0:Int)<|[]).bind<|zd<|ab6 m):=ah
def ab8(m w r v0 v1):CS m (jN w r v0 v1)=af (decide<|v0<(↑(bC w (Rel.ids r) (0:Int)).length:Int)) (ae (0≤v0∧v0<(↑(bC w (Rel.ids r) (0:Int)).length:Int))<|ae ((8:Nat)*aY r.terms+(8:Nat)<m)<|ae (FB w r.terms<|(bC w (Rel.ids r) (0:Int)).getD v0.toNat [])<|af (kM w r.terms<|(bC w (Rel.ids r) (0:Int)).getD v0.toNat []) (ae ((v1.length+[(bC w (Rel.ids r) (0:Int)).getD v0.toNat []].length)*(24:Nat)≤ze)<|CS m<|jN w r (IntKind.i64.wrap<|v0+1)<|v1++[(bC w (Rel.ids r) (0:Int)).getD v0.toNat []])<|CS m<|jN w r (IntKind.i64.wrap<|v0+1) v1) (some (.exit 0,(jN w r v0 v1))):=aF
def avX(m w r v0 v1):ab6 m (.exit 0) (jN w r v0 v1)=some (aW v1):=ah
def avY m(w:Wld)(r:Rel)(_hw:WS .wld w)(_hr:WS .rel r)(hm:8*r.ht+6<m+1)(h:Ol w r):ab7 m w r=some (aW (tH w r)):=by
 obtain⟨v,hv⟩:=h;have e:tH w r=v:=by unfold tH;rw[hv];rfl
 rw[e];unfold FC si at hv;split at hv
 ·rename_i hE;obtain⟨l,hl,hf⟩:=y6.1 hv;have hll:=m9 hl;have ht:=Rel.ht_terms r;have hmem:=abc hf
  obtain⟨lp,_⟩:=zy (e:=.exit 0) (L:=CS m) (st:=fun(o:Rows) i=>jN w r i o) (l:=l) (d:=[]) (g:=fun o x=>if kM w r.terms x=true then o++[x]else o) (fun i o=>o.length≤i) (by omega)
   (fun o i x hi hx hI=>by
    have hI':o.length≤i:=hI;have hxm:x∈l:=by rw[←hx];exact cG (by omega)
    obtain⟨b,hb⟩:=hmem x hxm;rw[ab8];simp only[z8,Rel.ids_eq,kN hl,hi,decide_true,if_true,and_true,y5,hx];rw[z6 (by omega),z6 (by omega),z6 ⟨hE,b,hb⟩];by_cases hp:kM w r.terms x=true
    ·rw[if_pos hp,if_pos hp,z6 (by unfold ze;rw[yd];omega)];exact⟨by show(o++[x]).length≤i+1;rw[yb,yd];omega,rfl⟩
    ·rw[if_neg hp,if_neg hp]
     exact⟨by show o.length≤i+1;omega,rfl⟩)
   (fun o _=>by rw[ab8];simp only[z8,Rel.ids_eq,kN hl];rw[if_neg (by simp)]) [] (y7 _)
  have hfo:=Ot (kM w r.terms) [] hf (fun x hx b hb=>xM hb);rw[yr]at hfo;rw[avW,Rel.ids_eq,z6 (by omega),z6 (qV hl)];refine(zf lp).trans ?_;rw[avX,hfo]
 ·simp at hv
def avZ(m:Nat)(hG:jM m):aj 86 (Rc<|m+1):=aJ zo zo (M:=(Jt m)) rfl ⟨hG.2.2.2.2.1,hG.2.2.2.1,trivial⟩ Tryz.func86 fun w r=>GiF.r fun w1 o=>avY m w r (am w1 0) (am w1 1) (aA o 0)<|aA o 1
def Ju(m:Nat):Mc Un:=az [(91,qT m),(137,tD),(121,qS m)] [] [] [] []
def Jv(m:Nat):S Un→Option (EX Un):=aC (Ju m) xN Tryz.f87 [1,1,0,1,2,2] 3
def ab9(m:Nat):Exit→S Un→Option (RF Un):=aE (Ju m) xN Tryz.f87 [1,1,0,1,2] [.m]
def aca(m:Nat)(w:Wld)(r:Rel):Option (RF Un):=aw (Ju m) xN Tryz.f87 2 [.m] [.d<|.agg<|enc Ty.wld w,.d<|.agg<|enc Ty.rel r]
def av0(m w r):aca m w r=ae ((8:Nat)*(Rel.ids r).ht+(4:Nat)<m) (ae (i9 w (Rel.ids r) (0:Int))<|(Jv m<|jN w r (0:Int)<|[]).bind<|zd<|ab9 m):=ah
def acb(m w r v0 v1):Jv m (jN w r v0 v1)=af (decide<|v0<(↑(bC w (Rel.ids r) (0:Int)).length:Int)) (ae (0≤v0∧v0<(↑(bC w (Rel.ids r) (0:Int)).length:Int))<|ae (w.env.length≤(100000000:Nat))<|ae ((8:Nat)*aY r.terms+(8:Nat)<m)<|ae (AG (zp w<|(bC w (Rel.ids r) (0:Int)).getD v0.toNat []) r.terms)<|ae ((v1.length+[ja (zp w<|(bC w (Rel.ids r) (0:Int)).getD v0.toNat []) r.terms].length)*(24:Nat)≤ze)<|Jv m<|jN w r (IntKind.i64.wrap<|v0+1)<|v1++[ja (zp w<|(bC w (Rel.ids r) (0:Int)).getD v0.toNat []) r.terms]) (some (.exit 0,(jN w r v0 v1))):=aF
def av1(m w r v0 v1):ab9 m (.exit 0) (jN w r v0 v1)=some (aW v1):=ah
def av2 m(w:Wld)(r:Rel)(_hw:WS .wld w)(_hr:WS .rel r)(hm:8*r.ht+6<m+1)(h:Om w r):aca m w r=some (aW (tI w r)):=by
 obtain⟨v,hv⟩:=h;have e:tI w r=v:=by unfold tI;rw[hv];rfl
 rw[e];unfold FD sj at hv;split at hv
 ·rename_i hE;obtain⟨l,hl,hf⟩:=y6.1 hv;have hll:=m9 hl;have ht:=Rel.ht_terms r;have hmem:=AJ hf
  obtain⟨lp,_⟩:=zy (e:=.exit 0) (L:=Jv m) (st:=fun(o:Rows) i=>jN w r i o) (l:=l) (d:=[]) (g:=fun o x=>o++[ja (zp w x) r.terms]) (fun i o=>o.length=i) (by omega)
   (fun o i x hi hx hI=>by
    have hI':o.length=i:=hI;have hxm:x∈l:=by rw[←hx];exact cG (by omega)
    obtain⟨b,hb⟩:=hmem x hxm;refine⟨by show(o++[_]).length=i+1;rw[yb,yd];omega,?_⟩;rw[acb];simp only[z8,Rel.ids_eq,kN hl,hi,decide_true,if_true,and_true,y5,hx]
    rw[z6 (by omega),z6 hE.1,z6 (by omega),z6 ⟨hE.2,b,hb⟩,z6 (by unfold ze;rw[yd];omega)])
   (fun o _=>by rw[acb];simp only[z8,Rel.ids_eq,kN hl];rw[if_neg (by simp)]) [] rfl
  rw[ij,yr,AK (fun x=>ja (zp w x) r.terms) hf (fun x hx y hy=>CR hy)]at lp;rw[av0,Rel.ids_eq,z6 (by omega),z6 (qV hl)];refine(zf lp).trans ?_;rw[av1]
 ·simp at hv
def av3(m:Nat)(hG:jM m):aj 87 (Rd<|m+1):=aJ zo zo (M:=(Ju m)) rfl ⟨hG.2.2.2.2.1,Jd,hG.2.2.1,trivial⟩ Tryz.func87 fun w r=>GiF.r fun w1 o=>av2 m w r (am w1 0) (am w1 1) (aA o 0)<|aA o 1
def xO(m:Nat):Mc Un:=az [(91,qT m),(138,abL),(136,Jp m)] [] [] [] []
def qX:Nat→NS:=aO [(7,{ts:=bl 72 7516193004,bs:=bl 72 12,nm:=[(.sl 5,288),(.sl 6,289),(.sl 30,290),(.sl 7,291)],cs:=true}),(11,{ts:=bl 72 488552531692,bs:=bl 72 12,nm:=[(.sl 5,292),(.sl 6,293),(.sl 30,294),(.sl 7,295)],cs:=true})] true
def jO(w:Wld)(r:Rel):=bC w (Rel.mk r.op r.table r.cols r.kids r.terms r.aggs r.keys r.limit r.skip r.all r.rows) (0:Int)
def qY(w:Wld)(r:Rel):=bC w (Rel.mk r.op r.table r.cols r.kids r.terms r.aggs r.keys r.limit r.skip r.all r.rows) (1:Int)
def Jw(w:Wld)(r:Rel)(v0:Int)(v4:Int):=o6 [(jO w r).getD v0.toNat [],(qY w r).getD v4.toNat []]
def lS(w:Wld)(r:Rel)(v0:Int)(v1:Option Nat)(v2:List (List Val)):S Un:=(st 72 72 296 0 [(2,ax 2),(3,ax 3),(5,ao 288),(6,ao 289),(7,ao 291),(30,ao 290),(31,ai (↑(jO w r).length:Int)),(32,ai v0)] [(2,bg .wld w),(3,bg .rel r)] [(288,some ⟨(0:Nat),Ty.row,bC w (Rel.ids r) (1:Int),some (0:Nat),true⟩),(289,some ⟨(0:Nat),Ty.val,List.replicate (↑(Rel.cols<|r.kids.getD 1 za).length:Int).toNat z7,v1,true⟩),(290,some ⟨(0:Nat),Ty.row,bC w (Rel.ids r) (0:Int),some (0:Nat),true⟩),(291,some ⟨(0:Nat),Ty.row,v2,some (0:Nat),true⟩)])
def pc(w:Wld)(r:Rel)(v0:Int)(v1:Option Nat)(v2:List (List Val))(v3:Bool)(v4:Int):S Un:=(st 72 72 296 0 [(2,ax 2),(3,ax 3),(5,ao 292),(6,ao 293),(7,ao 295),(9,al .val<|(jO w r).getD v0.toNat []),(10,ab v3),(30,ao 294),(31,ai (↑(jO w r).length:Int)),(32,ai v0),(36,ao 292),(37,ai (↑(qY w r).length:Int)),(38,ai v4)] [(2,bg .wld w),(3,bg .rel r)] [(292,some ⟨(0:Nat),Ty.row,bC w (Rel.ids r) (1:Int),some (0:Nat),true⟩),(293,some ⟨(0:Nat),Ty.val,List.replicate (↑(Rel.cols<|r.kids.getD 1 za).length:Int).toNat z7,v1,true⟩),(294,some ⟨(0:Nat),Ty.row,bC w (Rel.ids r) (0:Int),some (0:Nat),true⟩),(295,some ⟨(0:Nat),Ty.row,v2,some (0:Nat),true⟩)])
def pd(m:Nat):S Un→Option (EX Un):=aC (xO m) qX Tryz.f88 [1,1,1,1,1,0,1,2,2] 7
noncomputable def acd:Code:=sub (sub (zh Tryz.f88) [1,1,1,1,1,0,1,2,2]) [1,1,0,2,1,1,0,1,2,2]
def CT(m:Nat):S Un→Option (EX Un):=bA (qX 11) fun s Q=>aR (xO m) qX acd s Q
def Rh(m:Nat):Exit→S Un→Option (RF Un):=aE (xO m) qX Tryz.f88 [1,1,1,1,1,0,1,2] [.m]
def Ri(m:Nat):Exit→S Un→Option (EX Un):=bu (xO m) qX (sub (zh Tryz.f88) [1,1,1,1,1,0,1,2,2]) [1,1,0,2,1,1,0,1,2]<|eV (qX 7)<|pd m
def ace(m:Nat)(w:Wld)(r:Rel):Option (RF Un):=aw (xO m) qX Tryz.f88 8 [.m] [.d<|.agg<|enc Ty.wld w,.d<|.agg<|enc Ty.rel r]
def av4(m w r):ace m w r=af (decide<|(↑r.kids.length:Int)<(2:Int)) (some<|aW<|[]) (ae ((8:Nat)*(Rel.ids r).ht+(4:Nat)<m)<|ae (i9 w (Rel.ids r) (1:Int))<|ae ((0:Int)≤(1:Int)∧(1:Int)<(↑r.kids.length:Int))<|ae ((0:Int)≤(↑(Rel.cols<|r.kids.getD 1 za).length:Int)∧(↑(Rel.cols<|r.kids.getD 1 za).length:Int)≤(↑(Rel.cols<|r.kids.getD 1 za).length:Int)∧(↑(Rel.cols<|r.kids.getD 1 za).length:Int).toNat*(32:Nat)≤ze)<|ae ((8:Nat)*(Rel.ids r).ht+(4:Nat)<m)<|ae (i9 w (Rel.ids r) (0:Int))<|(pd m<|lS w r (0:Int) (some (0:Nat))<|[]).bind<|zd<|Rh m):=ah
def acf(m w r v0 v1 v2):pd m (lS w r v0 v1 v2)=af (decide<|v0<(↑(jO w r).length:Int)) (ae (0≤v0∧v0<(↑(jO w r).length:Int))<|(CT m<|pc w r v0 v1 v2 false (0:Int)).bind<|zd<|Ri m) (some (.exit 0,(lS w r v0 v1 v2))):=aF
def av5(m w r v0 v1 v2):Rh m (.exit 0) (lS w r v0 v1 v2)=some (aW v2):=ah
def acg m w r v0 v1 v2 v3 v4:CT m (pc w r v0 v1 v2 v3 v4)=af (decide<|v4<(↑(qY w r).length:Int)) (ae (0≤v4∧v4<(↑(qY w r).length:Int))<|ae ([(jO w r).getD v0.toNat [],(qY w r).getD v4.toNat []].flatten.length≤(1000000000:Nat))<|ae ((8:Nat)*aY r.terms+(8:Nat)<m)<|ae (FB w r.terms<|Jw w r v0 v4)<|af (kM w r.terms<|Jw w r v0 v4) (ae ((v2.length+[o6 [(jO w r).getD v0.toNat [],(qY w r).getD v4.toNat []]].length)*(24:Nat)≤ze)<|CT m<|pc w r v0 v1 (v2++[o6 [(jO w r).getD v0.toNat [],(qY w r).getD v4.toNat []]]) true<|IntKind.i64.wrap<|v4+1)<|CT m<|pc w r v0 v1 v2 v3<|IntKind.i64.wrap<|v4+1) (some (.exit 2,(pc w r v0 v1 v2 v3 v4))):=(fU (qX 11) acd _).trans<|by kernel_rfl
def av6(m w r v0 v1 v2 v3 v4):Ri m (.exit 2) (pc w r v0 v1 v2 v3 v4)=af (!v3) (af (r.op==6) (ae ([(jO w r).getD v0.toNat [],List.replicate (↑(Rel.cols<|r.kids.getD 1 za).length:Int).toNat z7].flatten.length≤(1000000000:Nat))<|ae ((v2.length+[o6 [(jO w r).getD v0.toNat [],List.replicate (↑(Rel.cols<|r.kids.getD 1 za).length:Int).toNat z7]].length)*(24:Nat)≤ze)<|pd m<|lS w r (IntKind.i64.wrap<|v0+1) none<|v2++[o6 [(jO w r).getD v0.toNat [],List.replicate (↑(Rel.cols<|r.kids.getD 1 za).length:Int).toNat z7]])<|pd m<|lS w r (IntKind.i64.wrap<|v0+1) v1 v2) (pd m<|lS w r (IntKind.i64.wrap<|v0+1) v1 v2):=ah
def av7 m(w:Wld)(r:Rel)(_hw:WS .wld w)(_hr:WS .rel r)(hm:8*r.ht+6<m+1)(h:FF w r):ace m w r=some (aW (lQ w r)):=by
 obtain⟨v,hv⟩:=h;have e:lQ w r=v:=by unfold lQ;rw[hv];rfl
 rw[e];have ht:=Rel.ht_terms r;unfold u9 sm at hv;rw[av4];simp only[z8,Rel.ids_eq,decide_eq_true_eq];by_cases c:r.kids.length<2
 ·rw[if_pos c]at hv;obtain rfl:=yg hv;rw[if_pos (by omega)]
 rw[if_neg c]at hv;rw[if_neg (by omega)];split at hv
 ·rename_i hc;obtain⟨hE,hC⟩:=hc;obtain⟨right,hR,hv⟩:=y6.1 hv;obtain⟨l,hL,hv⟩:=y6.1 hv;obtain⟨s,hS,hv⟩:=y6.1 hv;obtain⟨rfl,hlen⟩:=qO hv;have hrl:=m9 hR;have hll:=m9 hL;have e1:jO w r=l:=kN hL;have e2:qY w r=right:=FP hR;have ecc:∀a b:List Val,o6 [a,b]=a++b:=fun a b=>by unfold o6;simp
  have efl:∀a b:List Val,[a,b].flatten.length=a.length+b.length:=fun a b=>by simp
  have inner:∀(i:Nat)(fr:Option Nat)(a:List Val),l.getD i []=a→∀(q:Rows)(j:Nat)(out:Rows)(met:Bool)(u:Rows),right.drop j=q→j≤right.length→
   gA (fun x=>if x.length≤100000000 then cF r.terms (zp w x)else none) (q.map (a++·))=some u→out.length+u.length≤100000000→
   CT m (pc w r (i:Int) fr out met (j:Int))=some (.exit 2,pc w r (i:Int) fr (out++u) (met||decide (0<u.length)) (right.length:Int)):=by
   intro i fr a ha q
   induction q with
   |nil=>
    intro j out met u hr hj hu ho;have hjl:right.length≤j:=by rw[←y1o];exact hr
    obtain rfl:j=right.length:=by omega
    simp only[jr,gA,y8]at hu;subst hu;rw[acg,e2,z8,if_neg (by simp)];simp
   |cons b q ih=>
    intro j out met u hr hj hu ho;obtain⟨a1,a2,a3,hmem⟩:=d9 hr;have hb:right.getD j []=b:=a2 [];rw[cL]at hu;obtain⟨y,u',h1,h2,h3⟩:=Oq hu;split at h1
    ·rename_i hab;rw[yb]at hab;have e3:Jw w r (i:Int) (j:Int)=a++b:=by unfold Jw;rw[e1,e2,y5,y5,ha,hb,ecc]
     rw[acg,e1,e2,e3];simp only[z8,y5,ha,hb,ecc,efl];rw[if_pos (by simp;omega),z6 (by omega),z6 (by omega),z6 (by omega),z6 ⟨hE,y,h1⟩,xM h1,eW a1 (by omega)];cases y with
     |true=>
      rw[if_pos rfl]at h3 ⊢;subst h3;rw[yz]at ho;rw[z6 (by unfold ze;rw[yd];omega),ih (j+1) (out++[a++b]) true u' a3 (by omega) h2 (by rw[yb,yd];omega)];simp
     |false=>
      rw[if_neg (by simp)]at h3 ⊢;subst h3;exact ih (j+1) out met _ a3 (by omega) h2 ho
    ·simp at h1
  have outer:∀(q:Rows)(i:Nat)(fr:Option Nat)(out:Rows)(s:Rows),l.drop i=q→i≤l.length→
   lN (decide (r.op=6)) (List.replicate (r.kids.getD 1 za).cols.length z7) (fun x=>if x.length≤100000000 then cF r.terms (zp w x)else none) right q=some s→out.length+s.length≤100000000→
   (pd m (lS w r (i:Int) fr out)).bind (zd (Rh m))=some (aW (out++s)):=by
   intro q
   induction q with
   |nil=>
    intro i fr out s hr hi hs ho;have hil:l.length≤i:=by rw[←y1o];exact hr
    simp only[lN,y8]at hs;subst hs;have e:pd m (lS w r (i:Int) fr out)=some (.exit 0,lS w r (i:Int) fr out):=by rw[acf,e1,z8,if_neg (by simp;omega)]
    rw[zf e,av5,de]
   |cons a q ih=>
    intro i fr out s hr hi hs ho;obtain⟨a1,a2,a3,hmem⟩:=d9 hr;have ha:l.getD i []=a:=a2 [];simp only[lN,y6]at hs;obtain⟨u,hu,z,hz,s',hs',h3⟩:=hs;obtain rfl:=yg h3;rw[yb]at ho;have hzu:u.length≤z.length:=by
     split at hz
     ·rename_i hc;omega
     ·rw[yg hz];exact y7 _
    have e:pd m (lS w r (i:Int) fr out)=Ri m (.exit 2) (pc w r (i:Int) fr (out++u) (false||decide (0<u.length)) (right.length:Int)):=by
     rw[acf,e1,z8,if_pos (by simp;omega),z6 (by omega)];exact zf (inner i fr a ha right 0 out false u rfl (yc _) hu (by omega))
    rw[e,av6,e1];simp only[z8,y5,ha,ecc,efl,Gk,eW a1 (show l.length≤9223372036854775807 by omega),beq_iff_eq];by_cases d:u.length=0
    ·rw[if_pos (by simp[d])];obtain rfl:=yx d;by_cases d6:r.op=6
     ·rw[if_pos d6];rw[if_pos ⟨d,by simp[d6]⟩]at hz;split at hz
      ·rename_i hab;obtain rfl:=yg hz;rw[yb,sE]at hab;rw[yd]at ho;rw[z6 (by rw[sE];omega),z6 (by unfold ze;rw[yd,de];omega),de];rw[ih (i+1) none _ s' a3 (by omega) hs' (by rw[yb,yd];omega)];simp
      ·simp at hz
     ·rw[if_neg d6];rw[if_neg (fun e=>d6 (by simpa using e.2))]at hz;obtain rfl:=yg hz;rw[de,ih (i+1) fr out s' a3 (by omega) hs' (by simpa using ho)];simp
    ·rw[if_neg (by rw[decide_eq_true (Nat.pos_of_ne_zero d)];decide)];rw[if_neg (fun e=>d e.1)]at hz;obtain rfl:=yg hz;rw[ih (i+1) fr (out++u) s' a3 (by omega) hs' (by rw[yb];omega),yw]
  rw[z6 (by omega),z6 (abW hR),z6 (by omega),z6 (by rw[y5];refine⟨by omega,by omega,?_⟩;unfold ze;omega),z6 (by omega),z6 (qV hL)];have:=outer l 0 (some 0) [] s rfl (yc _) hS (by simpa using hlen);exact this
 ·simp at hv
def av8(m:Nat)(hG:jM m):aj 88 (Re<|m+1):=aJ zo zo (M:=(xO m)) rfl ⟨hG.2.2.2.2.1,au9,hG.2.2.2.1,trivial⟩ Tryz.func88 fun w r=>GiF.r fun w1 o=>av7 m w r (am w1 0) (am w1 1) (aA o 0)<|aA o 1
def qZ(m:Nat):Mc Un:=az [(91,qT m),(139,CQ m),(140,Fi),(137,tD),(67,tL m),(141,aai)] [] [] [] []
def jP:Nat→NS:=aO [(3,{ts:=bl 76 7340076,bs:=bl 76 12,nm:=[(.sl 5,304)],cs:=true}),(7,{ts:=bl 76 7523533228,bs:=bl 76 140,nm:=[(.sl 8,305),(.sl 5,306)],cs:=true}),(11,{ts:=bl 76 969596210604,bs:=bl 76 1164,nm:=[(.sl 11,307),(.sl 8,308),(.sl 5,309)],cs:=true})] true
def eO(w:Wld)(r:Rel):=bC w (Rel.mk r.op r.table r.cols r.kids r.terms r.aggs r.keys r.limit r.skip r.all r.rows) (0:Int)
def Rj(r:Rel)(v2:Int)(v5:List Val):=gx (Agg.mk (Agg.name<|r.aggs.getD v2.toNat zr) (Agg.distinct<|r.aggs.getD v2.toNat zr)<|Agg.t<|r.aggs.getD v2.toNat zr) v5
def xP(w:Wld)(r:Rel)(v0:Int)(v1:List (List Val)):S Un:=(st 76 76 310 0 [(2,ax 2),(3,ax 3),(5,ao 304),(20,al .bunch<|dG w (eO w r) r.terms),(21,ai (↑(dG w (eO w r) r.terms).length:Int)),(22,ai v0)] [(2,bg .wld w),(3,bg .rel r)] [(304,some ⟨(0:Nat),Ty.row,v1,some (0:Nat),true⟩)])
def rc(w:Wld)(r:Rel)(v0:Int)(v1:List (List Val))(v2:Int)(v3:List Val):S Un:=(st 76 76 310 0 [(2,ax 2),(3,ax 3),(5,ao 306),(7,ax 7),(8,ao 305),(20,al .bunch<|dG w (eO w r) r.terms),(21,ai (↑(dG w (eO w r) r.terms).length:Int)),(22,ai v0),(30,al .agg r.aggs),(31,ai (↑r.aggs.length:Int)),(32,ai v2)] [(2,bg .wld w),(3,bg .rel r),(7,some (false,jk Ty.bunch<|(dG w (eO w r) r.terms).getD v0.toNat zu))] [(305,some ⟨(0:Nat),Ty.val,v3,some (0:Nat),true⟩),(306,some ⟨(0:Nat),Ty.row,v1,some (0:Nat),true⟩)])
def pe(w:Wld)(r:Rel)(v0:Int)(v2:Int)(v3:List Val)(v1:List (List Val))(v4:Int)(v5:List Val):S Un:=(st 76 76 310 0 [(2,ax 2),(3,ax 3),(5,ao 309),(7,ax 7),(8,ao 308),(10,ax 10),(11,ao 307),(20,al .bunch<|dG w (eO w r) r.terms),(21,ai (↑(dG w (eO w r) r.terms).length:Int)),(22,ai v0),(30,al .agg r.aggs),(31,ai (↑r.aggs.length:Int)),(32,ai v2),(37,AV.one<|A.c<|C.sl Ty.row ((dG w (eO w r) r.terms).getD v0.toNat zu).rows false),(38,ai (↑((dG w (eO w r) r.terms).getD v0.toNat zu).rows.length:Int)),(39,ai v4)] [(2,bg .wld w),(3,bg .rel r),(7,some (false,jk Ty.bunch<|(dG w (eO w r) r.terms).getD v0.toNat zu)),(10,some (false,jk Ty.agg<|r.aggs.getD v2.toNat zr))] [(307,some ⟨(0:Nat),Ty.val,v5,some (0:Nat),true⟩),(308,some ⟨(0:Nat),Ty.val,v3,some (0:Nat),true⟩),(309,some ⟨(0:Nat),Ty.row,v1,some (0:Nat),true⟩)])
def CU(m:Nat):S Un→Option (EX Un):=aC (qZ m) jP Tryz.f89 [1,1,0,1,2,2] 3
noncomputable def Rk:Code:=sub (sub (zh Tryz.f89) [1,1,0,1,2,2]) [1,1,0,2,1,1,0,1,2,2]
def xQ(m:Nat):S Un→Option (EX Un):=bA (jP 7) fun s Q=>aR (qZ m) jP Rk s Q
noncomputable def ach:Code:=sub (sub (sub (zh Tryz.f89) [1,1,0,1,2,2]) [1,1,0,2,1,1,0,1,2,2]) [1,1,0,2,1,1,0,1,2,2]
def xR(m:Nat):S Un→Option (EX Un):=bA (jP 11) fun s Q=>aR (qZ m) jP ach s Q
def aci(m:Nat):Exit→S Un→Option (RF Un):=aE (qZ m) jP Tryz.f89 [1,1,0,1,2] [.m]
def acj(m:Nat):Exit→S Un→Option (EX Un):=bu (qZ m) jP (sub (zh Tryz.f89) [1,1,0,1,2,2]) [1,1,0,2,1,1,0,1,2]<|eV (jP 3)<|CU m
def ack(m:Nat):Exit→S Un→Option (EX Un):=bu (qZ m) jP Rk [1,1,0,2,1,1,0,1,2]<|eV (jP 7)<|xQ m
def acl(m:Nat)(w:Wld)(r:Rel):Option (RF Un):=aw (qZ m) jP Tryz.f89 6 [.m] [.d<|.agg<|enc Ty.wld w,.d<|.agg<|enc Ty.rel r]
def av9(m w r):acl m w r=ae ((8:Nat)*(Rel.ids r).ht+(4:Nat)<m) (ae (i9 w (Rel.ids r) (0:Int))<|ae ((8:Nat)*aY r.terms+(9:Nat)<m)<|ae (Oo w (eO w r) r.terms)<|(CU m<|xP w r (0:Int)<|[]).bind<|zd<|aci m):=ah
def acm(m w r v0 v1):CU m (xP w r v0 v1)=af (decide<|v0<(↑(dG w (eO w r) r.terms).length:Int)) (ae (0≤v0∧v0<(↑(dG w (eO w r) r.terms).length:Int))<|ae (((dG w (eO w r) r.terms).getD v0.toNat zu).key.length≤(1000000000:Nat))<|(xQ m<|rc w r v0 v1 (0:Int)<|((dG w (eO w r) r.terms).getD v0.toNat zu).key).bind<|zd<|acj m) (some (.exit 0,(xP w r v0 v1))):=aF
def awa(m w r v0 v1):aci m (.exit 0) (xP w r v0 v1)=some (aW v1):=ah
def acn m w r v0 v1 v2 v3:xQ m (rc w r v0 v1 v2 v3)=af (decide<|v2<(↑r.aggs.length:Int)) (ae (0≤v2∧v2<(↑r.aggs.length:Int))<|(xR m<|pe w r v0 v2 v3 v1 (0:Int)<|[]).bind<|zd<|ack m) (some (.exit 2,(rc w r v0 v1 v2 v3))):=(fU (jP 7) Rk _).trans<|by kernel_rfl
def awb(m w r v0 v1 v2 v3):acj m (.exit 2) (rc w r v0 v1 v2 v3)=ae ((v1.length+[v3].length)*(24:Nat)≤ze) (CU m<|xP w r (IntKind.i64.wrap<|v0+1)<|v1++[v3]):=ah
def aco m w r v0 v2 v3 v1 v4 v5:xR m (pe w r v0 v2 v3 v1 v4 v5)=af (decide<|v4<(↑((dG w (eO w r) r.terms).getD v0.toNat zu).rows.length:Int)) (ae (0≤v4∧v4<(↑((dG w (eO w r) r.terms).getD v0.toNat zu).rows.length:Int))<|af ((↑(Agg.t<|r.aggs.getD v2.toNat zr).length:Int)==(0:Int)) (ae ((v5.length+[z7].length)*(32:Nat)≤ze)<|xR m<|pe w r v0 v2 v3 v1 (IntKind.i64.wrap<|v4+1)<|v5++[z7])<|ae (w.env.length≤(100000000:Nat))<|ae ((0:Int)≤(0:Int)∧(0:Int)<(↑(Agg.t<|r.aggs.getD v2.toNat zr).length:Int))<|ae ((8:Nat)*(Term.ids<|(Agg.t<|r.aggs.getD v2.toNat zr).getD 0 zb).ht+(7:Nat)<m)<|ae (xC (zp w<|((dG w (eO w r) r.terms).getD v0.toNat zu).rows.getD v4.toNat [])<|Term.ids<|(Agg.t<|r.aggs.getD v2.toNat zr).getD 0 zb)<|ae ((v5.length+[(kL (zp w<|((dG w (eO w r) r.terms).getD v0.toNat zu).rows.getD v4.toNat [])<|Term.ids<|(Agg.t<|r.aggs.getD v2.toNat zr).getD 0 zb)].length)*(32:Nat)≤ze)<|xR m<|pe w r v0 v2 v3 v1 (IntKind.i64.wrap<|v4+1)<|v5++[(kL (zp w<|((dG w (eO w r) r.terms).getD v0.toNat zu).rows.getD v4.toNat [])<|Term.ids<|(Agg.t<|r.aggs.getD v2.toNat zr).getD 0 zb)]) (some (.exit 4,(pe w r v0 v2 v3 v1 v4 v5))):=(fU (jP 11) ach _).trans<|by kernel_rfl
def awc(m w r v0 v2 v3 v1 v4 v5):ack m (.exit 4) (pe w r v0 v2 v3 v1 v4 v5)=ae (v5.length≤(400000:Nat)) (ae ((v3.length+[(Rj r v2 v5)].length)*(32:Nat)≤ze)<|xQ m<|rc w r v0 v1 (IntKind.i64.wrap<|v2+1)<|v3++[(Rj r v2 v5)]):=ah
def awd m(w:Wld)(r:Rel)(_hw:WS .wld w)(hr:WS .rel r)(hm:8*r.ht+6<m+1)(h:On w r):acl m w r=some (aW (m8 w r)):=by
 obtain⟨v,hv⟩:=h;have e:m8 w r=v:=by unfold m8;rw[hv];rfl
 rw[e];have ht:=Rel.ht_terms r;unfold su sn at hv;split at hv
 ·rename_i hna;obtain⟨l,hL,hv⟩:=y6.1 hv;obtain⟨bs,hB,hv⟩:=y6.1 hv;have hll:=m9 hL;obtain⟨⟨hE,hN,_⟩,hkey,hbl⟩:=Ou hB;have c1:eO w r=l:=kN hL;have cb:dG w l r.terms=bs:=by unfold dG Ok;rw[hB];rfl
  have hvl:=xD hv
  have L11:∀(i k:Nat)(row:List Val)(o:Rows)(b:Bunch)(a:Agg)(vs:List Val),bs.getD i zu=b→r.aggs.getD k zr=a→a∈r.aggs→w.env.length≤100000000→dm (fun x=>tG a.t (zp w x)) b.rows=some vs→vs.length≤400000→
   xR m (pe w r (i:Int) (k:Int) row o (0:Int) [])=some (.exit 4,pe w r (i:Int) (k:Int) row o (b.rows.length:Int) vs):=by
   intro i k row o b a vs hb ha ham hE hmp hvs;have hrl:=xD hmp;have hmem:=AJ hmp;have hat:aY a.t<r.ht:=by have:=Rel.ht_agg ham;cases a;simp only[Agg.ht]at this;simp only[Agg.t_mk];omega
   obtain⟨lp,_⟩:=zy (e:=.exit 4) (L:=xR m) (st:=fun(z:List Val) q=>pe w r (i:Int) (k:Int) row o q z) (l:=b.rows) (d:=[]) (g:=fun z x=>z++[if a.t.length=0 then z7 else kL (zp w x) (a.t.getD 0 zb)]) (fun q z=>z.length=q) (by omega)
    (fun z q x hi hx hI=>by
     have hI':z.length=q:=hI;have hxm:x∈b.rows:=by rw[←hx];exact cG (by omega)
     obtain⟨y,hy⟩:=hmem x hxm;refine⟨by show(z++[_]).length=q+1;rw[yb,yd];omega,?_⟩;rw[aco,c1,cb];simp only[z8,Term.ids_eq,y5,hb,ha,hx,beq_iff_eq,yd];rw[if_pos (by simp;omega),z6 (by omega)];by_cases d:a.t.length=0
     ·rw[if_pos (by omega),if_pos d,z6 (by unfold ze;omega)]
     ·rw[sr,if_neg d]at hy;have hk:(a.t.getD 0 zb).ht≤aY a.t:=jy (cG (by omega))
      rw[if_neg (by omega),if_neg d,z6 hE,z6 (by omega),z6 (by omega),z6 ⟨y,hy⟩,z6 (by unfold ze;omega)])
    (fun z _=>by rw[aco,c1,cb];simp only[z8,y5,hb];rw[if_neg (by simp)]) [] rfl
   rw[ij,yr,AK (fun x=>if a.t.length=0 then z7 else kL (zp w x) (a.t.getD 0 zb)) hmp (fun x hx y hy=>by
    rw[sr]at hy;by_cases d:a.t.length=0
    ·rw[if_pos d]at hy ⊢;exact yg hy
    ·rw[if_neg d]at hy ⊢;exact qU hy)]at lp
   exact lp
  have L7:∀(i:Nat)(o:Rows)(b:Bunch)(vs:List Val),bs.getD i zu=b→b.key.length≤100000000→dm (fun a=>nA a w b.rows) r.aggs=some vs→
   xQ m (rc w r (i:Int) o (0:Int) b.key)=some (.exit 2,rc w r (i:Int) o (r.aggs.length:Int) (b.key++vs)):=by
   intro i o b vs hb hbk hmp;have hrl:=xD hmp;have hmem:=AJ hmp
   obtain⟨lp,_⟩:=zy (e:=.exit 2) (L:=xQ m) (st:=fun(z:List Val) q=>rc w r (i:Int) o q z) (l:=r.aggs) (d:=zr) (g:=fun z a=>z++[(nA a w b.rows).getD z7]) (fun q z=>z.length=b.key.length+q) (by omega)
    (fun z q a hi ha hI=>by
     have hI':z.length=b.key.length+q:=hI;have ham:a∈r.aggs:=by rw[←ha];exact cG (by omega)
     obtain⟨y,hy⟩:=hmem a ham;refine⟨by show(z++[_]).length=_;rw[yb,yd];omega,?_⟩;have hy0:=hy;rw[Oj,if_pos hE]at hy;obtain⟨us,hu,hy⟩:=y6.1 hy;by_cases hul:us.length≤400000
     ·rw[if_pos hul]at hy;obtain rfl:=yg hy;have c2:Rj r (q:Int) us=gx a us:=by
       show gx (Agg.ids (r.aggs.getD (q:Int).toNat zr)) us=_;rw[y5,ha];cases a;rfl
      rw[acn,z8,if_pos (by simp;omega),z6 (by omega)];refine(zf (L11 i q z o b a us hb ha ham hE hu hul)).trans ?_;rw[awc,c2,z6 hul,z6 (by unfold ze;rw[yd];omega),hy0];rfl
     ·rw[if_neg hul]at hy;simp at hy)
    (fun z _=>by rw[acn,z8,if_neg (by simp)]) b.key rfl
   rw[ij,AK (fun a=>(nA a w b.rows).getD z7) hmp (fun a ha y hy=>by rw[hy];rfl)]at lp;exact lp
  have hmem:=AJ hv
  obtain⟨lp,_⟩:=zy (e:=.exit 0) (L:=CU m) (st:=fun(o:Rows) q=>xP w r q o) (l:=bs) (d:=zu) (g:=fun o b=>o++[(((lO r.aggs w b.rows).bind fun vs=>some (b.key++vs))).getD []]) (fun q o=>o.length=q) (by omega)
   (fun o i b hi hb hI=>by
    have hI':o.length=i:=hI;have hbm:b∈bs:=by rw[←hb];exact cG (by omega)
    obtain⟨y,hy⟩:=hmem b hbm;have hbk:=hkey b hbm;refine⟨by show(o++[_]).length=_;rw[yb,yd];omega,?_⟩;have hy0:=hy;obtain⟨vs,hvs,hy⟩:=y6.1 hy;obtain rfl:=yg hy;have hvs':lO r.aggs w b.rows=some vs:=hvs;rw[FA]at hvs';rw[acm,c1,cb];simp only[z8,y5,hb];rw[if_pos (by simp;omega),z6 (by omega),z6 (by omega)];refine(zf (L7 i o b vs hb (by omega) hvs')).trans ?_;rw[awb,z6 (by unfold ze;rw[yd];omega),hy0]
    rfl)
   (fun o _=>by rw[acm,c1,cb,z8,if_neg (by simp)]) [] rfl
  rw[ij,yr,AK (fun b=>(((lO r.aggs w b.rows).bind fun vs=>some (b.key++vs))).getD []) hv (fun b hb y hy=>by rw[hy];rfl)]at lp;rw[av9,Rel.ids_eq,c1,z6 (by omega),z6 (qV hL),z6 (by omega),z6 ⟨bs,hB⟩];refine(zf lp).trans ?_;rw[awa]
 ·simp at hv
def awe(m:Nat)(hG:jM m):aj 89 (Rf<|m+1):=aJ zo zo (M:=(qZ m)) rfl ⟨hG.2.2.2.2.1,hG.2.2.2.2.2.2.2.2.2.1,arP,Jd,hG.2.1,asn,trivial⟩ Tryz.func89 fun w r=>GiF.r fun w1 o=>awd m w r (am w1 0) (am w1 1) (aA o 0)<|aA o 1
def Jx(m:Nat):Mc Un:=az [(91,qT m),(143,abR),(90,N2),(85,I4),(142,QY)] [] [] [(144,Q5)] []
def OR:Nat→NS:=aO [(11,{ts:=bl 64 481036337544,bs:=bl 64 8,nm:=[(.sl 7,256),(.sl 36,257),(.sl 8,258)],cs:=true})] true
def tN(w:Wld)(r:Rel):=xL [bC w (Rel.mk r.op r.table r.cols r.kids r.terms r.aggs r.keys r.limit r.skip r.all r.rows) (0:Int),bC w (Rel.mk r.op r.table r.cols r.kids r.terms r.aggs r.keys r.limit r.skip r.all r.rows) (1:Int)]
def CV(w:Wld)(r:Rel):=bC w (Rel.mk r.op r.table r.cols r.kids r.terms r.aggs r.keys r.limit r.skip r.all r.rows) (1:Int)
def tO(w:Wld)(r:Rel):=bC w (Rel.mk r.op r.table r.cols r.kids r.terms r.aggs r.keys r.limit r.skip r.all r.rows) (0:Int)
def jd(r:Rel)(v0:Int)(v1:List (List Val))(v2:Int)(v3:List (List Val))(v4:List (List Val)):S Un:=(st 64 64 259 0 [(3,ax 3),(7,ao 256),(8,ao 258),(36,ao 257),(37,ai v0),(38,ai v2)] [(3,bg .rel r)] [(256,some ⟨(0:Nat),Ty.row,v3,some (0:Nat),true⟩),(257,some ⟨(0:Nat),Ty.row,v1,some (0:Nat),true⟩),(258,some ⟨(0:Nat),Ty.row,v4,some (0:Nat),true⟩)])
def lT(m:Nat):S Un→Option (EX Un):=aC (Jx m) OR Tryz.f92 [1,1,1,1,1,1,1,0,1,2,2] 11
def xS(m:Nat):Exit→S Un→Option (RF Un):=aE (Jx m) OR Tryz.f92 [1,1,1,1,1,1,1,0,1,2] [.m]
def acp(m:Nat)(w:Wld)(r:Rel):Option (RF Un):=aw (Jx m) OR Tryz.f92 3 [.m] [.d<|.agg<|enc Ty.wld w,.d<|.agg<|enc Ty.rel r]
def awg(m w r):acp m w r=ae ((8:Nat)*(Rel.ids r).ht+(4:Nat)<m) (ae (i9 w (Rel.ids r) (0:Int))<|ae ((8:Nat)*(Rel.ids r).ht+(4:Nat)<m)<|ae (i9 w (Rel.ids r) (1:Int))<|af (r.op==9) (ae ([bC w (Rel.ids r) (0:Int),bC w (Rel.ids r) (1:Int)].flatten.length≤(1000000000:Nat))<|af (!r.all) (ae ((tN w r).length≤(100000000:Nat))<|af (r.op==9) (some<|aW<|bV<|tN w r)<|ae ((CV w r).length≤(1000000000:Nat))<|(lT m<|jd r (↑(bV<|tN w r).length:Int) (bV<|tN w r) (0:Int) (bC w (Rel.ids r) (1:Int))<|[]).bind<|zd<|xS m)<|af (r.op==9) (some<|aW<|tN w r)<|ae ((CV w r).length≤(1000000000:Nat))<|(lT m<|jd r (↑(tN w r).length:Int) (xL [bC w (Rel.ids r) (0:Int),bC w (Rel.ids r) (1:Int)]) (0:Int) (bC w (Rel.ids r) (1:Int))<|[]).bind<|zd<|xS m)<|af (!r.all) (ae ((tO w r).length≤(100000000:Nat))<|af (r.op==9) (some<|aW<|bV<|tO w r)<|ae ((CV w r).length≤(1000000000:Nat))<|(lT m<|jd r (↑(bV<|tO w r).length:Int) (bV<|tO w r) (0:Int) (bC w (Rel.ids r) (1:Int))<|[]).bind<|zd<|xS m)<|af (r.op==9) (some<|aW<|tO w r)<|ae ((CV w r).length≤(1000000000:Nat))<|(lT m<|jd r (↑(tO w r).length:Int) (bC w (Rel.ids r) (0:Int)) (0:Int) (bC w (Rel.ids r) (1:Int))<|[]).bind<|zd<|xS m):=ah
def acq(m r v0 v1 v2 v3 v4):lT m (jd r v0 v1 v2 v3 v4)=af (decide<|v2<v0) (ae (0≤v2∧v2<(↑v1.length:Int))<|af (decide<|zj v3 (v1.getD v2.toNat [])≥0) (ae (0≤zj v3 (v1.getD v2.toNat [])∧zj v3 (v1.getD v2.toNat [])<IntKind.i64.wrap (zj v3 (v1.getD v2.toNat [])+1)∧IntKind.i64.wrap (zj v3 (v1.getD v2.toNat [])+1)≤(↑v3.length:Int))<|af (decide (zj v3 (v1.getD v2.toNat [])≥0)==(r.op==10)) (ae ((v4.length+[v1.getD v2.toNat []].length)*(24:Nat)≤ze)<|lT m<|jd r v0 v1 (IntKind.i64.wrap<|v2+1) (List.take (zj v3<|v1.getD v2.toNat []).toNat v3++List.drop (IntKind.i64.wrap<|zj v3 (v1.getD v2.toNat [])+1).toNat v3)<|v4++[v1.getD v2.toNat []])<|lT m<|jd r v0 v1 (IntKind.i64.wrap<|v2+1) (List.take (zj v3<|v1.getD v2.toNat []).toNat v3++List.drop (IntKind.i64.wrap<|zj v3 (v1.getD v2.toNat [])+1).toNat v3) v4)<|af (decide (zj v3 (v1.getD v2.toNat [])≥0)==(r.op==10)) (ae ((v4.length+[v1.getD v2.toNat []].length)*(24:Nat)≤ze)<|lT m<|jd r v0 v1 (IntKind.i64.wrap<|v2+1) v3<|v4++[v1.getD v2.toNat []])<|lT m<|jd r v0 v1 (IntKind.i64.wrap<|v2+1) v3 v4) (some (.exit 0,(jd r v0 v1 v2 v3 v4))):=aF
def awh(m r v0 v1 v2 v3 v4):xS m (.exit 0) (jd r v0 v1 v2 v3 v4)=some (aW v4):=ah
def awi m(w:Wld)(r:Rel)(_hw:WS .wld w)(_hr:WS .rel r)(hm:8*r.ht+6<m+1)(h:AI w r):acp m w r=some (aW<|oY w r):=by
 obtain⟨v,hv⟩:=h;have e:oY w r=v:=by unfold oY;rw[hv];rfl
 rw[e];unfold FE sq at hv;obtain⟨a,hA,hv⟩:=y6.1 hv;obtain⟨b,hB,hv⟩:=y6.1 hv;obtain⟨z,hz,hv⟩:=y6.1 hv;obtain rfl:=yg hv;have hal:=m9 hA;have hbl:=m9 hB;have e2:CV w r=b:=FP hB;have e3:tO w r=a:=kN hA;have e1:tN w r=a++b:=by
  show xL [bC w (Rel.ids r) 0,bC w (Rel.ids r) 1]=_;rw[Rel.ids_eq,kN hA,FP hB];unfold xL;simp
 have hpl:∀(x:List Val)(l:Rows),0≤zj l x→(zj l x).toNat<l.length∧((zj l x).toNat:Int)=zj l x:=fun x l h0=>by
  unfold zj at h0 ⊢;cases hf:l.findIdx? (fun y=>fP y x)with
  |none=>rw[hf]at h0;exact absurd h0<|by decide
  |some i=>exact⟨by simpa using(y27.1 hf).1,by simp⟩
 have loop:∀(c:Rows),c.length≤100000000→∀(q:Rows)(i:Nat)(left out:Rows),c.drop i=q→i≤c.length→left.length≤100000000→out.length≤i→
  (lT m<|jd r (c.length:Int) c (i:Int) left out).bind (zd<|xS m)=some (aW<|out++fQ (decide<|r.op=10) q left):=by
  intro c hc q
  induction q with
  |nil=>
   intro i left out hr hi hlf ho;have hil:c.length≤i:=by rw[←y1o];exact hr
   have e:lT m (jd r (c.length:Int) c (i:Int) left out)=some (.exit 0,jd r (c.length:Int) c (i:Int) left out):=by rw[acq,z8,if_neg (by simp;omega)]
   rw[zf e,awh];simp only[fQ,de]
  |cons x q ih=>
   intro i left out hr hi hlf ho;obtain⟨a1,a2,a3,hmem⟩:=d9 hr;have hx:c.getD i []=x:=a2 [];have hb0:∀p:Bool,(p==(r.op==10))=true↔p=decide (r.op=10):=fun p=>by
    have:(r.op==10)=decide (r.op=10):=by cases h:decide (r.op=10)<;>simp_all
    rw[this,beq_iff_eq]
   have hge:decide (zj left x≥0)=decide (0≤zj left x):=rfl;have hsl:=acq m r (c.length:Int) c (i:Int) left out;simp only[z8,y5,hx,eW a1<|show c.length≤9223372036854775807 by omega,hb0,hge]at hsl;rw[if_pos (by simp;omega),z6<|by omega]at hsl;simp only[fQ];by_cases d:0≤zj left x
   ·obtain⟨p1,p2⟩:=hpl x left d;obtain⟨p,hp⟩:∃p,p=(zj left x).toNat:=⟨_,rfl⟩;rw[←hp]at p1 p2;have hw1:IntKind.i64.wrap (zj left x+1)=((p+1:Nat):Int):=by rw[←p2];exact zm<|by omega
    have hlt:(left.take p++left.drop (p+1)).length≤100000000:=by rw[yb,yn,yt];omega
    have he:left.eraseIdx p=left.take p++left.drop (p+1):=y4f _ _;rw[if_pos<|by simpa using d,hw1,←p2,y5,y5,z6<|by omega]at hsl;rw[if_pos d,←hp,he];have dd:decide (0≤(p:Int))=true:=by simp
    rw[dd]at hsl;rw[decide_eq_true d];by_cases d2:true=decide (r.op=10)
    ·rw[if_pos d2,z6 (by unfold ze;rw[yd];omega)]at hsl;rw[if_pos d2,hsl,ih (i+1) _ (out++[x]) a3 (by omega) hlt (by rw[yb,yd];omega),yw]
    ·rw[if_neg d2]at hsl;rw[if_neg d2,hsl,ih (i+1) _ out a3 (by omega) hlt<|by omega,yr]
   ·rw[if_neg<|by simpa using d]at hsl;rw[if_neg d];rw[decide_eq_false d]at hsl ⊢;by_cases d2:false=decide (r.op=10)
    ·rw[if_pos d2,z6 (by unfold ze;rw[yd];omega)]at hsl;rw[if_pos d2,hsl,ih (i+1) _ (out++[x]) a3 (by omega) hlf (by rw[yb,yd];omega),yw]
    ·rw[if_neg d2]at hsl;rw[if_neg d2,hsl,ih (i+1) _ out a3 (by omega) hlf<|by omega,yr]
 have hon:∀l:Rows,(bV l).length≤l.length:=fun l=>by
  have:∀(l o:Rows),(l.foldl (fun o x=>if zj o x<0 then o++[x]else o) o).length≤o.length+l.length:=by
   intro l
   induction l with
   |nil=>intro o;simp
   |cons x l ih=>
    intro o;rw[yq];refine gK (ih _) ?_;split
    ·rw[yb,yd,yz];omega
    ·rw[yz];omega
  have h0:=this l [];rw[nN,iE]at h0;exact h0
 have s9:∀c:Rows,r.op=9→kY r.op r.all c b=if r.all=true then c else bV c:=fun c h=>by unfold kY;rw[if_pos h]
 have s10:∀c:Rows,r.op≠9→kY r.op r.all c b=fQ (decide<|r.op=10) (if r.all=true then c else bV c) b:=fun c h=>by unfold kY;rw[if_neg h]
 rw[awg];simp only[z8,Rel.ids_eq,beq_iff_eq,e1,e2,e3,kN hA,FP hB];rw[z6<|by omega,z6<|qV hA,z6<|by omega,z6<|abW hB];by_cases c9:r.op=9
 ·rw[if_pos c9]at hz;obtain⟨h1,h2⟩:=qO hz;subst h1;rw[yb]at h2;rw[if_pos c9,z6 (by simp;omega),s9 _ c9];by_cases ca:r.all=true
  ·rw[if_neg<|by simp[ca],if_pos c9,if_pos ca]
  ·rw[if_pos<|by simpa using ca,z6 (by rw[yb];omega),if_pos c9,if_neg ca]
 ·rw[if_neg c9]at hz;obtain rfl:=yg hz;rw[if_neg c9,s10 _ c9];by_cases ca:r.all=true
  ·rw[if_neg<|by simp[ca],if_neg c9,z6<|by omega,if_pos ca];have:=loop a (by omega) a 0 b [] rfl (yc _) hbl<|yc _;exact this
  ·rw[if_pos<|by simpa using ca,z6<|by omega,if_neg c9,z6<|by omega,if_neg ca];have h1:=hon a;have:=loop (bV a) (by omega) (bV a) 0 b [] rfl (yc _) hbl<|yc _;exact this
def awj(m:Nat)(hG:jM m):aj 92 (ON<|m+1):=aJ zo zo (M:=(Jx m)) (h4:=⟨avi,trivial⟩) rfl ⟨hG.2.2.2.2.1,ave,aas,QU,aan,trivial⟩ Tryz.func92 fun w r=>GiF.r fun w1 o=>awi m w r (am w1 0) (am w1 1) (aA o 0)<|aA o 1
def awk(m:Nat)(hG:jM m):aj 139 (CQ<|m+1):=by
 intro args ob rs os h hob;unfold CQ at h;split at h
 ·simp only[y6,y8,yi]at h;obtain⟨w,e0,rows,e1,terms,e2,rfl,rfl,rfl⟩:=h;obtain rfl:=zo e0;obtain rfl:=zi e1;obtain rfl:=zi e2;have hm:8*aY terms+9<m+1:=hob _<|y9 (i:=0) rfl;obtain⟨bs,hbs⟩:Oo w rows terms:=hob _<|y9 (i:=1) rfl;have e:dG w rows terms=bs:=by unfold dG;rw[hbs];rfl
  rw[e];refine⟨avy w rows terms bs hbs fun x key hk=>?_,zl Tryz.func139 (by kernel_rfl)<|by kernel_rfl⟩;have hF:qS m [.d<|.agg<|enc Ty.wld<|zp w x,.d<|.v<|.dat (U:=Un) Ty.term terms]=some ([8*aY terms+8<m,AG (zp w x) terms],Jo<|ja (zp w x) terms,[]):=by
   unfold qS;simp only[ux,zK,yj];rfl
  have hC:=(hG.2.2.1 _ _ _ _ hF (fun p hp=>by
   simp only[yh,pH,or_false]at hp;rcases hp with rfl|rfl
   ·omega
   ·exact⟨(Ou hbs).1.2.1,key,hk⟩)).1
  rw[CR hk]at hC;exact Contract.data hC
 ·simp at h
def jQ:∀m,jM m
  |0=>⟨ew,ew,by
        intro args ob rs os h hob;unfold qS at h;split at h
        · simp only[y6,y8,yi]at h;obtain⟨_,_,_,_,rfl,_,_⟩:=h;exact absurd (hob _ (y9 (i:=0) rfl)) (cQ _)
        · simp at h
      ,zR,zR,ew,ew,ew,ew,by
        intro args ob rs os h hob;unfold CQ at h;split at h
        · simp only[y6,y8,yi]at h;obtain⟨_,_,_,_,_,_,rfl,_,_⟩:=h;exact absurd (hob _ (y9 (i:=0) rfl)) (cQ _)
        · simp at h
      ,ew,ew⟩
  |m+1=>⟨avD m (jQ m),avG m (jQ m),avK m (jQ m),avP m (jQ m),avS m (jQ m),avV m (jQ m),avZ m (jQ m),av3 m (jQ m),av8 m (jQ m),awk m (jQ m),awe m (jQ m),awj m (jQ m)⟩
def acr:au Un:=aD (dS .wld) (dS .rel) fun w r=>([ix w r],aW<|lP w r)
def awl:aj 45 acr:=rP fun m=>(jQ m).2.2.2.2.2.1
def aX(r:List (List Val)):RF Un:=([.c<|.sl (U:=Un) Ty.row r false],[])
def acs(s:List (List Val)):Option (RF Un):=aw av aV Tryz.f44 0 [.d] [.d<|.v<|.dat (U:=Un) Ty.row s]
def awm(s):acs s=ae ((0:Int)≤(↑s.length:Int)∧(↑s.length:Int)=(↑s.length:Int)∧(↑s.length:Int)≤(↑s.length:Int)) (some<|aX<|List.take (↑s.length:Int).toNat s):=ah
def OS(s:List (List Val)):List (List Val):=s
def awn(s:List (List Val))(hs:WL .row s):acs s=some (aX<|OS s):=by
 rw[awm,z6<|by omega,y5,vp];rfl
def act:au Un:=aQ (dL .row) fun s=>([],aX<|OS s)
def awo:aj 44 act:=aU zi (M:=av) rfl trivial Tryz.func44 fun s=>GiF.r fun w _=>awn s<|am w 0
def acu:Mc Un:=az [(45,acr),(44,act)] [] [] [] []
def acv(r:Rel)(env:List (List Val))(db:List Data):Option (RF Un):=aw acu aV Tryz.f16 0 [.d] [.d<|.agg<|enc Ty.rel r,.d<|.v<|.dat (U:=Un) Ty.row env,.d<|.v<|.dat (U:=Un) Ty.data db]
def awq(r env db):acv r env db=ae (ix {env:=env,db:=db} (Rel.ids r)) (some<|aX<|OS<|lP {env:=env,db:=db} (Rel.ids r)):=ah
def CW(r:Rel)(env:List (List Val))(db:List Data):List (List Val):=lP ⟨env,db⟩ r
def awr(r:Rel)(env:List (List Val))(db:List Data)(_hr:WS .rel r)(_he:WL .row env)(_hd:WL .data db)(h:ix ⟨env,db⟩ r):acv r env db=some (aX<|CW r env db):=by
 rw[awq];simp only[Rel.ids_eq];rw[z6 h];rfl
def Jy:au Un:=dW (dS .rel) (dL .row) (dL .data) fun r env db=>([ix ⟨env,db⟩ r],aX<|CW r env db)
def acw:aj 16 Jy:=jl zo zi zi (M:=acu) rfl ⟨awl,awo,trivial⟩ Tryz.func16 fun r env db=>GiF.r fun w o=>awr r env db (am w 0) (am w 1) (am w 2)<|aA o 0
def acx:Mc Un:=az [(16,Jy)] [] [] [] []
def acy(r:Rel)(db:List Data):Option (RF Un):=aw acx aV Tryz.f14 0 [.d] [.d<|.agg<|enc Ty.rel r,.d<|.v<|.dat (U:=Un) Ty.data db]
def aws(r db):acy r db=ae (ix {env:=[],db:=db} (Rel.ids r)) (some<|aX<|CW (Rel.ids r) [] db):=ah
def je(r:Rel)(db:List Data):List (List Val):=lP ⟨[],db⟩ r
def awt(r:Rel)(db:List Data)(_hr:WS .rel r)(_hd:WL .data db)(h:ix ⟨[],db⟩ r):acy r db=some (aX<|je r db):=by
 rw[aws];simp only[Rel.ids_eq];rw[z6 h];rfl
def Jz:au Un:=aD (dS .rel) (dL .data) fun r db=>([ix ⟨[],db⟩ r],aX<|je r db)
def acz:aj 14 Jz:=aJ zo zi (M:=acx) rfl ⟨acw,trivial⟩ Tryz.func14 fun r db=>GiF.r fun w o=>awt r db (am w 0) (am w 1)<|aA o 0
def pD:Mc Un:=az [(43,BF)] [] [] [] []
def OT:Nat→NS:=aO [(2,{ts:=bl 33 51,bs:=bl 33 0,nm:=[],cs:=true})] true
def pf(a:List (List Val))(b:List (List Val))(v0:Int):S Un:=(st 33 33 132 0 [(0,al .row a),(1,al .row b),(4,ab false),(5,ai v0)] [] [])
def JA:S Un→Option (EX Un):=aC pD OT Tryz.f13 [1,0,1,2,2] 2
def OU:Exit→S Un→Option (RF Un):=aE pD OT Tryz.f13 [1,0,1,2] [.d]
def acA(a:List (List Val))(b:List (List Val)):Option (RF Un):=aw pD OT Tryz.f13 0 [.d] [.d<|.v<|.dat (U:=Un) Ty.row a,.d<|.v<|.dat (U:=Un) Ty.row b]
def awu(a b):acA a b=(JA<|pf a b (0:Int)).bind (zd OU):=ah
def acB(a b v0):JA (pf a b v0)=af (decide<|v0<(↑a.length:Int)) (af (decide<|v0<(↑b.length:Int)) (ae (0≤v0∧v0<(↑a.length:Int))<|ae (0≤v0∧v0<(↑b.length:Int))<|af (dA (a.getD v0.toNat []) (b.getD v0.toNat []) !=0) (some (.ret,(pf a b v0)))<|JA<|pf a b<|IntKind.i64.wrap<|v0+1)<|some (.exit 0,(pf a b v0))) (some (.exit 0,(pf a b v0))):=aF
def awv(a b v0):OU .ret (pf a b v0)=some (ak false):=ah
def aww(a b v0):OU (.exit 0) (pf a b v0)=some (ak<|(↑a.length:Int)==(↑b.length:Int)):=ah
noncomputable def AN(a b:List (List Val)):Bool:=deq a b
def awx(a b:List (List Val))(ha:WL .row a)(_hb:WL .row b):acA a b=some (ak<|AN a b):=by
 rw[awu]
 exact apH (L:=JA) (st:=fun i=>pf a b i) (fun r=>some<|ak r) (d:=[]) ha.len
  (fun i hi hj=>by
   rw[acB,apI];simp only[z8,y5];rw[if_pos (by simp;omega),if_pos (by simp;omega),z6<|by omega,z6<|by omega]
   cases deq (a.getD i []) (b.getD i [])<;>simp)
  (fun i h=>by
   rw[acB];simp only[z8,decide_eq_true_eq];by_cases h1:(i:Int)<(a.length:Int)
   ·rw[if_pos h1,if_neg<|by omega]
   ·rw[if_neg h1])
  (fun i=>awv _ _ _) (fun i=>aww _ _ _)
def OW:au Un:=aD (dL .row) (dL .row) fun a b=>([],ak<|AN a b)
def awy:aj 13 OW:=aJ zi zi (M:=pD) rfl ⟨GT,trivial⟩ Tryz.func13 fun a b=>GiF.r fun w _=>awx a b (am w 0)<|am w 1
end
end B
end Go.Proofs.YtjfpbchdcbhfgaaGreat
