/- Part 10 of the proof: Slight5 Slight6 Slight7 Slight8. -/
import Derived.Test.YtjfpbchdcbhfgaaGreatNsy9
set_option linter.unusedVariables false
set_option linter.unusedSimpArgs false
set_option linter.defProp false
namespace Go.Proofs.YtjfpbchdcbhfgaaGreat
namespace B
open Go Go.RowKit
set_option maxRecDepth 100000
noncomputable section
attribute [local irreducible] aB bk zw br aK b9 aR bu bA
def Ib:Mc Un:=az [(108,H2),(107,H9),(105,B8)] [] [] [] []
def MR:Nat→NS:=aO [(3,{ts:=bl 42 61,bs:=bl 42 0,nm:=[(.sl 4,168)],cs:=true})] true
def qp(l:List Int)(v0:Int)(v1:List Int):S Un:=(st 42 42 169 0 [(0,al .int l),(2,ai (0:Int)),(3,ai (0:Int)),(4,ao 168),(5,ai v0)] [] [(168,some ⟨(0:Nat),Ty.int,v1,some (0:Nat),true⟩)])
def Qy(l:List Int)(v0:Int)(v1:List Int)(v2:Int):S Un:=(st 42 42 169 0 [(0,al .int l),(2,ai (0:Int)),(3,ai v2),(4,ao 168),(5,ai v0)] [] [(168,some ⟨(0:Nat),Ty.int,v1,some (0:Nat),true⟩)])
def wN:S Un→Option (EX Un):=aC Ib MR Tryz.f111 [1,1,0,1,2,2] 3
def Ic:Exit→S Un→Option (RF Un):=aE Ib MR Tryz.f111 [1,1,0,1,2] [.d,.d]
def WJ(l:List Int):Option (RF Un):=aw Ib MR Tryz.f111 1 [.d,.d] [.d<|.v<|.dat (U:=Un) Ty.int l]
def am0(l):WJ l=(wN<|qp l (0:Int)<|[]).bind (zd Ic):=ah
def Id(l:List Int)(v0:Int)(v1:List Int):Option (EX Un):=ae (0≤v0∧v0<(↑l.length:Int))<|ae ((v1.length+[l.getD v0.toNat (0:Int)].length)*(8:Nat)≤ze)<|wN<|qp l (IntKind.i64.wrap<|v0+1)<|v1++[l.getD v0.toNat (0:Int)]
def WM(l v0 v1):wN (qp l v0 v1)=af (decide<|v0<(↑l.length:Int)) (ae (¬(2:Int)=(0:Int))<|af (v0.tmod (2:Int)==(0:Int)) (af (decide<|IntKind.i64.wrap (v0+1)<(↑l.length:Int)) (ae (0≤v0∧v0<(↑l.length:Int))<|af (!iW (l.getD v0.toNat (0:Int)) (1:Int)) (some (.ret,(Qy l v0 v1 (9:Int))))<|wN<|qp l (IntKind.i64.wrap<|v0+1) v1)<|Id l v0 v1)<|Id l v0 v1) (some (.exit 0,(qp l v0 v1))):=aF
def am1(l v0 v1 v2):Ic .ret (Qy l v0 v1 v2)=some (aS ((0:Int),v2)):=ah
def am2(l v0 v1):Ic (.exit 0) (qp l v0 v1)=some (aS ((zx (gl v1).fst (gl v1).snd).fst,(zx (gl v1).fst (gl v1).snd).snd)):=ah
def EA(l:List Int)(vs:List Int)(i:Nat):Option (List Int):=if i % 2=0∧i+1<l.length then(if iW (l.getD i 0) 1=true then some vs else none)else some (vs++[l.getD i 0])
def EB(l:List Int):Int×Int:=match uL (EA l) [] (List.range l.length)with|some vs=>zx (gl vs).1 (gl vs).2|none=>(0,9)
def am3(l:List Int)(_hl:WL .int l)(h:l.length≤2000000):WJ l=some (aS (EB l)):=by
 rw[am0]
 exact Ww (L:=wN) (st:=fun(vs:List Int) i=>qp l i vs) (rt:=fun(vs:List Int) i=>Qy l i vs 9) (C:=Ic) (e:=.exit 0) (fun o=>some (aS (match o with|some vs=>zx (gl vs).1 (gl vs).2|none=>(0,9)))) (l:=List.range l.length) (d:=0) (EA l) (fun i vs=>vs.length≤i) (by grind)
  (fun vs i k hi hk _ hI=>by
   rw[vt]at hi;have hk':k=i:=by grind
   subst hk';refine⟨fun b hb=>?_,?_⟩
   ·unfold EA at hb;grind
   ·have et:Id l (k:Int) vs=wN (qp l (IntKind.i64.wrap ((k:Int)+1)) (vs++[l.getD k 0])):=by
     grind[Id,Int.toNat_natCast,z6,ze,List.length_singleton]
    rw[WM,et];unfold EA;simp only[z8,hi,decide_true,if_true,and_true,y5,beq_iff_eq,decide_eq_true_eq];rw[zm (by omega),z6 (by simp)];by_cases c1:k % 2=0
    ·by_cases c2:k+1<l.length
     ·rw[if_pos (show(k:Int)+1<(l.length:Int) by omega),z6 (by omega),if_pos (show k % 2=0∧k+1<l.length from⟨c1,c2⟩)];grind
     grind
    grind)
  (fun vs=>by rw[vt,WM];simp[z8]) (fun a i=>am1 _ _ _ _) (fun a=>am2 _ _ _) [] (y7 _)
def WN:au Un:=aQ (dL .int) fun l=>([l.length≤2000000],aS<|EB l)
def am4:aj 111 WN:=aU zi (M:=Ib) rfl ⟨H3,Qx,Ia,trivial⟩ Tryz.func111 fun l=>GiF.r fun w o=>am3 l (am w 0)<|aA o 0
def WO:Mc Un:=az [(110,Ey),(105,B8),(108,H2)] [] [] [] []
def MS(name:ByteArray)(k:Int):Option (RF Un):=aw WO aV Tryz.f134 0 [.d,.d] [.d<|.v<|cs name,.d<|.v<|.s<|.int .i64 k]
def am5(name k):MS name k=af (name.toList==(ByteArray.mk #[99,111,117,110,116]).toList) (some<|aS ((zx (2:Int)<|fW k).fst,(zx (2:Int)<|fW k).snd)) (af (name.toList==(ByteArray.mk #[115,117,109]).toList) (some<|aS ((zx (2:Int)<|iW k (2:Int)).fst,(zx (2:Int)<|iW k (2:Int)).snd))<|af (name.toList==(ByteArray.mk #[109,105,110]).toList) (some<|aS ((zx k<|fW k).fst,(zx k<|fW k).snd))<|af (name.toList==(ByteArray.mk #[109,97,120]).toList) (some<|aS ((zx k<|fW k).fst,(zx k<|fW k).snd))<|some<|aS ((0:Int),(6:Int))):=ah
def Ag{R:Int×Int→RF Un}{c x y}(hx:c=true→∃p,x=some (R p))(hy:c=false→∃p,y=some (R p)):∃p,af c x y=some (R p):=by
 cases c
 ·exact hy rfl
 ·exact hx rfl
noncomputable def EC(R:Int×Int→RF Un)(o:Option (RF Un)):Int×Int:=@Classical.epsilon (Int×Int) ⟨(0,0)⟩ fun p=>o=some (R p)
def MT{R:Int×Int→RF Un}{o}(h:∃p,o=some (R p)):o=some (R<|EC R o):=@Classical.epsilon_spec (Int×Int) (fun p=>o=some (R p)) h
noncomputable def ED(name:ByteArray)(k:Int):Int×Int:=EC aS<|MS name k
def am6 name k(_hn:cm name)(_hk:WI k):MS name k=some (aS<|ED name k):=by
 refine MT ?_;rw[am5]
 repeat' first|exact⟨_,rfl⟩|refine Ag (fun _=>?_) fun _=>?_
def WP:au Un:=aD cB (dI .i64) fun name k=>([],aS<|ED name k)
def am7:aj 134 WP:=aJ cN zn (M:=WO) rfl ⟨MM,Ia,H3,trivial⟩ Tryz.func134 fun name k=>GiF.r fun w _=>am6 name k (am w 0)<|am w 1
def WQ:Mc Un:=az [(106,MO),(105,B8),(107,H9)] [] [] [] []
def MU(name:ByteArray)(l:List Int):Option (RF Un):=aw WQ aV Tryz.f60 0 [.d,.d] [.d<|.v<|cs name,.d<|.v<|.dat (U:=Un) Ty.int l]
def MV(name:ByteArray)(l:List Int):Option (RF Un):=af (name.toList==(ByteArray.mk #[108,101,110,103,116,104]).toList) (some<|aS ((zx (2:Int)<|cH l (3:Int)).fst,(zx (2:Int)<|cH l (3:Int)).snd))<|af (name.toList==(ByteArray.mk #[108,111,119,101,114]).toList) (some<|aS ((zx (3:Int)<|cH l (3:Int)).fst,(zx (3:Int)<|cH l (3:Int)).snd))<|af (name.toList==(ByteArray.mk #[117,112,112,101,114]).toList) (some<|aS ((zx (3:Int)<|cH l (3:Int)).fst,(zx (3:Int)<|cH l (3:Int)).snd))<|af (name.toList==(ByteArray.mk #[97,98,115]).toList) (some<|aS ((zx (2:Int)<|cH l (2:Int)).fst,(zx (2:Int)<|cH l (2:Int)).snd))<|some<|aS ((zx (gl l).fst (gl l).snd).fst,(zx (gl l).fst (gl l).snd).snd)
def WR(name:ByteArray)(l:List Int):Option (RF Un):=af (!name.toList==(ByteArray.mk #[99,111,97,108,101,115,99,101]).toList) (some<|aS ((0:Int),(11:Int)))<|MV name l
def B9(name:ByteArray)(l:List Int):Option (RF Un):=af (decide<|(↑l.length:Int)<(1:Int)) (some<|aS ((0:Int),(11:Int)))<|af (decide<|(↑l.length:Int)>(1:Int)) (WR name l)<|MV name l
def am8(name l):MU name l=af (name.toList==(ByteArray.mk #[108,101,110,103,116,104]).toList) (B9 name l) (af (name.toList==(ByteArray.mk #[108,111,119,101,114]).toList) (B9 name l)<|af (name.toList==(ByteArray.mk #[117,112,112,101,114]).toList) (B9 name l)<|af (name.toList==(ByteArray.mk #[97,98,115]).toList) (B9 name l)<|af (name.toList==(ByteArray.mk #[99,111,97,108,101,115,99,101]).toList) (B9 name l)<|af (name.toList==(ByteArray.mk #[110,117,108,108,105,102]).toList) (af (decide<|(↑l.length:Int)<(2:Int)) (some<|aS ((0:Int),(11:Int)))<|af (decide<|(↑l.length:Int)>(2:Int)) (WR name l)<|MV name l)<|some<|aS ((0:Int),(6:Int))):=ah
noncomputable def wO(name:ByteArray)(l:List Int):Int×Int:=EC aS<|MU name l
def am9 name(l:List Int)(_hn:cm name)(_hl:WL .int l):MU name l=some (aS<|wO name l):=by
 refine MT ?_;rw[am8]
 repeat' first|exact⟨_,rfl⟩|refine Ag (fun _=>?_) fun _=>?_
def WT:au Un:=aD cB (dL .int) fun name l=>([],aS<|wO name l)
def ana:aj 60 WT:=aJ cN zi (M:=WQ) rfl ⟨WC,Ia,Qx,trivial⟩ Tryz.func60 fun name l=>GiF.r fun w _=>am9 name l (am w 0)<|am w 1
def WU:Mc Un:=az [(109,WH),(107,H9),(106,MO),(105,B8),(110,Ey),(111,WN)] [] [] [] []
def MW(op:Int)(l:List Int):Option (RF Un):=aw WU aV Tryz.f62 0 [.d,.d] [.d<|.v<|.s<|.int .i64 op,.d<|.v<|.dat (U:=Un) Ty.int l]
def anb(op l):MW op l=af ((s5 op).snd ==0) (some<|aS ((0:Int),(1:Int))) (af (decide<|(↑l.length:Int)<(s5 op).fst) (some<|aS ((0:Int),(11:Int)))<|af (decide<|(↑l.length:Int)>(s5 op).snd) (some<|aS ((0:Int),(11:Int)))<|af (op==3) (some<|aS ((zx (2:Int)<|cH l (2:Int)).fst,(zx (2:Int)<|cH l (2:Int)).snd))<|af (op==5) (some<|aS ((zx (2:Int)<|cH l (2:Int)).fst,(zx (2:Int)<|cH l (2:Int)).snd))<|af (op==6) (some<|aS ((zx (2:Int)<|cH l (2:Int)).fst,(zx (2:Int)<|cH l (2:Int)).snd))<|af (op==7) (some<|aS ((zx (2:Int)<|cH l (2:Int)).fst,(zx (2:Int)<|cH l (2:Int)).snd))<|af (op==8) (some<|aS ((zx (2:Int)<|cH l (2:Int)).fst,(zx (2:Int)<|cH l (2:Int)).snd))<|af (op==9) (some<|aS ((zx (2:Int)<|cH l (2:Int)).fst,(zx (2:Int)<|cH l (2:Int)).snd))<|af (op==4) (some<|aS ((zx (1:Int)<|cH l (1:Int)).fst,(zx (1:Int)<|cH l (1:Int)).snd))<|af (op==17) (some<|aS ((zx (1:Int)<|cH l (1:Int)).fst,(zx (1:Int)<|cH l (1:Int)).snd))<|af (op==18) (some<|aS ((zx (1:Int)<|cH l (1:Int)).fst,(zx (1:Int)<|cH l (1:Int)).snd))<|af (op==10) (some<|aS ((zx (3:Int)<|cH l (3:Int)).fst,(zx (3:Int)<|cH l (3:Int)).snd))<|af (op==20) (some<|aS ((zx (1:Int)<|cH l (3:Int)).fst,(zx (1:Int)<|cH l (3:Int)).snd))<|af (op==19) (ae ((0:Int)≤(0:Int)∧(0:Int)<(↑l.length:Int))<|some<|aS ((zx (1:Int)<|fW<|l.getD 0 (0:Int)).fst,(zx (1:Int)<|fW<|l.getD 0 (0:Int)).snd))<|af (op==23) (ae (l.length≤(2000000:Nat))<|some<|aS ((EB l).fst,(EB l).snd))<|some<|aS ((zx (1:Int) (gl l).snd).fst,(zx (1:Int) (gl l).snd).snd)):=ah
noncomputable def uN(op:Int)(l:List Int):Int×Int:=EC aS<|MW op l
def anc op(l:List Int)(_ho:WI op)(_hl:WL .int l)(h:l.length≤2000000):MW op l=some (aS<|uN op l):=by
 refine MT ?_;rw[anb];refine Ag (fun _=>⟨_,rfl⟩) fun _=>?_;refine Ag (fun _=>⟨_,rfl⟩) fun h1=>?_;have h2:op=19→0<l.length:=fun e=>by
  have e2:(s5 19).1=1:=rfl;grind
 repeat' first|exact⟨_,rfl⟩|(rw[z6 h])|(refine Ag (fun c=>?_) fun _=>?_)|(rw[z6 ⟨pJ _,by grind⟩])
def WV:au Un:=aD (dI .i64) (dL .int) fun op l=>([l.length≤2000000],aS<|uN op l)
def ane:aj 62 WV:=aJ zn zi (M:=WU) rfl ⟨amZ,Qx,WC,Ia,MM,am4,trivial⟩ Tryz.func62 fun op l=>GiF.r fun w o=>anc op l (am w 0) (am w 1)<|aA o 0
def MX:Nat→NS:=aO [(3,{ts:=bl 21 25,bs:=bl 21 0,nm:=[(.sl 3,84)],cs:=true})] true
def wP(l:List Col)(v0:Int)(v1:List Int):S Un:=(st 21 21 85 0 [(0,al .col l),(3,ao 84),(4,ai v0)] [] [(84,some ⟨(0:Nat),Ty.int,v1,some (0:Nat),true⟩)])
def Ie:S Un→Option (EX Un):=aC av MX Tryz.f25 [1,1,0,1,2,2] 3
def WW:Exit→S Un→Option (RF Un):=aE av MX Tryz.f25 [1,1,0,1,2] [.d]
def WX(l:List Col):Option (RF Un):=aw av MX Tryz.f25 1 [.d] [.d<|.v<|.dat (U:=Un) Ty.col l]
def anf(l):WX l=(Ie<|wP l (0:Int)<|[]).bind (zd WW):=ah
def WY(l v0 v1):Ie (wP l v0 v1)=af (decide<|v0<(↑l.length:Int)) (ae (0≤v0∧v0<(↑l.length:Int))<|ae ((v1.length+[(l.getD v0.toNat mq).type].length)*(8:Nat)≤ze)<|Ie<|wP l (IntKind.i64.wrap<|v0+1)<|v1++[(l.getD v0.toNat mq).type]) (some (.exit 0,(wP l v0 v1))):=aF
def ang(l v0 v1):WW (.exit 0) (wP l v0 v1)=some (gZ v1):=ah
def cI(l:List Col):List Int:=l.map fun c=>c.type
def WZ:∀(l:List Col)(n:List Int),l.foldl (fun n c=>n++[c.type]) n=n++cI l
 |[],n=>by simp[cI]
 |c::l,n=>by rw[yq,WZ l];simp[cI]
def anh(l:List Col)(hl:WL .col l)(h:l.length≤2000000000):WX l=some (gZ<|cI l):=by
 obtain⟨lp,_⟩:=zy (e:=.exit 0) (L:=Ie) (st:=fun(n:List Int) i=>wP l i n) (l:=l) (d:=mq) (g:=fun n c=>n++[c.type]) (fun i n=>n.length=i) hl.len
  (fun n i c hi hc hI=>by
   rw[WY];simp only[z8,hi,decide_true,if_true,and_true,y5,hc]
   grind[z6,ze,List.length_singleton])
  (fun n _=>by rw[WY];simp[z8]) [] rfl
 rw[WZ,yr]at lp;rw[anf];refine(zf lp).trans ?_;rw[ang]
def If:au Un:=aQ (dL .col) fun l=>([l.length≤2000000000],gZ<|cI l)
def MY:aj 25 If:=aU zi (M:=av) rfl trivial Tryz.func25 fun l=>GiF.r fun w o=>anh l (am w 0)<|aA o 0
def MZ:Nat→NS:=aO [(2,{ts:=bl 32 51,bs:=bl 32 0,nm:=[],cs:=true})] true
def oz(a:List Int)(b:List Int)(v0:Int):S Un:=(st 32 32 128 0 [(0,al .int a),(1,al .int b),(4,ab false),(5,ai v0)] [] [])
def Ig:S Un→Option (EX Un):=aC av MZ Tryz.f31 [1,0,1,2,2] 2
def Ih:Exit→S Un→Option (RF Un):=aE av MZ Tryz.f31 [1,0,1,2] [.d]
def W6(a:List Int)(b:List Int):Option (RF Un):=aw av MZ Tryz.f31 0 [.d] [.d<|.v<|.dat (U:=Un) Ty.int a,.d<|.v<|.dat (U:=Un) Ty.int b]
def ani(a b):W6 a b=(Ig<|oz a b (0:Int)).bind (zd Ih):=ah
def W7(a b v0):Ig (oz a b v0)=af (decide<|v0<(↑a.length:Int)) (af (decide<|v0<(↑b.length:Int)) (ae (0≤v0∧v0<(↑a.length:Int))<|ae (0≤v0∧v0<(↑b.length:Int))<|af (a.getD v0.toNat (0:Int) !=b.getD v0.toNat (0:Int)) (some (.ret,(oz a b v0)))<|Ig<|oz a b<|IntKind.i64.wrap<|v0+1)<|some (.exit 0,(oz a b v0))) (some (.exit 0,(oz a b v0))):=aF
theorem anj(a b v0):Ih .ret (oz a b v0)=some (ak false):=ah
theorem ank(a b v0):Ih (.exit 0) (oz a b v0)=some (ak<|(↑a.length:Int)==(↑b.length:Int)):=ah
def EE(a b:List Int):Bool:=(List.range<|min a.length b.length).all (fun i=>a.getD i 0==b.getD i 0)&&((a.length:Int)==(b.length:Int))
def anl(a b:List Int)(ha:WL .int a)(_hb:WL .int b):W6 a b=some (ak (EE a b)):=by
 have hlen:=ha.len;rw[ani]
 exact dU (L:=Ig) (st:=fun i=>oz a b i) (C:=Ih) (e:=.exit 0) (fun x=>some (ak (x&&((a.length:Int)==(b.length:Int))))) (l:=List.range (min a.length b.length)) (d:=0) (fun i=>a.getD i 0==b.getD i 0) (by grind)
  (fun i k hi hk _=>by
   rw[vt]at hi;have hk':k=i:=by grind
   subst hk';rw[W7];simp only[z8,y5,decide_eq_true_eq];rw[if_pos (show(k:Int)<(a.length:Int) by omega),if_pos (show(k:Int)<(b.length:Int) by omega),z6 (by omega),z6 (by omega)]
   simp)
  (by
   rw[vt,W7];simp only[z8,decide_eq_true_eq]
   grind)
  (fun i=>by simp[js,anj]) (fun i=>by simp[dQ,ank])
def W8:au Un:=aD (dL .int) (dL .int) fun a b=>([],ak<|EE a b)
def anm:aj 31 W8:=aJ zi zi (M:=av) rfl trivial Tryz.func31 fun a b=>GiF.r fun w _=>anl a b (am w 0)<|am w 1
def Ii:Mc Un:=az [(25,If)] [] [] [] []
def M0:Nat→NS:=aO [(3,{ts:=bl 23 26,bs:=bl 23 2,nm:=[(.sl 3,92)],cs:=true})] true
def wQ(r:Rel)(v0:Int)(v1:List Int):S Un:=(st 23 23 93 0 [(1,ax 1),(3,ao 92),(4,ai v0)] [(1,bg .rel r)] [(92,some ⟨(0:Nat),Ty.int,v1,some (0:Nat),true⟩)])
def Ij:S Un→Option (EX Un):=aC Ii M0 Tryz.f80 [1,1,0,1,2,2] 3
def W9:Exit→S Un→Option (RF Un):=aE Ii M0 Tryz.f80 [1,1,0,1,2] [.d]
def Xa(r:Rel):Option (RF Un):=aw Ii M0 Tryz.f80 1 [.d] [.d<|.agg<|enc Ty.rel r]
def ann(r):Xa r=(Ij<|wQ r (0:Int)<|[]).bind (zd W9):=ah
def Xb(r v0 v1):Ij (wQ r v0 v1)=af (decide<|v0<(↑r.kids.length:Int)) (ae (0≤v0∧v0<(↑r.kids.length:Int))<|ae ((Rel.cols<|r.kids.getD v0.toNat za).length≤(2000000000:Nat))<|ae ((v1.length+(cI<|Rel.cols<|r.kids.getD v0.toNat za).length)*(8:Nat)≤ze)<|Ij<|wQ r (IntKind.i64.wrap<|v0+1)<|v1++cI (Rel.cols<|r.kids.getD v0.toNat za)) (some (.exit 0,(wQ r v0 v1))):=aF
def ano(r v0 v1):W9 (.exit 0) (wQ r v0 v1)=some (gZ v1):=ah
mutual
def lw:Term→Nat
 | .mk _ _ _ _ _ kids sub _=>kV kids+kW sub
def kV:List Term→Nat
 |[]=>0
 |t::l=>lw t+kV l
def Ca:Agg→Nat
 | .mk _ _ t=>kV t
def rW:List Agg→Nat
 |[]=>0
 |a::l=>Ca a+rW l
def dC:Rel→Nat
 | .mk _ _ cols kids terms aggs _ _ _ _ _=>cols.length+kW kids+kV terms+rW aggs
def kW:List Rel→Nat
 |[]=>0
 |r::l=>dC r+kW l
end
def M3 t:lw t=kV t.kids+kW t.sub:=by cases t;rfl
theorem Xc a:Ca a=kV a.t:=by cases a;rfl
theorem lx r:dC r=r.cols.length+kW r.kids+kV r.terms+rW r.aggs:=by cases r;rfl
def ta{t}:∀{l:List Term},t∈l→lw t≤kV l
 |x::l,h=>by
  simp only[kV];rcases yh.1 h with rfl|h
  ·omega
  ·have:=ta h;omega
def qq{t}:∀{l:List Rel},t∈l→dC t≤kW l
 |x::l,h=>by
  simp only[kW];rcases yh.1 h with rfl|h
  ·omega
  ·have:=qq h;omega
def M4{t}:∀{l:List Agg},t∈l→Ca t≤rW l
 |x::l,h=>by
  simp only[rW];rcases yh.1 h with rfl|h
  ·omega
  ·have:=M4 h;omega
def dD(r:Rel):List Int:=r.kids.foldl (fun n k=>n++cI k.cols) []
def anp(r:Rel)(hr:WS .rel r)(h:dC r≤2000000000):Xa r=some (gZ (dD r)):=by
 have h0:=lx r
 obtain⟨lp,_⟩:=zy (e:=.exit 0) (L:=Ij) (st:=fun(n:List Int) i=>wQ r i n) (l:=r.kids) (d:=za) (g:=fun n k=>n++cI k.cols) (fun i n=>n.length+kW (r.kids.drop i)≤2000000000) (hr.rel_kids).len
  (fun n i k hi hk hI=>by
   have hd:=vK (d:=za) (show i<r.kids.length by omega);rw[hd,hk]at hI;simp only[kW]at hI;have h1:=lx k;have h2:(cI k.cols).length=k.cols.length:=by unfold cI;simp
   rw[Xb];simp only[z8,hi,decide_true,if_true,and_true,y5,hk]
   grind[z6,ze])
  (fun n _=>by rw[Xb];simp[z8]) [] (by grind)
 rw[ann];refine(zf lp).trans ?_;rw[ano];rfl
def M5:au Un:=aQ (dS .rel) fun r=>([dC r≤2000000000],gZ<|dD r)
def Xd:aj 80 M5:=aU zo (M:=Ii) rfl ⟨MY,trivial⟩ Tryz.func80 fun r=>GiF.r fun w o=>anp r (am w 0)<|aA o 0
def mO:Mc Un:=az [(25,If),(134,WP),(61,Ez),(80,M5)] [] [] [] []
def iX(r:List Int×Bool):RF Un:=([.c<|.sl (U:=Un) Ty.int r.1 false,.c<|.s<|.bool r.2],[])
def oC:Nat→NS:=aO [(8,{ts:=bl 162 50,bs:=bl 162 2,nm:=[(.sl 4,648)],cs:=true}),(15,{ts:=bl 162 194,bs:=bl 162 2,nm:=[(.sl 6,649)],cs:=true}),(19,{ts:=bl 162 334,bs:=bl 162 2,nm:=[(.sl 6,650)],cs:=true}),(35,{ts:=bl 162 61452,bs:=bl 162 0,nm:=[(.sl 14,651)],cs:=true})] true
def M6(r:Rel)(v4:Int):=ED (Agg.name<|r.aggs.getD v4.toNat zr)<|Term.type<|(Agg.t<|r.aggs.getD v4.toNat zr).getD 0 zb
def M7(r:Rel)(v4:Int):=ED (Agg.name<|r.aggs.getD v4.toNat zr) (2:Int)
def wR(r:Rel)(v0:Int)(v1:List Int):S Un:=(st 162 162 652 0 [(1,ax 1),(4,ao 648),(5,ai v0)] [(1,bg .rel r)] [(648,some ⟨(0:Nat),Ty.int,v1,some (0:Nat),true⟩)])
def qr(r:Rel)(v2:Int)(v3:List Int):S Un:=(st 162 162 652 0 [(1,ax 1),(6,ao 649),(7,ai v2)] [(1,bg .rel r)] [(649,some ⟨(0:Nat),Ty.int,v3,some (0:Nat),true⟩)])
def mP(r:Rel)(v3:List Int)(v4:Int):S Un:=(st 162 162 652 0 [(1,ax 1),(6,ao 650),(8,ai v4)] [(1,bg .rel r)] [(650,some ⟨(0:Nat),Ty.int,v3,some (0:Nat),true⟩)])
def Cb(r:Rel)(v3:List Int)(v4:Int):S Un:=(st 162 162 652 0 [(1,ax 1),(2,AV.one<|A.c<|C.sl Ty.int [] true),(3,ab false),(6,ao 650),(8,ai v4)] [(1,bg .rel r)] [(650,some ⟨(0:Nat),Ty.int,v3,some (0:Nat),true⟩)])
def ly(r:Rel)(v5:Int)(v6:List Int):S Un:=(st 162 162 652 0 [(2,AV.one<|A.c<|C.sl Ty.int [] true),(3,ab false),(12,al .int<|cI<|Rel.cols<|r.kids.getD 0 za),(13,al .int<|cI<|Rel.cols<|r.kids.getD 1 za),(14,ao 651),(15,ai v5)] [] [(651,some ⟨(0:Nat),Ty.int,v6,some (0:Nat),true⟩)])
def Ik:S Un→Option (EX Un):=aC mO oC Tryz.f81 [1,0,1,2,1,4,1,3,1,0,1,2,2] 8
def Cc:S Un→Option (EX Un):=aC mO oC Tryz.f81 [1,0,1,2,1,4,1,4,1,3,1,0,1,2,2] 15
def qt:S Un→Option (EX Un):=aC mO oC Tryz.f81 [1,0,1,2,1,4,1,4,1,3,1,1,0,1,2,2] 19
def Cd:S Un→Option (EX Un):=aC mO oC Tryz.f81 [1,0,1,2,1,4,1,4,1,4,1,3,1,1,0,1,2,2] 35
def M8:Exit→S Un→Option (RF Un):=aE mO oC Tryz.f81 [1,0,1,2,1,4,1,3,1,0,1,2] [.d,.d]
def M9:Exit→S Un→Option (RF Un):=aE mO oC Tryz.f81 [1,0,1,2,1,4,1,4,1,3,1,0,1,2] [.d,.d]
def Ce:Exit→S Un→Option (RF Un):=aE mO oC Tryz.f81 [1,0,1,2,1,4,1,4,1,3,1,1,0,1,2] [.d,.d]
def Il:Exit→S Un→Option (RF Un):=aE mO oC Tryz.f81 [1,0,1,2,1,4,1,4,1,4,1,3,1,1,0,1,2] [.d,.d]
def Im(r:Rel):Option (RF Un):=aw mO oC Tryz.f81 4 [.d,.d] [.d<|.agg<|enc Ty.rel r]
def Cf(r:Rel):Option (RF Un):=ae ((0:Int)≤(0:Int)∧(0:Int)<(↑r.kids.length:Int))<|ae ((Rel.cols<|r.kids.getD 0 za).length≤(2000000000:Nat))<|ae ((0:Int)≤(1:Int)∧(1:Int)<(↑r.kids.length:Int))<|ae ((Rel.cols<|r.kids.getD 1 za).length≤(2000000000:Nat))<|(Cd<|ly r (0:Int)<|[]).bind<|zd Il
def anq(r):Im r=af (r.op==1) (ae (r.cols.length≤(2000000000:Nat))<|some<|iX (cI r.cols,true)) (af (r.op==2) (ae (r.cols.length≤(2000000000:Nat))<|some<|iX (cI r.cols,true))<|af (r.op==4) ((Ik<|wR r (0:Int)<|[]).bind<|zd M8)<|af (r.op==7) ((Cc<|qr r (0:Int)<|[]).bind<|zd M9)<|af (r.op==9) (Cf r)<|af (r.op==10) (Cf r)<|af (r.op==11) (Cf r)<|ae (dC (Rel.ids r)≤(2000000000:Nat))<|some<|iX (dD<|Rel.ids r,true)):=ah
def Xe(r v0 v1):Ik (wR r v0 v1)=af (decide<|v0<(↑r.terms.length:Int)) (ae (0≤v0∧v0<(↑r.terms.length:Int))<|ae ((v1.length+[Term.type<|r.terms.getD v0.toNat zb].length)*(8:Nat)≤ze)<|Ik<|wR r (IntKind.i64.wrap<|v0+1)<|v1++[Term.type<|r.terms.getD v0.toNat zb]) (some (.exit 1,(wR r v0 v1))):=aF
def anr(r v0 v1):M8 (.exit 1) (wR r v0 v1)=some (iX (v1,true)):=ah
def Xf(r v2 v3):Cc (qr r v2 v3)=af (decide<|v2<(↑r.terms.length:Int)) (ae (0≤v2∧v2<(↑r.terms.length:Int))<|ae ((v3.length+[Term.type<|r.terms.getD v2.toNat zb].length)*(8:Nat)≤ze)<|Cc<|qr r (IntKind.i64.wrap<|v2+1)<|v3++[Term.type<|r.terms.getD v2.toNat zb]) (some (.exit 3,(qr r v2 v3))):=aF
def ans(r v2 v3):M9 (.exit 3) (qr r v2 v3)=(qt<|mP r v3 (0:Int)).bind (zd Ce):=ah
def Xg(r v3 v4):qt (mP r v3 v4)=af (decide<|v4<(↑r.aggs.length:Int)) (ae (0≤v4∧v4<(↑r.aggs.length:Int))<|af (decide<|(↑(Agg.t<|r.aggs.getD v4.toNat zr).length:Int)>(0:Int)) (ae (0≤v4∧v4<(↑r.aggs.length:Int))<|ae ((0:Int)≤(0:Int)∧(0:Int)<(↑(Agg.t<|r.aggs.getD v4.toNat zr).length:Int))<|ae (0≤v4∧v4<(↑r.aggs.length:Int))<|af ((M6 r v4).snd !=0) (some (.ret,(Cb r v3 v4)))<|ae ((v3.length+[(M6 r v4).fst].length)*(8:Nat)≤ze)<|qt<|mP r (v3++[(M6 r v4).fst])<|IntKind.i64.wrap<|v4+1)<|ae (0≤v4∧v4<(↑r.aggs.length:Int))<|af ((M7 r v4).snd !=0) (some (.ret,(Cb r v3 v4)))<|ae ((v3.length+[(M7 r v4).fst].length)*(8:Nat)≤ze)<|qt<|mP r (v3++[(M7 r v4).fst])<|IntKind.i64.wrap<|v4+1) (some (.exit 5,(mP r v3 v4))):=aF
def ant(r v3 v4):Ce .ret (Cb r v3 v4)=some (iX ([],false)):=ah
def anu(r v3 v4):Ce (.exit 5) (mP r v3 v4)=some (iX (v3,true)):=ah
def Xh(r v5 v6):Cd (ly r v5 v6)=af (decide<|v5<(↑(cI<|Rel.cols<|r.kids.getD 0 za).length:Int)) (af (decide<|v5<(↑(cI<|Rel.cols<|r.kids.getD 1 za).length:Int)) (ae (0≤v5∧v5<(↑(cI<|Rel.cols<|r.kids.getD 0 za).length:Int))<|ae (0≤v5∧v5<(↑(cI<|Rel.cols<|r.kids.getD 1 za).length:Int))<|af (!(hY ((cI<|Rel.cols<|r.kids.getD 0 za).getD v5.toNat (0:Int))<|(cI<|Rel.cols<|r.kids.getD 1 za).getD v5.toNat (0:Int)).snd) (some (.ret,(ly r v5 v6)))<|ae ((v6.length+[(hY ((cI<|Rel.cols<|r.kids.getD 0 za).getD v5.toNat (0:Int))<|(cI<|Rel.cols<|r.kids.getD 1 za).getD v5.toNat (0:Int)).fst].length)*(8:Nat)≤ze)<|Cd<|ly r (IntKind.i64.wrap<|v5+1)<|v6++[(hY ((cI<|Rel.cols<|r.kids.getD 0 za).getD v5.toNat (0:Int))<|(cI<|Rel.cols<|r.kids.getD 1 za).getD v5.toNat (0:Int)).fst])<|some (.exit 7,(ly r v5 v6))) (some (.exit 7,(ly r v5 v6))):=aF
def anv(r v5 v6):Il .ret (ly r v5 v6)=some (iX ([],false)):=ah
theorem anw(r v5 v6):Il (.exit 7) (ly r v5 v6)=some (iX (v6,(↑(cI<|Rel.cols<|r.kids.getD 0 za).length:Int)==(↑(cI<|Rel.cols<|r.kids.getD 1 za).length:Int))):=ah
def EF{σ ρ:Type}{R:ρ→RF Un}{L:S Un→Option (EX Un)}{C}{st:σ→Int→S Un}{n}(hn:n≤9223372036854775807)(Inv:Nat→σ→Prop)(step:∀(a:σ)(i:Nat),i<n→Inv i a→(∃b,Inv (i+1) b∧L (st a (i:Int))=L (st b<|IntKind.i64.wrap<|(i:Int)+1))∨∃p,(L<|st a (i:Int)).bind (zd C)=some (R p))(stop:∀a,Inv n a→∃p,(L<|st a (n:Int)).bind (zd C)=some (R p)) a(h0:Inv 0 a):∃p,(L<|st a (0:Int)).bind (zd C)=some (R p):=by
 have key:∀(k i:Nat)(a:σ),i+k=n→Inv i a→∃p,(L<|st a (i:Int)).bind (zd C)=some (R p):=by
  intro k
  induction k with
  |zero=>
   grind
  |succ k ih=>
   grind[step,eW]
 exact key n 0 a (by omega) h0
def rX{ρ:Type}{R:ρ→RF Un}{c x y}(hx:c=true→∃p,x=some (R p))(hy:c=false→∃p,y=some (R p)):∃p,af c x y=some (R p):=by
 cases c
 ·exact hy rfl
 ·exact hx rfl
noncomputable def Xi(R:List Int×Bool→RF Un)(o:Option (RF Un)):List Int×Bool:=@Classical.epsilon (List Int×Bool) ⟨([],false)⟩ fun p=>o=some (R p)
def anx{R:List Int×Bool→RF Un}{o}(h:∃p,o=some (R p)):o=some (R<|Xi R o):=@Classical.epsilon_spec (List Int×Bool) (fun p=>o=some (R p)) h
noncomputable def qu(r:Rel):List Int×Bool:=Xi iX<|Im r
def Ah(r:Rel):Prop:=((r.op=9∨r.op=10∨r.op=11)→2≤r.kids.length)∧r.sz≤2000000∧dC r≤2000000000
def Na r(hk:2≤r.kids.length)(hc:dC r≤2000000000):∃p,Cf r=some (iX p):=by
 have c0:∀i,i<r.kids.length→(Rel.cols (r.kids.getD i za)).length≤2000000000:=fun i hi=>by
  have h1:=qq (cG (l:=r.kids) (d:=za) hi);grind[lx,za]
 unfold Cf;rw[z6 (by omega),z6 (c0 0 (by omega)),z6 (by omega),z6 (c0 1 (by omega))];generalize ha:cI (Rel.cols (r.kids.getD 0 za))=a;generalize hb:cI (Rel.cols (r.kids.getD 1 za))=b;have hal:a.length≤2000000000:=by grind[cI,List.length_map]
 refine EF (L:=Cd) (C:=Il) (st:=fun(v:List Int) i=>ly r i v) (n:=min a.length b.length) (by omega) (fun i v=>v.length≤i)
  (fun v i hi hI=>?_) (fun v hI=>?_) [] (yc _)
 ·rw[Xh];simp only[ha,hb,y5];cases hJ:(hY (a.getD i 0) (b.getD i 0)).2 with
  |false=>exact .inr ⟨_,by rw[z8,if_pos (by grind),z8,if_pos (by grind),z6 (by omega),z6 (by omega)];exact anv _ _ _⟩
  |true=>
   exact .inl ⟨v++[(hY (a.getD i 0) (b.getD i 0)).1],by grind,by
    rw[z8,if_pos (by grind),z8,if_pos (by grind),z6 (by omega),z6 (by omega),z8,if_neg (by simp),z6 (by grind[ze,List.length_singleton])]⟩
 ·have e:Cd (ly r ((min a.length b.length:Nat):Int) v)=some (.exit 7,ly r ((min a.length b.length:Nat):Int) v):=by
   rw[Xh];simp only[ha,hb,z8,decide_eq_true_eq];grind
  grind[zf,trans,anw]
def anz(r:Rel)(hr:WS .rel r)(h:Ah r):∃p,Im r=some (iX p):=by
 obtain⟨hk,hs,hc⟩:=h;have h0:=lx r;have h3:=r.sz_eq;have hl:=fG r.terms;have hla:=D6 r.aggs;rw[anq];rw[z6<|show r.cols.length≤2000000000 by omega,Rel.ids_eq,z6 hc];refine rX (fun _=>⟨_,rfl⟩) fun _=>rX (fun _=>⟨_,rfl⟩) fun _=>rX (fun _=>?_) fun _=>rX (fun _=>?_) fun _=>rX (fun c=>Na r (hk<|.inl<|by grind) hc) fun _=>rX (fun c=>Na r (hk<|.inr<|.inl<|by grind) hc) fun _=>rX (fun c=>Na r (hk<|.inr<|.inr<|by grind) hc) fun _=>⟨_,rfl⟩
 ·refine EF (L:=Ik) (C:=M8) (st:=fun(v:List Int) i=>wR r i v) (n:=r.terms.length) (by omega) (fun i v=>v.length≤i) (fun v i hi hI=>.inl ?_) (fun v hI=>?_) []<|yc _
  ·exact⟨v++[Term.type (r.terms.getD i zb)],by grind,by
    rw[Xe,y5,z8,if_pos (by grind),z6 (by omega),z6 (by grind[ze,List.length_singleton])]⟩
  ·exact⟨_,(zf<|by rw[Xe,z8,if_neg<|by simp]).trans<|anr _ _ _⟩
 ·refine EF (L:=Cc) (C:=M9) (st:=fun(v:List Int) i=>qr r i v) (n:=r.terms.length) (by omega) (fun i v=>v.length≤i) (fun v i hi hI=>.inl ?_) (fun v hI=>?_) []<|yc _
  ·exact⟨v++[Term.type (r.terms.getD i zb)],by grind,by
    rw[Xf,y5,z8,if_pos (by grind),z6 (by omega),z6 (by grind[ze,List.length_singleton])]⟩
  ·rw[zf<|show Cc (qr r (r.terms.length:Int) v)=some (.exit 3,qr r (r.terms.length:Int) v) by rw[Xf,z8,if_neg<|by simp],ans];refine EF (L:=qt) (C:=Ce) (st:=fun(v:List Int) i=>mP r v i) (n:=r.aggs.length) (by omega) (fun i v=>v.length≤4000000+i) (fun v i hi hI=>?_) (fun v hI=>?_) v<|by omega
   ·rw[Xg,y5,z8,if_pos<|by grind,z6<|by omega]
    have step:∀p:Int×Int,(∃b:List Int,b.length≤4000000+(i+1)∧af (p.2 !=0) (some (.ret,Cb r v i)) (ae ((v.length+[p.1].length)*(8:Nat)≤ze)<|qt<|mP r (v++[p.1])<|IntKind.i64.wrap<|(i:Int)+1)=qt (mP r b<|IntKind.i64.wrap<|(i:Int)+1))∨
     ∃q,(af (p.2 !=0) (some (.ret,Cb r v i))<|ae ((v.length+[p.1].length)*(8:Nat)≤ze)<|qt<|mP r (v++[p.1])<|IntKind.i64.wrap<|(i:Int)+1).bind (zd Ce)=some (iX q):=fun p=>by
     cases hp:(p.2 !=0)with
     |true=>exact .inr ⟨_,ant _ _ _⟩
     |false=>exact .inl ⟨v++[p.1],by grind,by rw[z8,if_neg<|by simp,z6<|by grind[ze,List.length_singleton]]⟩
    by_cases c:(↑(Agg.t<|r.aggs.getD i zr).length:Int)>(0:Int)
    all_goals simp_all[z8,if_pos,z6,step,if_neg]
   ·exact⟨_,(zf<|by rw[Xg,z8,if_neg<|by simp]).trans<|anu _ _ _⟩
def anA(r:Rel)(hr:WS .rel r)(h:Ah r):Im r=some (iX<|qu r):=anx<|anz r hr h
def Xj:au Un:=aQ (dS .rel) fun r=>([Ah r],iX<|qu r)
def anB:aj 81 Xj:=aU zo (M:=mO) rfl ⟨MY,am7,MN,Xd,trivial⟩ Tryz.func81 fun r=>GiF.r fun w o=>anA r (am w 0)<|aA o 0
mutual
def mQ:Term→Prop
 | .mk op _ depth at_ _ kids sub _=>(op=2→0≤depth∧0≤at_)∧nD kids∧rY sub
def nD:List Term→Prop
 |[]=>True
 |t::l=>mQ t∧nD l
def In:Agg→Prop
 | .mk _ _ t=>nD t
def Ai:List Agg→Prop
 |[]=>True
 |a::l=>In a∧Ai l
def kt:Rel→Prop
 | .mk op _ _ kids terms aggs _ _ _ _ _=>((op=9∨op=10∨op=11)→2≤kids.length)∧rY kids∧nD terms∧Ai aggs
def rY:List Rel→Prop
 |[]=>True
 |r::l=>kt r∧rY l
end
def Xk t:mQ t↔((t.op=2→0≤t.depth∧0≤t.at_)∧nD t.kids∧rY t.sub):=by cases t;rfl
def Xl r:kt r↔(((r.op=9∨r.op=10∨r.op=11)→2≤r.kids.length)∧rY r.kids∧nD r.terms∧Ai r.aggs):=by cases r;rfl
def Xm a:In a↔nD a.t:=by cases a;rfl
def EG:∀{l:List Term},nD l→∀t∈l,mQ t
 |x::l,h,t,ht=>by
  rcases yh.1 ht with rfl|ht
  ·exact h.1
  ·exact EG h.2 t ht
def Nb:∀{l:List Rel},rY l→∀t∈l,kt t
 |x::l,h,t,ht=>by
  rcases yh.1 ht with rfl|ht
  ·exact h.1
  ·exact Nb h.2 t ht
def Xn:∀{l:List Agg},Ai l→∀a∈l,In a
 |x::l,h,t,ht=>by
  rcases yh.1 ht with rfl|ht
  ·exact h.1
  ·exact Xn h.2 t ht
noncomputable def uO(t:Term)(env:List (List Int))(l:List Int):Bool:=
 if t.op=1 then t.v.kind==0||t.v.kind==t.type
 else if t.op=2 then decide (t.depth<(env.length:Int))&&(decide (t.at_<((env.getD t.depth.toNat []).length:Int))&&(env.getD t.depth.toNat []).getD t.at_.toNat 0==t.type)
 else if t.op=24 then(wO t.name l).2 ==0&&(wO t.name l).1 ==t.type
 else if t.op=27 then t.type==1
 else if t.op=26 then(t.sub.length:Int)==1&&(((Rel.cols<|t.sub.getD 0 za).length:Int)==1&&((Rel.cols<|t.sub.getD 0 za).getD 0 mq).type ==t.type)
 else if t.op=28 then(t.sub.length:Int)==1&&(((Rel.cols<|t.sub.getD 0 za).length:Int)==1&&((l.length:Int)==1&&((hY (l.getD 0 0) ((Rel.cols<|t.sub.getD 0 za).getD 0 mq).type).2 &&t.type==1)))
 else(uN t.op l).2 ==0&&(uN t.op l).1 ==t.type
noncomputable def rZ(r:Rel):Bool:=(qu r).2 &&EE (qu r).1 (cI r.cols)
mutual
noncomputable def eC:Term→List (List Int)→Bool
 | .mk op v depth at_ name kids sub type,env=>uP kids env&&Aj sub env&&uO (.mk op v depth at_ name kids sub type) env (kids.map Term.type)
noncomputable def uP:List Term→List (List Int)→Bool
 |[],_=>true
 |t::l,env=>eC t env&&uP l env
noncomputable def Xo:Agg→List (List Int)→Bool
 | .mk _ _ t,env=>uP t env
noncomputable def EH:List Agg→List (List Int)→Bool
 |[],_=>true
 |a::l,env=>Xo a env&&EH l env
noncomputable def jX:Rel→List (List Int)→Bool
 | .mk op table cols kids terms aggs keys limit skip all rows,env=>Aj kids env&&(rows.all (fun x=>gj x cols)&&(uP terms (dD (.mk op table cols kids terms aggs keys limit skip all rows)::env)&&(EH aggs (dD (.mk op table cols kids terms aggs keys limit skip all rows)::env)&&rZ (.mk op table cols kids terms aggs keys limit skip all rows))))
noncomputable def Aj:List Rel→List (List Int)→Bool
 |[],_=>true
 |r::l,env=>jX r env&&Aj l env
end
theorem EI env:∀l:List Term,uP l env=l.all fun t=>eC t env
 |[]=>rfl
 |t::l=>by simp only[uP,fb,EI env l]
theorem Nc env:∀l:List Rel,Aj l env=l.all fun t=>jX t env
 |[]=>rfl
 |t::l=>by simp only[Aj,fb,Nc env l]
theorem Xp env:∀l:List Agg,EH l env=l.all fun a=>a.t.all fun t=>eC t env
 |[]=>rfl
 | .mk _ _ t::l=>by simp only[EH,Xo,fb,Xp env l,EI,Agg.t_mk]
def anC t env:eC t env=(t.kids.all (fun k=>eC k env)&&t.sub.all (fun k=>jX k env)&&uO t env (t.kids.map Term.type)):=by cases t;simp only[eC,EI,Nc,Term.kids_mk,Term.sub_mk]
def anD r env:jX r env=(r.kids.all (fun k=>jX k env)&&(r.rows.all (fun x=>gj x r.cols)&&(r.terms.all (fun t=>eC t<|dD r::env)&&(r.aggs.all (fun a=>a.t.all fun t=>eC t<|dD r::env)&&rZ r)))):=by
 cases r;simp only[jX,EI,Nc,Xp,Rel.kids_mk,Rel.terms_mk,Rel.aggs_mk,Rel.rows_mk,Rel.cols_mk]
noncomputable def oD(t:Term)(env:List (List Int)):Bool:=eC t env
noncomputable def mR(r:Rel)(env:List (List Int)):Bool:=jX r env
def Io(m:Nat):au Un:=aD (dS .term) (dL .ints) fun t env=>bB (2*t.ht) m ([t.sz≤2000000,lw t≤2000000000,mQ t,env.length+t.ht≤8000000],ak<|oD t env)
def Ip(m:Nat):au Un:=aD (dS .rel) (dL .ints) fun r env=>bB (2*r.ht+1) m ([r.sz≤2000000,dC r≤2000000000,kt r,env.length+r.ht≤8000000],ak<|mR r env)
def wS(m:Nat):Mc Un:=az [(24,Io m),(42,Ip m),(60,WT),(61,Ez),(62,WV)] [] [] [] []
def Cg:Nat→NS:=aO [(3,{ts:=bl 198 118,bs:=bl 198 4,nm:=[(.sl 5,792)],cs:=true}),(9,{ts:=bl 198 182,bs:=bl 198 4,nm:=[(.sl 5,793)],cs:=true})] true
def qv(t:Term)(env:List (List Int))(v0:Int)(v1:List Int):S Un:=(st 198 198 794 0 [(1,al .ints env),(2,ax 2),(4,ab false),(5,ao 792),(6,ai v0)] [(2,bg .term t)] [(792,some ⟨(0:Nat),Ty.int,v1,some (0:Nat),true⟩)])
def oE(t:Term)(env:List (List Int))(v1:List Int)(v2:Int):S Un:=(st 198 198 794 0 [(1,al .ints env),(2,ax 2),(4,ab false),(5,ao 793),(7,ai v2)] [(2,bg .term t)] [(793,some ⟨(0:Nat),Ty.int,v1,some (0:Nat),true⟩)])
def Iq(m:Nat):S Un→Option (EX Un):=aC (wS m) Cg Tryz.f24 [1,1,0,1,2,2] 3
def Ir(m:Nat):S Un→Option (EX Un):=aC (wS m) Cg Tryz.f24 [1,1,1,0,1,2,2] 9
def Is(m:Nat):Exit→S Un→Option (RF Un):=aE (wS m) Cg Tryz.f24 [1,1,0,1,2] [.d]
def Ch(m:Nat):Exit→S Un→Option (RF Un):=aE (wS m) Cg Tryz.f24 [1,1,1,0,1,2] [.d]
def Xq(m:Nat)(t:Term)(env:List (List Int)):Option (RF Un):=aw (wS m) Cg Tryz.f24 2 [.d] [.d<|.agg<|enc Ty.term t,.d<|.v<|.dat (U:=Un) Ty.ints env]
def anE(m t env):Xq m t env=(Iq m<|qv t env (0:Int)<|[]).bind (zd<|Is m):=ah
def Xr(m t env v0 v1):Iq m (qv t env v0 v1)=af (decide<|v0<(↑t.kids.length:Int)) (ae (0≤v0∧v0<(↑t.kids.length:Int))<|ae ((2:Nat)*(Term.ids<|t.kids.getD v0.toNat zb).ht<m)<|ae ((Term.ids<|t.kids.getD v0.toNat zb).sz≤(2000000:Nat))<|ae (lw (Term.ids<|t.kids.getD v0.toNat zb)≤(2000000000:Nat))<|ae (mQ<|Term.ids<|t.kids.getD v0.toNat zb)<|ae (env.length+(Term.ids<|t.kids.getD v0.toNat zb).ht≤(8000000:Nat))<|af (!oD (Term.ids<|t.kids.getD v0.toNat zb) env) (some (.ret,(qv t env v0 v1)))<|ae (0≤v0∧v0<(↑t.kids.length:Int))<|ae ((v1.length+[Term.type<|t.kids.getD v0.toNat zb].length)*(8:Nat)≤ze)<|Iq m<|qv t env (IntKind.i64.wrap<|v0+1)<|v1++[Term.type<|t.kids.getD v0.toNat zb]) (some (.exit 0,(qv t env v0 v1))):=aF
def anF(m t env v0 v1):Is m .ret (qv t env v0 v1)=some (ak false):=ah
def anG(m t env v0 v1):Is m (.exit 0) (qv t env v0 v1)=(Ir m<|oE t env v1 (0:Int)).bind (zd<|Ch m):=ah
def Xs(m t env v1 v2):Ir m (oE t env v1 v2)=af (decide<|v2<(↑t.sub.length:Int)) (ae (0≤v2∧v2<(↑t.sub.length:Int))<|ae ((2:Nat)*(Rel.ids<|t.sub.getD v2.toNat za).ht+(1:Nat)<m)<|ae ((Rel.ids<|t.sub.getD v2.toNat za).sz≤(2000000:Nat))<|ae (dC (Rel.ids<|t.sub.getD v2.toNat za)≤(2000000000:Nat))<|ae (kt<|Rel.ids<|t.sub.getD v2.toNat za)<|ae (env.length+(Rel.ids<|t.sub.getD v2.toNat za).ht≤(8000000:Nat))<|af (!mR (Rel.ids<|t.sub.getD v2.toNat za) env) (some (.ret,(oE t env v1 v2)))<|Ir m<|oE t env v1<|IntKind.i64.wrap<|v2+1) (some (.exit 2,(oE t env v1 v2))):=aF
def anH(m t env v1 v2):Ch m .ret (oE t env v1 v2)=some (ak false):=ah
def anI(m t env v1 v2):Ch m (.exit 2) (oE t env v1 v2)=af (t.op==1) (af (t.v.kind==0) (some<|ak true)<|some<|ak<|t.v.kind==t.type) (af (t.op==2) (af (decide<|t.depth<(↑env.length:Int)) (ae (0≤t.depth∧t.depth<(↑env.length:Int))<|af (decide<|t.at_<(↑(List.length<|env.getD t.depth.toNat []):Int)) (ae (0≤t.depth∧t.depth<(↑env.length:Int))<|ae (0≤t.at_∧t.at_<(↑(List.length<|env.getD t.depth.toNat []):Int))<|some<|ak<|List.getD (env.getD t.depth.toNat []) t.at_.toNat (0:Int)==t.type)<|some<|ak false)<|some<|ak false)<|af (t.op==24) (af ((wO t.name v1).snd ==0) (some<|ak<|(wO t.name v1).fst ==t.type)<|some<|ak false)<|af (t.op==27) (some<|ak<|t.type==1)<|af (t.op==26) (af ((↑t.sub.length:Int)==(1:Int)) (ae ((0:Int)≤(0:Int)∧(0:Int)<(↑t.sub.length:Int))<|af ((↑(Rel.cols<|t.sub.getD 0 za).length:Int)==(1:Int)) (ae ((0:Int)≤(0:Int)∧(0:Int)<(↑t.sub.length:Int))<|ae ((0:Int)≤(0:Int)∧(0:Int)<(↑(Rel.cols<|t.sub.getD 0 za).length:Int))<|some<|ak<|((Rel.cols<|t.sub.getD 0 za).getD 0 mq).type ==t.type)<|some<|ak false)<|some<|ak false)<|af (t.op==28) (af ((↑t.sub.length:Int) !=(1:Int)) (some<|ak false)<|ae ((0:Int)≤(0:Int)∧(0:Int)<(↑t.sub.length:Int))<|af ((↑(Rel.cols<|t.sub.getD 0 za).length:Int) !=(1:Int)) (some<|ak false)<|af ((↑v1.length:Int) !=(1:Int)) (some<|ak false)<|ae ((0:Int)≤(0:Int)∧(0:Int)<(↑v1.length:Int))<|ae ((0:Int)≤(0:Int)∧(0:Int)<(↑t.sub.length:Int))<|ae ((0:Int)≤(0:Int)∧(0:Int)<(↑(Rel.cols<|t.sub.getD 0 za).length:Int))<|af ((hY (v1.getD 0 (0:Int)) ((Rel.cols<|t.sub.getD 0 za).getD 0 mq).type).snd) (some<|ak<|t.type==1)<|some<|ak false)<|ae (v1.length≤(2000000:Nat))<|af ((uN t.op v1).snd ==0) (some<|ak<|(uN t.op v1).fst ==t.type)<|some<|ak false):=ah
def Nd{α β:Type}{L:S Un→Option (EX Un)}{st:Int→S Un}{C}(R:Bool→Option β){l:List α}{d e} q(hl:l.length≤9223372036854775807)(step:∀(i:Nat)(x:α),(i:Int)<(l.length:Int)→l.getD i d=x→x∈l→L (st i)=if q x=true then L (st<|IntKind.i64.wrap<|(i:Int)+1)else some (.ret,st i))(stop:L (st (l.length:Int))=some (e,st (l.length:Int)))(r1:∀i:Int,C .ret (st i)=R false)(r2:C e (st (l.length:Int))=R true):(L<|st 0).bind (zd C)=R (l.all q):=by
 have key:∀(k i:Nat),i+k=l.length→(L<|st i).bind (zd C)=R ((l.drop i).all q):=by
  intro k
  induction k with
  |zero=>
   intro i hi;obtain rfl:i=l.length:=by omega
   rw[stop,sC];exact r2
  |succ k ih=>
   intro i hi;have hlt:i<l.length:=by omega
   rw[step i l[i] (by omega) (by rw[yf,ya hlt];rfl)<|mc hlt,fR hlt,fb];cases hq:q l[i]
   ·rw[if_neg<|by decide];exact r1 _
   ·rw[if_pos rfl,zm<|by omega,dQ];exact ih (i+1)<|by omega
 exact key l.length 0<|by omega
def jF{R:Bool→RF Un}{a x X}(h:a=true→X=some (R x)):af a X (some<|R false)=some (R<|a&&x):=by
 cases a
 ·rfl
 ·exact h rfl
def anJ{R:Bool→RF Un}{a x X}(h:a=false→X=some (R x)):af a (some<|R true) X=some (R<|a||x):=by
 cases a
 ·exact h rfl
 ·rfl
def EJ{R:Bool→RF Un}{a b x X}(e:a=!b)(h:b=true→X=some (R x)):af a (some<|R false) X=some (R<|b&&x):=by
 subst e;cases b
 ·rfl
 ·exact h rfl
def uQ{R:Bool→RF Un}{a p}[Decidable p]{x y X Y}(e:(a=true)↔p)(hx:p→X=some (R x))(hy:Y=some (R y)):af a X Y=some (R<|if p then x else y):=by
 cases a
 ·rw[if_neg fun c=>Bool.false_ne_true<|e.2 c];exact hy
 ·rw[if_pos<|e.1 rfl];exact hx<|e.1 rfl
def anK m t env l i(h:l.length≤2000000)(hy:t.op=2→0≤t.depth∧0≤t.at_):Ch m (.exit 2) (oE t env l i)=some (ak<|uO t env l):=by
 rw[anI];unfold uO;have q:∀k:Int,((t.op==k)=true)↔t.op=k:=fun k=>beq_iff_eq;refine uQ (q 1) (fun _=>anJ fun _=>rfl)<|uQ (q 2) (fun c=>?_)<|uQ (q 24) (fun _=>jF fun _=>rfl)<|uQ (q 27) (fun _=>rfl)<|uQ (q 26) (fun _=>jF fun c=>?_)<|uQ (q 28) (fun _=>EJ rfl fun c=>?_) ?_
 ·refine jF fun c1=>?_;rw[decide_eq_true_eq]at c1;rw[z6 ⟨(hy c).1,c1⟩];refine jF fun c2=>?_;rw[decide_eq_true_eq]at c2;rw[z6 ⟨(hy c).1,c1⟩,z6 ⟨(hy c).2,c2⟩]
 ·rw[beq_iff_eq]at c;rw[z6<|by omega];refine jF fun c2=>?_;rw[beq_iff_eq]at c2;rw[z6<|by omega,z6<|by omega]
 ·rw[beq_iff_eq]at c;rw[z6<|by omega];refine EJ rfl fun c2=>EJ rfl fun c3=>?_;rw[beq_iff_eq]at c2 c3;rw[z6<|by omega,z6<|by omega,z6<|by omega];exact jF fun _=>rfl
 ·rw[z6 h];exact jF fun _=>rfl
def anL m(t:Term)(env:List (List Int))(ht:WS .term t)(_he:WL .ints env)(hm:2*t.ht<m+1)(h:t.sz≤2000000)(hc:lw t≤2000000000)(hy:mQ t)(hl:env.length+t.ht≤8000000):Xq m t env=some (ak<|oD t env):=by
 obtain⟨y1,y2,y3⟩:=(Xk t).1 hy;have c0:=M3 t;have h3:=t.sz_eq;have hkl:=fG t.kids
 have l2:=Nd (L:=Ir m) (st:=fun i=>oE t env (t.kids.map Term.type) i) (C:=Ch m) (e:=.exit 2) (fun b=>some<|ak<|b&&uO t env (t.kids.map Term.type)) (l:=t.sub) (d:=za) (fun r=>jX r env) (ht.term_sub).len
  (fun i k hi hk hmem=>by
   have h1:=Term.ht_sub hmem;have h2:=ot hmem;have h4:=qq hmem;rw[Xs];simp only[z8,hi,decide_true,if_true,and_true,y5,hk,Rel.ids_eq];rw[z6<|by omega,z6<|by omega,z6<|by omega,z6<|by omega,z6<|Nb y3 k hmem,z6<|by omega];unfold mR
   cases jX k env<;>rfl)
  (by rw[Xs];simp[z8]) (fun i=>by rw[js];exact anH _ _ _ _ _)
  (by rw[dQ];exact anK m t env _ _ (by rw[yy];omega) y1)
 rw[anE,oD,anC,Gl]
 exact Nd (L:=Iq m) (st:=fun i=>qv t env i<|(t.kids.take i.toNat).map Term.type) (C:=Is m) (e:=.exit 0) (fun b=>some<|ak<|b&&(t.sub.all (fun r=>jX r env)&&uO t env (t.kids.map Term.type))) (l:=t.kids) (d:=zb) (fun t=>eC t env) (ht.term_kids).len
  (fun i k hi hk hmem=>by
   have h1:=Term.ht_kid hmem;have h2:=oq hmem;have h4:=ta hmem;have hil:i<t.kids.length:=by omega
   have e:(t.kids.take<|i+1).map Term.type=(t.kids.take i).map Term.type++[k.type]:=by
    rw[Gm,Gn,←hk,yf,ya hil];rfl
   rw[Xr,eW hil (ht.term_kids).len];simp only[z8,hi,decide_true,if_true,and_true,y5,hk,Term.ids_eq];rw[z6<|by omega,z6<|by omega,z6<|by omega,z6<|by omega,z6<|EG y2 k hmem,z6<|by omega,z6<|by omega,z6 (by unfold ze;rw[yy,yn,yd];omega),←e];unfold oD
   cases eC k env<;>rfl)
  (by rw[Xr];simp[z8]) (fun i=>by rw[js];exact anF _ _ _ _ _) (by
   rw[dQ,anG,y5,vp]
   exact l2)
abbrev Nf(m:Nat):Prop:=aj 24 (Io m)∧aj 42 (Ip m)
def anM(m:Nat)(hG:Nf m):aj 24 (Io<|m+1):=aJ zo zi (M:=(wS m)) rfl ⟨hG.1,hG.2,ana,MN,ane,trivial⟩ Tryz.func24 fun t env=>GiF.r fun w o=>anL m t env (am w 0) (am w 1) (aA o 0) (aA o 1) (aA o 2) (aA o 3)<|aA o 4
def ku(m:Nat):Mc Un:=az [(42,Ip m),(79,MH),(80,M5),(24,Io m),(81,Xj),(25,If),(31,W8)] [] [] [] []
def iY:Nat→NS:=aO [(2,{ts:=bl 107 54,bs:=bl 107 4,nm:=[],cs:=true}),(7,{ts:=bl 107 86,bs:=bl 107 4,nm:=[],cs:=true}),(13,{ts:=bl 107 404,bs:=bl 107 4,nm:=[(.sl 7,428)],cs:=true}),(18,{ts:=bl 107 660,bs:=bl 107 4,nm:=[(.sl 7,429)],cs:=true}),(21,{ts:=bl 107 1684,bs:=bl 107 4,nm:=[(.sl 7,430)],cs:=true})] true
def It(r:Rel):=qu<|Rel.mk r.op r.table r.cols r.kids r.terms r.aggs r.keys r.limit r.skip r.all r.rows
def qw(r:Rel)(env:List (List Int))(v0:Int):S Un:=(st 107 107 431 0 [(1,al .ints env),(2,ax 2),(4,ab false),(5,ai v0)] [(2,bg .rel r)] [])
def qx(r:Rel)(env:List (List Int))(v1:Int):S Un:=(st 107 107 431 0 [(1,al .ints env),(2,ax 2),(4,ab false),(6,ai v1)] [(2,bg .rel r)] [])
def qy(r:Rel)(env:List (List Int))(v2:Int):S Un:=(st 107 107 431 0 [(2,ax 2),(4,ab false),(7,ao 428),(8,ai v2)] [(2,bg .rel r)] [(428,some ⟨(0:Nat),Ty.ints,dD (Rel.ids r)::env,some (0:Nat),true⟩)])
def mS(r:Rel)(env:List (List Int))(v3:Int):S Un:=(st 107 107 431 0 [(2,ax 2),(4,ab false),(7,ao 429),(9,ai v3)] [(2,bg .rel r)] [(429,some ⟨(0:Nat),Ty.ints,dD (Rel.ids r)::env,some (0:Nat),true⟩)])
def qz(r:Rel)(env:List (List Int))(v3:Int)(v4:Int):S Un:=(st 107 107 431 0 [(2,ax 2),(4,ab false),(7,ao 430),(9,ai v3),(10,ai v4)] [(2,bg .rel r)] [(430,some ⟨(0:Nat),Ty.ints,dD (Rel.ids r)::env,some (0:Nat),true⟩)])
def Iu(m:Nat):S Un→Option (EX Un):=aC (ku m) iY Tryz.f42 [1,0,1,2,2] 2
def Iv(m:Nat):S Un→Option (EX Un):=aC (ku m) iY Tryz.f42 [1,1,0,1,2,2] 7
def Iw(m:Nat):S Un→Option (EX Un):=aC (ku m) iY Tryz.f42 [1,1,1,1,0,1,2,2] 13
def wT(m:Nat):S Un→Option (EX Un):=aC (ku m) iY Tryz.f42 [1,1,1,1,1,0,1,2,2] 18
noncomputable def Xt:Code:=sub (sub (zh Tryz.f42) [1,1,1,1,1,0,1,2,2]) [1,0,2,1,2,2]
def Ix(m:Nat):S Un→Option (EX Un):=bA (iY 21) fun s Q=>aR (ku m) iY Xt s Q
def Iy(m:Nat):Exit→S Un→Option (RF Un):=aE (ku m) iY Tryz.f42 [1,0,1,2] [.d]
def Iz(m:Nat):Exit→S Un→Option (RF Un):=aE (ku m) iY Tryz.f42 [1,1,0,1,2] [.d]
def IA(m:Nat):Exit→S Un→Option (RF Un):=aE (ku m) iY Tryz.f42 [1,1,1,1,0,1,2] [.d]
def IB(m:Nat):Exit→S Un→Option (RF Un):=aE (ku m) iY Tryz.f42 [1,1,1,1,1,0,1,2] [.d]
def IC(m:Nat):Exit→S Un→Option (EX Un):=bu (ku m) iY (sub (zh Tryz.f42) [1,1,1,1,1,0,1,2,2]) [1,0,2,1,2]<|eV (iY 18)<|wT m
def Xu(m:Nat)(r:Rel)(env:List (List Int)):Option (RF Un):=aw (ku m) iY Tryz.f42 3 [.d] [.d<|.agg<|enc Ty.rel r,.d<|.v<|.dat (U:=Un) Ty.ints env]
def anN(m r env):Xu m r env=(Iu m<|qw r env (0:Int)).bind (zd<|Iy m):=ah
def Xv(m r env v0):Iu m (qw r env v0)=af (decide<|v0<(↑r.kids.length:Int)) (ae (0≤v0∧v0<(↑r.kids.length:Int))<|ae ((2:Nat)*(Rel.ids<|r.kids.getD v0.toNat za).ht+(1:Nat)<m)<|ae ((Rel.ids<|r.kids.getD v0.toNat za).sz≤(2000000:Nat))<|ae (dC (Rel.ids<|r.kids.getD v0.toNat za)≤(2000000000:Nat))<|ae (kt<|Rel.ids<|r.kids.getD v0.toNat za)<|ae (env.length+(Rel.ids<|r.kids.getD v0.toNat za).ht≤(8000000:Nat))<|af (!mR (Rel.ids<|r.kids.getD v0.toNat za) env) (some (.ret,(qw r env v0)))<|Iu m<|qw r env<|IntKind.i64.wrap<|v0+1) (some (.exit 0,(qw r env v0))):=aF
def anO(m r env v0):Iy m .ret (qw r env v0)=some (ak false):=ah
def anP(m r env v0):Iy m (.exit 0) (qw r env v0)=(Iv m<|qx r env (0:Int)).bind (zd<|Iz m):=ah
def Xw(m r env v1):Iv m (qx r env v1)=af (decide<|v1<(↑r.rows.length:Int)) (ae (0≤v1∧v1<(↑r.rows.length:Int))<|af (!gj (r.rows.getD v1.toNat []) r.cols) (some (.ret,(qx r env v1)))<|Iv m<|qx r env<|IntKind.i64.wrap<|v1+1) (some (.exit 2,(qx r env v1))):=aF
def anQ(m r env v1):Iz m .ret (qx r env v1)=some (ak false):=ah
def anR(m r env v1):Iz m (.exit 2) (qx r env v1)=ae (dC (Rel.ids r)≤(2000000000:Nat)) (ae (([dD<|Rel.ids r].length+env.length)*(24:Nat)≤ze)<|(Iw m<|qy r env (0:Int)).bind<|zd<|IA m):=ah
def Xx(m r env v2):Iw m (qy r env v2)=af (decide<|v2<(↑r.terms.length:Int)) (ae (0≤v2∧v2<(↑r.terms.length:Int))<|ae ((2:Nat)*(Term.ids<|r.terms.getD v2.toNat zb).ht<m)<|ae ((Term.ids<|r.terms.getD v2.toNat zb).sz≤(2000000:Nat))<|ae (lw (Term.ids<|r.terms.getD v2.toNat zb)≤(2000000000:Nat))<|ae (mQ<|Term.ids<|r.terms.getD v2.toNat zb)<|ae ((dD (Rel.ids r)::env).length+(Term.ids<|r.terms.getD v2.toNat zb).ht≤(8000000:Nat))<|af (!oD (Term.ids<|r.terms.getD v2.toNat zb) (dD (Rel.ids r)::env)) (some (.ret,(qy r env v2)))<|Iw m<|qy r env<|IntKind.i64.wrap<|v2+1) (some (.exit 4,(qy r env v2))):=aF
def anS(m r env v2):IA m .ret (qy r env v2)=some (ak false):=ah
def anT(m r env v2):IA m (.exit 4) (qy r env v2)=(wT m<|mS r env (0:Int)).bind (zd<|IB m):=ah
def Xy(m r env v3):wT m (mS r env v3)=af (decide<|v3<(↑r.aggs.length:Int)) ((Ix m<|qz r env v3 (0:Int)).bind<|zd<|IC m) (some (.exit 6,(mS r env v3))):=aF
def anU(m r env v3):IB m (.exit 6) (mS r env v3)=ae (Ah<|Rel.ids r) (af ((It r).snd) (ae (r.cols.length≤(2000000000:Nat))<|some<|ak<|EE (It r).fst<|cI r.cols)<|some<|ak false):=ah
def Xz m r env v3 v4:Ix m (qz r env v3 v4)=ae (0≤v3∧v3<(↑r.aggs.length:Int)) (af (decide<|v4<(↑(Agg.t<|r.aggs.getD v3.toNat zr).length:Int)) (ae (0≤v3∧v3<(↑r.aggs.length:Int))<|ae (0≤v4∧v4<(↑(Agg.t<|r.aggs.getD v3.toNat zr).length:Int))<|ae ((2:Nat)*(Term.ids<|(Agg.t<|r.aggs.getD v3.toNat zr).getD v4.toNat zb).ht<m)<|ae ((Term.ids<|(Agg.t<|r.aggs.getD v3.toNat zr).getD v4.toNat zb).sz≤(2000000:Nat))<|ae (lw (Term.ids<|(Agg.t<|r.aggs.getD v3.toNat zr).getD v4.toNat zb)≤(2000000000:Nat))<|ae (mQ<|Term.ids<|(Agg.t<|r.aggs.getD v3.toNat zr).getD v4.toNat zb)<|ae ((dD (Rel.ids r)::env).length+(Term.ids<|(Agg.t<|r.aggs.getD v3.toNat zr).getD v4.toNat zb).ht≤(8000000:Nat))<|af (!oD (Term.ids<|(Agg.t<|r.aggs.getD v3.toNat zr).getD v4.toNat zb) (dD (Rel.ids r)::env)) (some (.ret,(qz r env v3 v4)))<|Ix m<|qz r env v3<|IntKind.i64.wrap<|v4+1)<|some (.exit 8,(qz r env v3 v4))):=(fU (iY 21) Xt _).trans<|by kernel_rfl
def anV(m r env v3 v4):IC m .ret (qz r env v3 v4)=some (.ret,(mS r env v3)):=ah
def anW(m r env v3):IB m .ret (mS r env v3)=some (ak false):=ah
def anX(m r env v3 v4):IC m (.exit 8) (qz r env v3 v4)=wT m (mS r env<|IntKind.i64.wrap<|v3+1):=ah
def anY m(r:Rel)(env:List (List Int))(hr:WS .rel r)(_he:WL .ints env)(hm:2*r.ht+1<m+1)(h:r.sz≤2000000)(hc:dC r≤2000000000)(hy:kt r)(hl:env.length+r.ht≤8000000):Xu m r env=some (ak<|mR r env):=by
 obtain⟨y1,y2,y3,y4⟩:=(Xl r).1 hy;obtain⟨p1,p2⟩:=Ac r;have c0:=lx r;have h3:=r.sz_eq;have hcr:It r=qu r:=by unfold It;exact congrArg qu (by cases r;rfl)
 have l4:=dU (L:=wT m) (st:=fun i=>mS r env i) (C:=IB m) (e:=.exit 6) (fun b=>some<|ak<|b&&rZ r) (l:=r.aggs) (d:=zr) (fun a=>a.t.all fun t=>eC t<|dD r::env) (hr.rel_aggs).len
  (fun i k hi hk hmem=>by
   have hka:=M4 hmem;rw[Xc]at hka
   have li:=dU (L:=Ix m) (st:=fun j=>qz r env i j) (C:=IC m) (e:=.exit 8) (fun b=>if b=true then wT m (mS r env<|IntKind.i64.wrap<|(i:Int)+1)else some (.ret,mS r env i)) (l:=k.t) (d:=zb) (fun t=>eC t<|dD r::env) (by have:=fG k.t;have:=vI hmem;have:=k.sz_eq;omega)
    (fun j t hj ht htm=>by
     obtain⟨h1,h2⟩:=p2 k hmem t htm;have h4:=ta htm;rw[Xz];simp only[hk,z8,hi,hj,decide_true,if_true,and_true,y5,ht,Term.ids_eq,Rel.ids_eq];rw[z6<|by omega,z6<|by omega,z6<|by omega,z6<|by omega,z6<|by omega,z6<|by omega,z6<|EG ((Xm k).1<|Xn y4 k hmem) t htm,z6 (by rw[yz];omega)];unfold oD
     cases eC t (dD r::env)<;>rfl)
    (by rw[Xz];simp only[z8,y5,hk,decide_eq_true_eq];rw[z6<|by omega,if_neg<|by omega]) (fun j=>anV _ _ _ _ _) (fun j=>anX _ _ _ _ _)
   rw[Xy];simp only[z8,hi,decide_true,if_true]
   exact li)
  (by rw[Xy];simp[z8]) (fun i=>by rw[js];exact anW _ _ _ _) (fun i=>by
   rw[dQ,anU,hcr,Rel.ids_eq,z6<|show Ah r from⟨y1,h,hc⟩,z6<|show r.cols.length≤2000000000 by omega];unfold rZ
   cases(qu r).2<;>rfl)
 have l3:=dU (L:=Iw m) (st:=fun i=>qy r env i) (C:=IA m) (e:=.exit 4) (fun b=>some<|ak<|b&&(r.aggs.all (fun a=>a.t.all fun t=>eC t<|dD r::env)&&rZ r)) (l:=r.terms) (d:=zb) (fun t=>eC t<|dD r::env) (hr.rel_terms).len
  (fun i k hi hk hmem=>by
   obtain⟨h1,h2⟩:=p1 k hmem;have h4:=ta hmem;rw[Xx];simp only[z8,hi,decide_true,if_true,and_true,y5,hk,Term.ids_eq,Rel.ids_eq];rw[z6<|by omega,z6<|by omega,z6<|by omega,z6<|by omega,z6<|EG y3 k hmem,z6 (by rw[yz];omega)];unfold oD
   cases eC k (dD r::env)<;>rfl)
  (by rw[Xx];simp[z8]) (fun i=>by rw[js];exact anS _ _ _ _) (fun i=>by rw[dQ];exact(anT _ _ _ _).trans l4)
 have l2:=dU (L:=Iv m) (st:=fun i=>qx r env i) (C:=Iz m) (e:=.exit 2) (fun b=>some<|ak<|b&&(r.terms.all (fun t=>eC t<|dD r::env)&&(r.aggs.all (fun a=>a.t.all fun t=>eC t<|dD r::env)&&rZ r))) (l:=r.rows) (d:=[]) (fun x=>gj x r.cols) (hr.rel_rows).len
  (fun i k hi hk hmem=>by
   rw[Xw];simp only[z8,hi,decide_true,if_true,and_true,y5,hk];rw[z6<|by omega]
   cases gj k r.cols<;>rfl)
  (by rw[Xw];simp[z8]) (fun i=>by rw[js];exact anQ _ _ _ _) (fun i=>by
   rw[dQ,anR,Rel.ids_eq,z6 hc,z6 (by unfold ze;rw[yd];omega)]
   exact l3)
 rw[anN,mR,anD]
 exact dU (L:=Iu m) (st:=fun i=>qw r env i) (C:=Iy m) (e:=.exit 0) (fun b=>some<|ak<|b&&(r.rows.all (fun x=>gj x r.cols)&&(r.terms.all (fun t=>eC t<|dD r::env)&&(r.aggs.all (fun a=>a.t.all fun t=>eC t<|dD r::env)&&rZ r)))) (l:=r.kids) (d:=za) (fun t=>jX t env) (hr.rel_kids).len
  (fun i k hi hk hmem=>by
   have h1:=Rel.ht_kid hmem;have h2:=hU hmem;have h4:=qq hmem;rw[Xv];simp only[z8,hi,decide_true,if_true,and_true,y5,hk,Rel.ids_eq];rw[z6<|by omega,z6<|by omega,z6<|by omega,z6<|by omega,z6<|Nb y2 k hmem,z6<|by omega];unfold mR
   cases jX k env<;>rfl)
  (by rw[Xv];simp[z8]) (fun i=>by rw[js];exact anO _ _ _ _) (fun i=>by rw[dQ];exact(anP _ _ _ _).trans l2)
def anZ(m:Nat)(hG:Nf m):aj 42 (Ip<|m+1):=aJ zo zi (M:=(ku m)) rfl ⟨hG.2,Wd,Xd,hG.1,anB,MY,anm,trivial⟩ Tryz.func42 fun r env=>GiF.r fun w o=>anY m r env (am w 0) (am w 1) (aA o 0) (aA o 1) (aA o 2) (aA o 3)<|aA o 4
def Ng:∀m,Nf m
 |0=>⟨ew,ew⟩
 |m+1=>⟨anM m<|Ng m,anZ m<|Ng m⟩
def XA:au Un:=aD (dS .rel) (dL .ints) fun r env=>([r.sz≤2000000,dC r≤2000000000,kt r,env.length+r.ht≤8000000],ak<|mR r env)
def an0:aj 42 XA:=rP fun m=>(Ng m).2
def XB:Mc Un:=az [(29,VR)] [] [] [] []
def XC(r:Rel)(db:List Data):Option (RF Un):=aw XB aV Tryz.f22 0 [.d] [.d<|.agg<|enc Ty.rel r,.d<|.v<|.dat (U:=Un) Ty.data db]
def an1(r db):XC r db=ae ((Rel.ids r).sz≤(2000000:Nat)) (some<|ak<|decide<|(mI (Rel.ids r) db).snd >20000):=ah
def Ci(r:Rel)(db:List Data):Bool:=decide<|(mI r db).2 >20000
def an2(r:Rel)(db:List Data)(_hr:WS .rel r)(_hd:WL .data db)(h:r.sz≤2000000):XC r db=some (ak<|Ci r db):=by
 rw[an1,Rel.ids_eq,z6 h];rfl
def XD:au Un:=aD (dS .rel) (dL .data) fun r db=>([r.sz≤2000000],ak<|Ci r db)
def an3:aj 22 XD:=aJ zo zi (M:=XB) rfl ⟨alU,trivial⟩ Tryz.func22 fun r db=>GiF.r fun w o=>an2 r db (am w 0) (am w 1)<|aA o 0
def wU:Mc Un:=az [(40,Vq),(28,Wa),(33,UV),(41,Wu),(42,XA),(22,XD)] [] [] [] []
def qA:Nat→NS:=aO [(5,{ts:=bl 84 118,bs:=bl 84 4,nm:=[],cs:=true}),(9,{ts:=bl 84 246,bs:=bl 84 4,nm:=[],cs:=true})] true
def oF(r:Rel)(db:List Data)(v0:Int)(v1:Int):S Un:=(st 84 84 336 0 [(1,al .data db),(2,ax 2),(4,ab false),(5,ai v0),(6,ai v1)] [(2,bg .rel r)] [])
def oG(r:Rel)(db:List Data)(v0:Int)(v1:Int)(v2:Int):S Un:=(st 84 84 336 0 [(1,al .data db),(2,ax 2),(4,ab false),(5,ai<|IntKind.i64.wrap<|v0+(↑(db.getD v1.toNat dx).rows.length:Int)),(6,ai v1),(7,ai v2)] [(2,bg .rel r)] [])
def ID(r:Rel)(db:List Data)(v0:Int)(v1:Int):S Un:=(st 84 84 336 0 [(1,al .data db),(2,ax 2),(4,ab false),(5,ai<|IntKind.i64.wrap<|v0+(↑(db.getD v1.toNat dx).rows.length:Int)),(6,ai v1)] [(2,bg .rel r)] [])
def wV:S Un→Option (EX Un):=aC wU qA Tryz.f11 [1,1,1,0,1,2,2] 5
noncomputable def XE:Code:=sub (sub (zh Tryz.f11) [1,1,1,0,1,2,2]) [1,0,2,1,1,2,2]
def IE:S Un→Option (EX Un):=bA (qA 9) fun s Q=>aR wU qA XE s Q
def Cj:Exit→S Un→Option (RF Un):=aE wU qA Tryz.f11 [1,1,1,0,1,2] [.d]
def IF:Exit→S Un→Option (EX Un):=bu wU qA (sub (zh Tryz.f11) [1,1,1,0,1,2,2]) [1,0,2,1,1,2]<|eV (qA 5) wV
def XF(r:Rel)(db:List Data):Option (RF Un):=aw wU qA Tryz.f11 0 [.d] [.d<|.agg<|enc Ty.rel r,.d<|.v<|.dat (U:=Un) Ty.data db]
def an4(r db):XF r db=ae ((Rel.ids r).sz≤(2000000:Nat)) (af (decide<|qe (Rel.ids r)>1000) (some<|ak false)<|(wV<|oF r db (0:Int) (0:Int)).bind<|zd Cj):=ah
def XG(r db v0 v1):wV (oF r db v0 v1)=af (decide<|v1<(↑db.length:Int)) (af (decide<|v1<5) (ae (0≤v1∧v1<(↑db.length:Int))<|(IE<|oG r db v0 v1 (0:Int)).bind<|zd IF)<|some (.exit 0,(oF r db v0 v1))) (some (.exit 0,(oF r db v0 v1))):=aF
def an5(r db v0 v1):Cj (.exit 0) (oF r db v0 v1)=af (decide<|v0≤12) (af (decide<|(↑db.length:Int)≤(4:Int)) (ae ((Rel.ids r).sz≤(2000000:Nat))<|af (decide<|qf (Rel.ids r)≤24) (ae (cd [] (Rel.ids r).ht)<|af (jD (Rel.ids r) []) (ae ((Rel.ids r).sz≤(2000000:Nat))<|af (mL (Rel.ids r) db) (ae ((Rel.ids r).sz≤(2000000:Nat))<|ae (dC (Rel.ids r)≤(2000000000:Nat))<|ae (kt<|Rel.ids r)<|ae (0+(Rel.ids r).ht≤(8000000:Nat))<|af (mR (Rel.ids r) []) (ae ((Rel.ids r).sz≤(2000000:Nat))<|some<|ak<|!Ci (Rel.ids r) db)<|some<|ak false)<|some<|ak false)<|some<|ak false)<|some<|ak false)<|some<|ak false) (some<|ak false):=ah
def XH r db v0 v1 v2:IE (oG r db v0 v1 v2)=ae (0≤v1∧v1<(↑db.length:Int)) (af (decide<|v2<(↑(db.getD v1.toNat dx).rows.length:Int)) (af (decide<|v2<9) (ae (0≤v1∧v1<(↑db.length:Int))<|ae (0≤v2∧v2<(↑(db.getD v1.toNat dx).rows.length:Int))<|af (decide<|(↑(List.length<|(db.getD v1.toNat dx).rows.getD v2.toNat []):Int)>(6:Int)) (some (.ret,(oG r db v0 v1 v2)))<|IE<|oG r db v0 v1<|IntKind.i64.wrap<|v2+1)<|some (.exit 2,(oG r db v0 v1 v2)))<|some (.exit 2,(oG r db v0 v1 v2))):=(fU (qA 9) XE _).trans<|by kernel_rfl
def an6(r db v0 v1 v2):IF .ret (oG r db v0 v1 v2)=some (.ret,(ID r db v0 v1)):=ah
theorem an7(r db v0 v1):Cj .ret (ID r db v0 v1)=some (ak false):=ah
def an8(r db v0 v1 v2):IF (.exit 2) (oG r db v0 v1 v2)=wV (oF r db (IntKind.i64.wrap<|v0+(↑(db.getD v1.toNat dx).rows.length:Int))<|IntKind.i64.wrap<|v1+1):=ah
def an9{α β:Type}{L:S Un→Option (EX Un)}{st er:Int→S Un}{C}(R:Bool→Option β){l:List α}{d e} q(hl:l.length≤9223372036854775807)(step:∀(i:Nat)(x:α),(i:Int)<(l.length:Int)→l.getD i d=x→x∈l→L (st i)=if q x=true then L (st<|IntKind.i64.wrap<|(i:Int)+1)else some (.ret,er i))(stop:L (st (l.length:Int))=some (e,st (l.length:Int)))(r1:∀i:Int,C .ret (er i)=R false)(r2:C e (st (l.length:Int))=R true):(L<|st 0).bind (zd C)=R (l.all q):=by
 have key:∀(k i:Nat),i+k=l.length→(L<|st i).bind (zd C)=R ((l.drop i).all q):=by
  intro k
  induction k with
  |zero=>
   intro i hi;obtain rfl:i=l.length:=by omega
   rw[stop,sC];exact r2
  |succ k ih=>
   intro i hi;have hlt:i<l.length:=by omega
   rw[step i l[i] (by omega) (by grind)<|mc hlt,fR hlt,fb];cases hq:q l[i]
   ·exact r1 _
   ·rw[if_pos rfl,zm<|by omega,dQ];grind
 exact key l.length 0<|by omega
def XI{α:Type}{l:List α}{n i:Nat}{d x}(h:(i:Int)<((l.take n).length:Int))(hx:(l.take n).getD i d=x):l.getD i d=x∧i<l.length∧i<n:=by
 grind
def nE(n:Int)(d:Data):Int:=IntKind.i64.wrap<|n+(d.rows.length:Int)
def Nh(d:Data):Bool:=(d.rows.take 9).all fun x=>!decide ((x.length:Int)>6)
noncomputable def Ak(r:Rel)(db:List Data)(n:Int):Bool:=decide (n≤12)&&(decide ((db.length:Int)≤4)&&(decide (qf r≤24)&&(jD r []&&(mL r db&&(mR r []&& !Ci r db)))))
noncomputable def Ck(r:Rel)(db:List Data):Bool:=!decide (qe r>1000)&&((db.take 5).all Nh&&Ak r db ((db.take 5).foldl nE 0))
mutual
def aoa:∀t:Term,t.ht≤t.sz
 | .mk op v depth at_ name kids sub type=>by
  have:=IG kids;have:=Nj sub;simp only[Term.ht,Term.sz];omega
def IG:∀l:List Term,aY l≤ez l
 |[]=>y7 _
 |t::l=>by
  have:=aoa t;have:=IG l;simp only[aY,ez];omega
def aob:∀a:Agg,a.ht≤a.sz
 | .mk name distinct t=>by
  have:=IG t;simp only[Agg.ht,Agg.sz];omega
def XJ:∀l:List Agg,fx l≤gI l
 |[]=>y7 _
 |t::l=>by
  have:=aob t;have:=XJ l;simp only[fx,gI];omega
def Ni:∀r:Rel,r.ht≤r.sz
 | .mk op table cols kids terms aggs keys limit skip all rows=>by
  have:=Nj kids;have:=IG terms;have:=XJ aggs;simp only[Rel.ht,Rel.sz];omega
def Nj:∀l:List Rel,rQ l≤jm l
 |[]=>y7 _
 |t::l=>by
  have:=Ni t;have:=Nj l;simp only[rQ,jm];omega
end
def fI{r env}(h:ll r env=true):((r.kids.length:Int)=bD r.op∧0≤bD r.op)∧(∀k∈r.kids,ll k env=true)∧(r.cols.length:Int)=bQ r∧(∀t∈r.terms,km t (fg r::env)=true)∧(∀a∈r.aggs,∀t∈a.t,km t (fg r::env)=true)∧jC r env=true:=by
 rw[UK,yp,yp,yp,Ed,y1b]at h;obtain⟨⟨⟨h1,h2⟩,h4⟩,h3⟩:=h;unfold zX at h1;simp at h1;obtain⟨⟨h5,h6⟩,h7⟩:=h1;refine⟨⟨h6,h5⟩,h2,by grind,?_,?_,h3⟩
 ·intro t ht;unfold fh at h7;have e:r.op=3∨r.op=4∨r.op=5∨r.op=6∨r.op=7:=by
   grind
  grind[jC,vS,km,fg,List.all_eq_true]
 ·intro a ha t ht;unfold fh at h7;have e:r.op=7:=by
   grind
  unfold jC at h3;rw[if_neg<|by omega,if_neg<|by omega,if_neg<|by omega,if_neg<|by omega,if_neg<|by omega,if_pos e,yp,Mg]at h3;have q:=y1b.1 h3.2 a ha;simp_all[UJ,yp,vS,y1b]
def Nk{t env}(h:km t env=true):rR t env=true∧(∀k∈t.kids,km k env=true)∧(∀k∈t.sub,ll k env=true):=by
 rw[UI,yp,yp,vS,Ed,y1b,iF,yp,decide_eq_true_eq,y1b]at h;have hs:(t.sub.length:Int)=sV t:=by
  simp_all[rR,yp,decide_eq_true_eq]
 grind[List.length_pos_of_mem,sV]
def aoc:∀(n:Nat),(∀(t:Term)(env:List Int),t.ht<n→km t env=true→mQ t)∧(∀(r:Rel)(env:List Int),r.ht<n→ll r env=true→kt r):=by
 have ts:∀(l:List Term),(∀t∈l,mQ t)→nD l:=by
  intro l
  induction l with
  |nil=>intro _;trivial
  |cons t l ih=>intro h;exact⟨h t cP,ih fun x hx=>h x<|cV _ hx⟩
 have rs:∀(l:List Rel),(∀t∈l,kt t)→rY l:=by
  intro l
  induction l with
  |nil=>intro _;trivial
  |cons t l ih=>intro h;exact⟨h t cP,ih fun x hx=>h x<|cV _ hx⟩
 have as_:∀(l:List Agg),(∀t∈l,In t)→Ai l:=by
  intro l
  induction l with
  |nil=>intro _;trivial
  |cons t l ih=>intro h;exact⟨h t cP,ih fun x hx=>h x<|cV _ hx⟩
 intro n
 induction n with
 |zero=>simp
 |succ n ih=>
  constructor
  ·intro t env hn h;obtain⟨h1,h2,h3⟩:=Nk h;refine(Xk t).2 ⟨fun c=>?_,ts _ fun k hk=>ih.1 k env (by have:=Term.ht_kid hk;omega)<|h2 k hk,rs _ fun k hk=>ih.2 k env (by have:=Term.ht_sub hk;omega)<|h3 k hk⟩;unfold rR uB at h1;grind
  ·intro r env hn h;obtain⟨p1,p2⟩:=Ac r;obtain⟨⟨h1,_⟩,h2,_,h3,h4,_⟩:=fI h;refine(Xl r).2 ⟨fun c=>?_,rs _ fun k hk=>ih.2 k env (by have:=Rel.ht_kid hk;omega)<|h2 k hk,ts _ fun t ht=>ih.1 t _ (by grind)<|h3 t ht,as_ _ fun a ha=>(Xm a).2<|ts _ fun t ht=>ih.1 t _ (by grind)<|h4 a ha t ht⟩;grind[bD]
def aod{r env}(h:ll r env=true):kt r:=(aoc<|r.ht+1).2 r env (pI _) h
theorem aoe r db n i(h:r.sz≤2000000)(hh:r.ht≤2000000)(hc:dC r≤2000000000):Cj (.exit 0) (oF r db n i)=some (ak<|Ak r db n):=by
 rw[an5,Rel.ids_eq];refine jF fun _=>jF fun _=>?_;rw[z6 h];refine jF fun _=>?_;rw[z6<|by grind[cd,List.length_nil]];refine jF fun c=>?_;rw[z6 h];refine jF fun _=>?_;rw[z6 h,z6 hc,z6<|aod c,z6<|by omega];refine jF fun _=>?_;rw[z6 h]
def aof(r:Rel)(db:List Data)(_hr:WS .rel r)(hd:WL .data db)(h:r.sz≤2000000)(hc:dC r≤2000000000):XF r db=some (ak (Ck r db)):=by
 have hh:=Ni r;have hlt:(db.take 5).length≤5:=by grind
 have key:=an9 (L:=wV) (st:=fun i=>oF r db (((db.take 5).take i.toNat).foldl nE 0) i) (er:=fun i=>ID r db (((db.take 5).take i.toNat).foldl nE 0) i) (C:=Cj) (e:=.exit 0) (fun b=>some (ak (b&&Ak r db ((db.take 5).foldl nE 0)))) (l:=db.take 5) (d:=dx) Nh (by omega)
  (fun i d hi hd hmem=>by
   obtain⟨g1,g2,g3⟩:=XI hi hd;have hil:i<(db.take 5).length:=by omega
   have e:((db.take 5).take (i+1)).foldl nE 0=nE (((db.take 5).take i).foldl nE 0) d:=by
    rw[Gm,nP,←hd,yf,ya hil];rfl
   have li:=fun(n:Int)=>Nd (L:=IE) (st:=fun j=>oG r db n i j) (C:=IF) (e:=.exit 2) (fun b=>if b=true then wV (oF r db (nE n d) (IntKind.i64.wrap ((i:Int)+1)))else some (.ret,ID r db n i)) (l:=d.rows.take 9) (d:=[]) (fun x=>!decide ((x.length:Int)>6)) (by grind)
    (fun j x hj hx _=>by
     obtain⟨f1,f2,f3⟩:=XI hj hx;rw[XH];simp only[g1,f1,y5];rw[z6 (by omega),z8,if_pos (by grind),z8,if_pos (by grind),z6 (by omega),z6 (by omega)]
     cases decide ((x.length:Int)>6)<;>rfl)
    (by
     rw[XH];simp only[g1,y5,z8,decide_eq_true_eq];rw[z6 (by omega),yn]
     grind)
    (fun j=>an6 _ _ _ _ _) (by rw[an8,y5,g1];rfl)
   rw[XG,eW hil (by omega)];simp;rw[z8,if_pos (by grind),z8,if_pos (by grind),z6 (by omega),e];refine(li _).trans ?_
   rw[eW hil (by omega)];rfl)
  (by
   rw[XG];simp only[z8,decide_eq_true_eq,yn]
   grind)
  (fun i=>by simp[js,an7])
  (by rw[dQ,y5,vp];grind[aoe])
 rw[an4,Rel.ids_eq,z6 h];refine(EJ (x:=(db.take 5).all Nh&&Ak r db ((db.take 5).foldl nE 0)) (by simp) fun _=>key)
def Nl:au Un:=aD (dS .rel) (dL .data) fun r db=>([r.sz≤2000000,dC r≤2000000000],ak<|Ck r db)
def aog:aj 11 Nl:=aJ zo zi (M:=wU) rfl ⟨alD,amb,ak9,amG,an0,an3,trivial⟩ Tryz.func11 fun r db=>GiF.r fun w o=>aof r db (am w 0) (am w 1) (aA o 0)<|aA o 1
end
end B
end Go.Proofs.YtjfpbchdcbhfgaaGreat
