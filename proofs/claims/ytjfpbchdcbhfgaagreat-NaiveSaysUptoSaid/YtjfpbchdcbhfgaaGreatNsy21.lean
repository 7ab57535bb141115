/- Part 21 of the proof: Sr20a Sr20b Lnr20. -/
import Derived.Test.YtjfpbchdcbhfgaaGreatNsy20
set_option linter.unusedVariables false
set_option linter.unusedSimpArgs false
set_option linter.defProp false
namespace Go.Proofs.YtjfpbchdcbhfgaaGreat
namespace B
open Go Go.RowKit
set_option maxRecDepth 100000
noncomputable section
attribute [local irreducible] aB bk zw br aK b9 aR bu bA
def Px:Nat→NS:=aO [(2,{ts:=bl 20 51,bs:=bl 20 0,nm:=[],cs:=true})] true
def yB(l:List (List Val))(r:List Val)(v0:Int):S Un:=(st 20 20 80 0 [(0,al .row l),(1,al .val r),(4,ai (0:Int)),(5,ai v0)] [] [])
def Rp(l:List (List Val))(r:List Val)(v0:Int)(v1:Int):S Un:=(st 20 20 80 0 [(0,al .row l),(1,al .val r),(4,ai v1),(5,ai v0)] [] [])
def JU:S Un→Option (EX Un):=aC pD Px Tryz.f102 [1,0,1,2,2] 2
def JV:Exit→S Un→Option (RF Un):=aE pD Px Tryz.f102 [1,0,1,2] [.d]
def aev(l:List (List Val))(r:List Val):Option (RF Un):=aw pD Px Tryz.f102 0 [.d] [.d<|.v<|.dat (U:=Un) Ty.row l,.d<|.v<|.dat (U:=Un) Ty.val r]
def ay3(l r):aev l r=(JU<|yB l r (0:Int)).bind (zd JV):=ah
def aew(l r v0):JU (yB l r v0)=af (decide<|v0<(↑l.length:Int)) (ae (0≤v0∧v0<(↑l.length:Int))<|af (dA (l.getD v0.toNat []) r==0) (some (.ret,(Rp l r v0 v0)))<|JU<|yB l r<|IntKind.i64.wrap<|v0+1) (some (.exit 0,(yB l r v0))):=aF
def ay4(l r v0 v1):JV .ret (Rp l r v0 v1)=some (ay v1):=ah
def ay5(l r v0):JV (.exit 0) (yB l r v0)=some (ay<|(-1:Int)):=ah
def pF{α b}{X Y Z:Option α}(hb:b=true)(h:X=Z):af b X Y=Z:=by subst hb;exact h
def AX{α b}{X Y Z:Option α}(hb:b=false)(h:Y=Z):af b X Y=Z:=by subst hb;exact h
def ay6{α β:Type}{L:S Un→Option (EX Un)}{st er:Int→S Un}{C:Exit→S Un→Option β}(R:Int→Option β){l:List α}{d e}(p:α→Bool)(hl:l.length≤9223372036854775807)(step:∀(i:Nat)(x:α),(i:Int)<(l.length:Int)→l.getD i d=x→L (st i)=if p x=true then some (.ret,er i)else L (st (IntKind.i64.wrap ((i:Int)+1))))(stop:L (st (l.length:Int))=some (e,st (l.length:Int)))(r1:∀i:Nat,C .ret (er (i:Int))=R i)(r2:C e (st (l.length:Int))=R (-1)):(L (st 0)).bind (zd C)=R (match l.findIdx? p with|some i=>(i:Int)|none=>-1):=by
 have key:∀(k i:Nat),i+k=l.length→(L (st i)).bind (zd C)=R (match(l.drop i).findIdx? p with|some j=>((i+j:Nat):Int)|none=>-1):=by
  intro k
  induction k with
  |zero=>
   intro i hi;obtain rfl:i=l.length:=by omega
   rw[stop,sC];exact r2
  |succ k ih=>
   intro i hi;have hlt:i<l.length:=by omega
   rw[step i l[i] (by omega) (by rw[yf,ya hlt];rfl),fR hlt,nQ];cases hq:p l[i]
   ·rw[if_neg (by decide),if_neg (by decide),zm (by omega)];refine(ih (i+1) (by omega)).trans ?_;cases(l.drop (i+1)).findIdx? p with
    |none=>rfl
    |some j=>show R ((i+1+j:Nat):Int)=R ((i+(j+1):Nat):Int);rw[show i+1+j=i+(j+1) by omega]
   ·rw[if_pos rfl,if_pos rfl];exact r1 i
 have:=key l.length 0 (by omega);simpa using this
def pl(l:List (List Val))(r:List Val):Int:=zj l r
def ay7(l:List (List Val))(r:List Val)(hl:WL .row l)(_hr:WL .val r):aev l r=some (ay<|pl l r):=by
 rw[ay3]
 exact ay6 (L:=JU) (st:=fun i=>yB l r i) (er:=fun i=>Rp l r i i) (C:=JV) (e:=.exit 0) (fun i=>some<|ay i) (l:=l) (d:=[]) (fun x=>fP x r) hl.len
  (fun i x hi hx=>by
   rw[aew];simp only[z8,hi,decide_true,if_true,and_true,y5,hx]
   rw[z6 (by omega)];rfl)
  (by rw[aew];simp[z8]) (fun i=>ay4 _ _ _ _) (ay5 _ _ _)
def Py:au Un:=aD (dL .row) (dL .val) fun l r=>([],ay<|pl l r)
def aex:aj 102 Py:=aJ zi zi (M:=pD) rfl ⟨GT,trivial⟩ Tryz.func102 fun l r=>GiF.r fun w _=>ay7 l r (am w 0)<|am w 1
def JW:Mc Un:=az [(102,Py)] [] [] [] []
def Rq:Nat→NS:=aO [(3,{ts:=bl 27 25,bs:=bl 27 0,nm:=[(.sl 3,108)],cs:=true})] true
def t8(l:List (List Val))(v0:Int)(v1:List (List Val)):S Un:=(st 27 27 109 0 [(0,al .row l),(3,ao 108),(4,ai v0)] [] [(108,some ⟨(0:Nat),Ty.row,v1,some (0:Nat),true⟩)])
def C7:S Un→Option (EX Un):=aC JW Rq Tryz.f53 [1,1,0,1,2,2] 3
def aey:Exit→S Un→Option (RF Un):=aE JW Rq Tryz.f53 [1,1,0,1,2] [.m]
def aez(l:List (List Val)):Option (RF Un):=aw JW Rq Tryz.f53 1 [.m] [.d<|.v<|.dat (U:=Un) Ty.row l]
def ay8(l):aez l=(C7<|t8 l (0:Int)<|[]).bind (zd aey):=ah
def aeA(l v0 v1):C7 (t8 l v0 v1)=af (decide<|v0<(↑l.length:Int)) (ae (0≤v0∧v0<(↑l.length:Int))<|af (decide<|pl v1 (l.getD v0.toNat [])<0) (ae (0≤v0∧v0<(↑l.length:Int))<|ae ((v1.length+[l.getD v0.toNat []].length)*(24:Nat)≤ze)<|C7<|t8 l (IntKind.i64.wrap<|v0+1)<|v1++[l.getD v0.toNat []])<|C7<|t8 l (IntKind.i64.wrap<|v0+1) v1) (some (.exit 0,(t8 l v0 v1))):=aF
def ay9(l v0 v1):aey (.exit 0) (t8 l v0 v1)=some (aW v1):=ah
def np(l:List (List Val)):List (List Val):=bV l
def aza(l:List (List Val))(hl:WL .row l)(h:l.length≤100000000):aez l=some (aW<|np l):=by
 obtain⟨lp,_⟩:=zy (e:=.exit 0) (L:=C7) (st:=fun(o:List (List Val)) i=>t8 l i o) (l:=l) (d:=[]) (g:=fun o x=>if zj o x<0 then o++[x]else o) (fun i o=>o.length≤i) hl.len
  (fun o i x hi hx hI=>by
   refine⟨by split<;>(try rw[yb,yd])<;>omega,?_⟩;rw[aeA];simp only[z8,hi,decide_true,if_true,and_true,y5,hx];rw[z6<|by omega,z6<|by omega,z6 (by unfold ze;rw[yd];omega)];simp only[decide_eq_true_eq];show(if zj o x<0 then _ else _)=_
   split<;>rfl)
  (fun o _=>by rw[aeA];simp[z8]) [] (y7 _)
 rw[ay8];refine(zf lp).trans ?_;rw[ay9];rfl
def C8:au Un:=aQ (dL .row) fun l=>([l.length≤100000000],aW<|np l)
def Rr:aj 53 C8:=aU zi (M:=JW) rfl ⟨aex,trivial⟩ Tryz.func53 fun l=>GiF.r fun w o=>aza l (am w 0)<|aA o 0
def aeB(l:List (List Val))(k:Int):Option (RF Un):=aw av aV Tryz.f150 0 [.m] [.d<|.v<|.dat (U:=Un) Ty.row l,.d<|.v<|.s<|.int .i64 k]
def azb(l k):aeB l k=ae (0≤k∧k≤(↑l.length:Int)) (ae ((0+(List.take k.toNat l).length)*(24:Nat)≤ze)<|ae (0≤IntKind.i64.wrap (k+1)∧IntKind.i64.wrap (k+1)≤(↑l.length:Int))<|ae (((List.take k.toNat l).length+(List.drop (IntKind.i64.wrap<|k+1).toNat l).length)*(24:Nat)≤ze)<|some<|aW<|List.take k.toNat l++List.drop (IntKind.i64.wrap<|k+1).toNat l):=ah
def JX(l:List (List Val))(k:Int):List (List Val):=l.eraseIdx k.toNat
def azc(l:List (List Val)) k(_hl:WL .row l)(_hk:WI k)(h:l.length≤100000000)(h2:0≤k∧k<l.length):aeB l k=some (aW<|JX l k):=by
 have e:(IntKind.i64.wrap<|k+1).toNat=k.toNat+1:=by rw[zm<|by omega];omega
 rw[azb,z6<|by omega,z6 (by unfold ze;rw[yn];omega),z6 (by rw[zm<|by omega];omega),z6 (by unfold ze;rw[yn,yt];omega),e];unfold JX;rw[y4f]
def aeC:au Un:=aD (dL .row) (dI .i64) fun l k=>([l.length≤100000000,0≤k∧k<l.length],aW<|JX l k)
def azd:aj 150 aeC:=aJ zi zn (M:=av) rfl trivial Tryz.func150 fun l k=>GiF.r fun w o=>azc l k (am w 0) (am w 1) (aA o 0)<|aA o 1
def JY:Mc Un:=az [(102,Py),(150,aeC)] [] [] [] []
def Pz(r:List (List Val)×List (List Val)):RF Un:=([.c<|.sl (U:=Un) Ty.row r.1 false,.c<|.sl (U:=Un) Ty.row r.2 false],[])
def PA:Nat→NS:=aO [(4,{ts:=bl 49 961,bs:=bl 49 0,nm:=[(.sl 6,196),(.sl 7,197),(.sl 8,198)],cs:=true})] true
def ua(a:List (List Val))(v0:Int)(v1:List (List Val))(v2:List (List Val))(v3:List (List Val)):S Un:=(st 49 49 199 0 [(0,al .row a),(6,ao 196),(7,ao 197),(8,ao 198),(9,ai v0)] [] [(196,some ⟨(0:Nat),Ty.row,v2,some (0:Nat),true⟩),(197,some ⟨(0:Nat),Ty.row,v3,some (0:Nat),true⟩),(198,some ⟨(0:Nat),Ty.row,v1,some (0:Nat),true⟩)])
def C9:S Un→Option (EX Un):=aC JY PA Tryz.f98 [1,1,1,0,1,2,2] 4
def aeD:Exit→S Un→Option (RF Un):=aE JY PA Tryz.f98 [1,1,1,0,1,2] [.d,.d]
def aeE(a:List (List Val))(b:List (List Val)):Option (RF Un):=aw JY PA Tryz.f98 3 [.d,.d] [.d<|.v<|.dat (U:=Un) Ty.row a,.d<|.v<|.dat (U:=Un) Ty.row b]
def aze(a b):aeE a b=ae ((0+b.length)*(24:Nat)≤ze) ((C9<|ua a (0:Int) ([]) b<|[]).bind<|zd aeD):=ah
def aeF(a v0 v1 v2 v3):C9 (ua a v0 v1 v2 v3)=af (decide<|v0<(↑a.length:Int)) (ae (0≤v0∧v0<(↑a.length:Int))<|af (decide<|pl v2 (a.getD v0.toNat [])<0) (ae (0≤v0∧v0<(↑a.length:Int))<|ae ((v1.length+[a.getD v0.toNat []].length)*(24:Nat)≤ze)<|C9<|ua a (IntKind.i64.wrap<|v0+1) (v1++[a.getD v0.toNat []]) v2 v3)<|ae (0≤v0∧v0<(↑a.length:Int))<|ae ((v3.length+[a.getD v0.toNat []].length)*(24:Nat)≤ze)<|ae (v2.length≤(100000000:Nat))<|ae (0≤pl v2 (a.getD v0.toNat [])∧pl v2 (a.getD v0.toNat [])<(↑v2.length:Int))<|C9<|ua a (IntKind.i64.wrap<|v0+1) v1 (JX v2<|pl v2<|a.getD v0.toNat [])<|v3++[a.getD v0.toNat []]) (some (.exit 0,(ua a v0 v1 v2 v3))):=aF
def azf(a v0 v1 v2 v3):aeD (.exit 0) (ua a v0 v1 v2 v3)=some (Pz (v3,v1)):=ah
def nM(p:List (List Val)×List (List Val)×List (List Val))(x:List Val):List (List Val)×List (List Val)×List (List Val):=
 if zj p.2.1 x<0 then(p.1++[x],p.2.1,p.2.2)else(p.1,p.2.1.eraseIdx (zj p.2.1 x).toNat,p.2.2++[x])
def PB:∀(a o left i:List (List Val)),(a.foldl nM (o,left,i)).1=o++fQ false a left∧(a.foldl nM (o,left,i)).2.2=i++fQ true a left
 |[],o,left,i=>by simp[fQ]
 |x::a,o,left,i=>by
  by_cases c:0≤zj left x
  ·have e:nM (o,left,i) x=(o,left.eraseIdx (zj left x).toNat,i++[x]):=by unfold nM;exact if_neg (by dsimp only;omega)
   obtain⟨h1,h2⟩:=PB a o (left.eraseIdx (zj left x).toNat)<|i++[x];rw[yq,e,h1,h2];simp only[fQ,c,decide_true,if_true,reduceCtorEq,if_false,yr,yw,and_self]
  ·have e:nM (o,left,i) x=(o++[x],left,i):=by unfold nM;exact if_pos (by dsimp only;omega)
   obtain⟨h1,h2⟩:=PB a (o++[x]) left i;rw[yq,e,h1,h2];simp only[fQ,c,decide_false,if_true,reduceCtorEq,if_false,yr,yw,and_self]
def rn(a b:List (List Val)):List (List Val)×List (List Val):=(fQ true a b,fQ false a b)
def azg l x:zj l x<l.length:=by
 unfold zj;cases h:l.findIdx? (fun y=>fP y x)with
 |none=>dsimp only;omega
 |some i=>have:=(y27.1 h).1;dsimp only;omega
def azh(a b:List (List Val))(ha:WL .row a)(_hb:WL .row b)(h:a.length≤100000000)(h2:b.length≤100000000):aeE a b=some (Pz<|rn a b):=by
 obtain⟨lp,_⟩:=zy (e:=.exit 0) (L:=C9) (st:=fun(p:List (List Val)×List (List Val)×List (List Val)) i=>ua a i p.1 p.2.1 p.2.2) (l:=a) (d:=[]) (g:=nM) (fun i p=>p.1.length≤i∧p.2.1.length≤100000000∧p.2.2.length≤i) ha.len
  (fun p i x hi hx hI=>by
   obtain⟨i1,i2,i3⟩:=hI;have hlt:=azg p.2.1 x;have hle:(p.2.1.eraseIdx (zj p.2.1 x).toNat).length≤p.2.1.length:=List.length_eraseIdx_le _ _;refine⟨by unfold nM;split<;>(try simp only[yb,yd])<;>omega,?_⟩;rw[aeF];simp only[hi,decide_true,and_true,y5,hx];refine pF rfl ?_;rw[z6<|by omega];unfold nM;by_cases c:zj p.2.1 x<0
   ·rw[if_pos c];refine pF (decide_eq_true c) ?_;rw[z6<|by omega,z6 (by unfold ze;rw[yd];omega)]
   ·rw[if_neg c];refine AX (decide_eq_false c) ?_
    rw[z6 (by omega),z6 (by unfold ze;rw[yd];omega),z6 i2,z6 (show 0≤pl p.2.1 x∧pl p.2.1 x<_ from⟨by show 0≤zj p.2.1 x;omega,hlt⟩)];rfl)
  (fun p _=>by rw[aeF];simp[z8]) ([],b,[]) ⟨yc _,h2,yc _⟩
 obtain⟨e1,e2⟩:=PB a [] b [];rw[aze,z6 (by unfold ze;omega)];refine(zf lp).trans ?_;rw[azf,e1,e2];rfl
def aeG:au Un:=aD (dL .row) (dL .row) fun a b=>([a.length≤100000000,b.length≤100000000],Pz<|rn a b)
def azi:aj 98 aeG:=aJ zi zi (M:=JY) rfl ⟨aex,azd,trivial⟩ Tryz.func98 fun a b=>GiF.r fun w o=>azh a b (am w 0) (am w 1) (aA o 0)<|aA o 1
def aeH:Mc Un:=az [(53,C8),(98,aeG)] [] [] [] []
def aeI(op:Int)(all:Bool)(a:List (List Val))(b:List (List Val)):Option (RF Un):=aw aeH aV Tryz.f49 0 [.d] [.d<|.v<|.s<|.int .i64 op,.d<|.v<|cb all,.d<|.v<|.dat (U:=Un) Ty.row a,.d<|.v<|.dat (U:=Un) Ty.row b]
def azj(op all a b):aeI op all a b=af (op==9) (af all (ae ((0+a.length)*(24:Nat)≤ze)<|ae (((a).length+b.length)*(24:Nat)≤ze)<|some<|aX<|a++b)<|ae ((0+a.length)*(24:Nat)≤ze)<|ae (((a).length+b.length)*(24:Nat)≤ze)<|ae ((a++b).length≤(100000000:Nat))<|some<|aX<|np<|a++b) (af (!all) (ae (a.length≤(100000000:Nat))<|ae ((np a).length≤(100000000:Nat))<|ae (b.length≤(100000000:Nat))<|af (op==10) (some<|aX<|(rn (np a) b).fst)<|some<|aX<|(rn (np a) b).snd)<|ae (a.length≤(100000000:Nat))<|ae (b.length≤(100000000:Nat))<|af (op==10) (some<|aX<|(rn a b).fst)<|some<|aX<|(rn a b).snd):=ah
def AY(op:Int)(all:Bool)(a b:List (List Val)):List (List Val):=kY op all (if op=9 then a++b else a) b
def azk op all(a b:List (List Val))(_ho:WI op)(_ha:WL .row a)(_hb:WL .row b)(h:a.length≤10000000)(h2:b.length≤10000000):aeI op all a b=some (aX<|AY op all a b):=by
 have hd:=(Ji a).1;rw[azj];unfold AY kY;by_cases c:op=9
 ·refine pF (by rw[c];rfl) ?_;rw[if_pos c,if_pos c];cases all
  ·refine AX rfl ?_;rw[z6 (by unfold ze;omega),z6 (by unfold ze;omega),z6 (by rw[yb];omega)];rfl
  ·refine pF rfl ?_;rw[z6 (by unfold ze;omega),z6 (by unfold ze;omega)];rfl
 ·refine AX (beq_eq_false_iff_ne.2 c) ?_;rw[if_neg c,if_neg c];have key:∀a:List (List Val),af (op==10) (some<|aX (rn a b).1) (some<|aX (rn a b).2)=some (aX<|fQ (decide<|op=10) a b):=fun a=>by
   by_cases c2:op=10
   ·rw[decide_eq_true c2];exact pF (by rw[c2];rfl) rfl
   ·rw[decide_eq_false c2];exact AX (beq_eq_false_iff_ne.2 c2) rfl
  cases all
  ·refine pF rfl ?_;rw[z6<|by omega,z6 (show(np a).length≤_ by unfold np;omega),z6<|by omega];exact key _
  ·refine AX rfl ?_;rw[z6<|by omega,z6<|by omega];exact key _
def aeJ:au Un:=LM (dI .i64) dB (dL .row) (dL .row) fun op all a b=>([a.length≤10000000,b.length≤10000000],aX<|AY op all a b)
def azl:aj 49 aeJ:=aiI zn mu zi zi (M:=aeH) rfl ⟨Rr,azi,trivial⟩ Tryz.func49 fun op all a b=>GiF.r fun w o=>azk op all a b (am w 0) (am w 2) (am w 3) (aA o 0)<|aA o 1
def aeK(r:List Val)(env:List (List Val)):Option (RF Un):=aw av aV Tryz.f100 0 [.d] [.d<|.v<|.dat (U:=Un) Ty.val r,.d<|.v<|.dat (U:=Un) Ty.row env]
def azm(r env):aeK r env=ae (([r].length+env.length)*(24:Nat)≤ze) (some<|aX<|r::env):=ah
def kO(r:List Val)(env:List (List Val)):List (List Val):=r::env
def azn(r:List Val)(env:List (List Val))(_hr:WL .val r)(_he:WL .row env)(h:env.length≤100000000):aeK r env=some (aX<|kO r env):=by
 rw[azm,z6<|by grind[ze,List.length_singleton]];rfl
def ub:au Un:=aD (dL .val) (dL .row) fun r env=>([env.length≤100000000],aX<|kO r env)
def PC:aj 100 ub:=aJ zi zi (M:=av) rfl trivial Tryz.func100 fun r env=>GiF.r fun w o=>azn r env (am w 0) (am w 1)<|aA o 0
def JZ:Mc Un:=az [(122,JC),(123,FT),(124,acM),(125,xT)] [] [] [] []
def PD:Nat→NS:=aO [(3,{ts:=bl 43 118,bs:=bl 43 20,nm:=[],cs:=true})] true
def rp(v:Val)(l:List (List Val))(v0:Int)(v1:Int):S Un:=(st 43 43 172 0 [(1,al .row l),(2,ax 2),(4,ax 4),(5,ai v1),(6,ai v0)] [(2,bg .val v),(4,bg .val z7)] [])
def yC:S Un→Option (EX Un):=aC JZ PD Tryz.f70 [1,1,0,1,2,2] 3
def aeL:Exit→S Un→Option (RF Un):=aE JZ PD Tryz.f70 [1,1,0,1,2] [.d]
def aeM(v:Val)(l:List (List Val)):Option (RF Un):=aw JZ PD Tryz.f70 0 [.d] [.d<|.agg<|enc Ty.val v,.d<|.v<|.dat (U:=Un) Ty.row l]
def azo(v l):aeM v l=(yC<|rp v l (0:Int) (0:Int)).bind (zd aeL):=ah
def aeN(v l v0 v1):yC (rp v l v0 v1)=af (decide<|v0<(↑l.length:Int)) (ae (0≤v0∧v0<(↑l.length:Int))<|af ((↑(List.length<|l.getD v0.toNat []):Int)==(0:Int)) (yC<|rp v l (IntKind.i64.wrap<|v0+1) v1)<|ae (0≤v0∧v0<(↑l.length:Int))<|ae ((0:Int)≤(0:Int)∧(0:Int)<(↑(List.length<|l.getD v0.toNat []):Int))<|af (!(cj v<|List.getD (l.getD v0.toNat []) 0 z7).snd) (yC<|rp v l (IntKind.i64.wrap<|v0+1)<|sx v1 (1:Int))<|yC<|rp v l (IntKind.i64.wrap<|v0+1)<|sx v1<|O1<|(cj v<|List.getD (l.getD v0.toNat []) 0 z7).fst ==0) (some (.exit 0,(rp v l v0 v1))):=aF
def azp(v l v0 v1):aeL (.exit 0) (rp v l v0 v1)=some (aq<|pg v1):=ah
def PE(v:Val)(l:List (List Val)):Val:=xy v l
def azq(v:Val)(l:List (List Val))(_hv:WS .val v)(hl:WL .row l):aeM v l=some (aq<|PE v l):=by
 rw[azo]
 obtain⟨lp,_⟩:=zy (e:=.exit 0) (L:=yC) (st:=fun(t:Int) i=>rp v l i t) (l:=l) (d:=[]) (g:=fun t x=>if x.length=0 then t else if(cj v<|x.getD 0 z7).2 then eL t (lE<|(cj v<|x.getD 0 z7).1 ==0)else eL t 1) (fun _ _=>True) hl.len
  (fun t i x hi hx _=>by
   refine⟨trivial,?_⟩;rw[aeN];simp only[z8,hi,decide_true,if_true,and_true,y5,hx,beq_iff_eq];rw[z6<|by omega];by_cases h0:x.length=0
   ·grind
   ·rw[if_neg<|by omega,if_neg h0,z6<|by omega,z6<|by omega];unfold cj
    cases(dX v (x.getD 0 z7)).2<;>rfl)
  (fun t _=>by rw[aeN];simp[z8]) 0 trivial
 refine(zf lp).trans ?_;rw[azp];rfl
def aeO:au Un:=aD (dS .val) (dL .row) fun v l=>([],aq<|PE v l)
def azr:aj 70 aeO:=aJ zo zi (M:=JZ) rfl ⟨Rl,O3,awZ,CZ,trivial⟩ Tryz.func70 fun v l=>GiF.r fun w _=>azq v l (am w 0)<|am w 1
def aeP(a:List Val)(b:List Val):Option (RF Un):=aw av aV Tryz.f96 0 [.d] [.d<|.v<|.dat (U:=Un) Ty.val a,.d<|.v<|.dat (U:=Un) Ty.val b]
def azs(a b):aeP a b=ae ((0+a.length)*(32:Nat)≤ze) (ae (((a).length+b.length)*(32:Nat)≤ze)<|some<|lV<|a++b):=ah
def lW(a b:List Val):List Val:=a++b
def azt(a b:List Val)(_ha:WL .val a)(_hb:WL .val b)(h:a.length≤100000000)(h2:b.length≤100000000):aeP a b=some (lV<|lW a b):=by
 rw[azs,z6<|by grind[ze],z6<|by grind[ze]];rfl
def Da:au Un:=aD (dL .val) (dL .val) fun a b=>([a.length≤100000000,b.length≤100000000],lV<|lW a b)
def aeQ:aj 96 Da:=aJ zi zi (M:=av) rfl trivial Tryz.func96 fun a b=>GiF.r fun w o=>azt a b (am w 0) (am w 1) (aA o 0)<|aA o 1
def PF:Nat→NS:=aO [(3,{ts:=bl 16 25,bs:=bl 16 0,nm:=[(.sl 3,64)],cs:=true})] true
def rq(n:Int)(v0:Int)(v1:List Val):S Un:=(st 16 16 65 0 [(0,ai n),(3,ao 64),(4,ai v0)] [] [(64,some ⟨(0:Nat),Ty.val,v1,some (0:Nat),true⟩)])
def Db:S Un→Option (EX Un):=aC av PF Tryz.f97 [1,1,0,1,2,2] 3
def PG:Exit→S Un→Option (RF Un):=aE av PF Tryz.f97 [1,1,0,1,2] [.d]
def aeR(n:Int):Option (RF Un):=aw av PF Tryz.f97 1 [.d] [.d<|.v<|.s<|.int .i64 n]
def azu(n):aeR n=(Db<|rq n (0:Int)<|[]).bind (zd PG):=ah
def aeS(n v0 v1):Db (rq n v0 v1)=af (decide<|v0<n) (ae ((v1.length+[z7].length)*(32:Nat)≤ze)<|Db<|rq n (IntKind.i64.wrap<|v0+1)<|v1++[z7]) (some (.exit 0,(rq n v0 v1))):=aF
theorem azv(n v0 v1):PG (.exit 0) (rq n v0 v1)=some (lV v1):=ah
def rr(n:Int):List Val:=List.replicate n.toNat z7
def azw n(_hn:WI n)(h:n≤100000000):aeR n=some (lV<|rr n):=by
 have key:∀(k i:Nat),(n.toNat:Int)=i+k→(Db<|rq n (i:Int)<|List.replicate i z7).bind (zd PG)=some (lV<|List.replicate n.toNat z7):=by
  intro k
  induction k with
  |zero=>
   intro i hi;have e:Db (rq n (i:Int)<|List.replicate i z7)=some (.exit 0,rq n (i:Int)<|List.replicate i z7):=by rw[aeS,z8,if_neg<|by grind]
   grind[zf,azv]
  |succ k ih=>
   intro i hi;rw[aeS,z8,if_pos<|by grind,z6 (by unfold ze;grind),zm<|by omega,←List.replicate_succ'];grind
 rw[azu];exact key n.toNat 0<|by omega
def PH:au Un:=aQ (dI .i64) fun n=>([n≤100000000],lV<|rr n)
def azx:aj 97 PH:=aU zn (M:=av) rfl trivial Tryz.func97 fun n=>GiF.r fun w o=>azw n (am w 0)<|aA o 0
def PI:Nat→NS:=aO [(2,{ts:=bl 24 51,bs:=bl 24 0,nm:=[],cs:=true})] true
def lX(name:ByteArray)(db:List Data)(v0:Int):S Un:=(st 24 24 96 0 [(0,at_ name),(1,al .data db),(4,AV.one<|A.c<|C.sl Ty.row [] true),(5,ai v0)] [] [])
def Rs(name:ByteArray)(db:List Data)(v0:Int)(v1:List (List Val))(v2:Bool):S Un:=(st 24 24 96 0 [(0,at_ name),(1,al .data db),(4,AV.one<|A.c<|C.sl Ty.row v1 v2),(5,ai v0)] [] [])
def ru:S Un→Option (EX Un):=aC av PI Tryz.f47 [1,0,1,2,2] 2
def J0:Exit→S Un→Option (RF Un):=aE av PI Tryz.f47 [1,0,1,2] [.d]
def aeT(name:ByteArray)(db:List Data):Option (RF Un):=aw av PI Tryz.f47 0 [.d] [.d<|.v<|cs name,.d<|.v<|.dat (U:=Un) Ty.data db]
def azy(name db):aeT name db=(ru<|lX name db (0:Int)).bind (zd J0):=ah
def Rt(name db v0):ru (lX name db v0)=af (decide<|v0<(↑db.length:Int)) (ae (0≤v0∧v0<(↑db.length:Int))<|af ((db.getD v0.toNat dx).table.toList ==name.toList) (ae (0≤v0∧v0<(↑db.length:Int))<|some (.ret,(Rs name db v0 ((db.getD v0.toNat dx).rows) false)))<|ru<|lX name db<|IntKind.i64.wrap<|v0+1) (some (.exit 0,(lX name db v0))):=aF
def azz(name db v0 v1 v2):J0 .ret (Rs name db v0 v1 v2)=some (aX v1):=ah
def azA(name db v0):J0 (.exit 0) (lX name db v0)=some (aX<|[]):=ah
def Dc(name:ByteArray)(db:List Data):List (List Val):=lM ⟨[],db⟩ name
def azB name(db:List Data)(_hn:cm name)(hd:WL .data db):aeT name db=some (aX<|Dc name db):=by
 have key:∀(r:List Data)(i:Nat),db.drop i=r→i≤db.length→(ru<|lX name db (i:Int)).bind (zd J0)=some (aX (match r.find? (fun d=>d.table.toList==name.toList)with|some d=>d.rows|none=>[])):=by
  intro r
  induction r with
  |nil=>
   intro i hr hi;have hil:db.length≤i:=by simp_all
   have e:ru (lX name db (i:Int))=some (.exit 0,lX name db (i:Int)):=by rw[Rt,z8,if_neg<|by grind]
   rw[zf e,azA];rfl
  |cons d r ih=>
   intro i hr hi;obtain⟨a1,a2,a3,_⟩:=d9 hr;have hx:db.getD i dx=d:=a2 dx;cases c:d.table.toList==name.toList
   ·have e:ru (lX name db (i:Int))=ru (lX name db ((i+1:Nat):Int)):=by
     rw[Rt,z8,if_pos<|by grind,z6<|by omega,y5,hx,c,eW a1 hd.len];rfl
    grind
   ·have e:ru (lX name db (i:Int))=some (.ret,Rs name db (i:Int) d.rows false):=by
     rw[Rt,z8,if_pos<|by grind,z6<|by omega,y5,hx,c,z8,if_pos rfl,z6<|by omega]
    rw[zf e,azz,List.find?_cons,c]
 rw[azy];exact key db 0 rfl<|yc _
def aeU:au Un:=aD cB (dL .data) fun name db=>([],aX<|Dc name db)
def azC:aj 47 aeU:=aJ cN zi (M:=av) rfl trivial Tryz.func47 fun name db=>GiF.r fun w _=>azB name db (am w 0)<|am w 1
def J1:Mc Un:=az [(82,BD),(43,BF)] [] [] [] []
def PJ:Nat→NS:=aO [(2,{ts:=bl 73 199,bs:=bl 73 0,nm:=[],cs:=true})] true
def gE(a:List Val)(b:List Val)(keys:List By)(v0:Int):S Un:=(st 73 73 292 0 [(0,al .val a),(1,al .val b),(2,al .by_ keys),(6,ab false),(7,ai v0)] [] [])
def J2(a:List Val)(b:List Val)(keys:List By)(v0:Int)(v1:Bool):S Un:=(st 73 73 292 0 [(0,al .val a),(1,al .val b),(2,al .by_ keys),(6,ab v1),(7,ai v0)] [] [])
def jU:S Un→Option (EX Un):=aC J1 PJ Tryz.f103 [1,0,1,2,2] 2
def Dd:Exit→S Un→Option (RF Un):=aE J1 PJ Tryz.f103 [1,0,1,2] [.d]
def aeV(a:List Val)(b:List Val)(keys:List By):Option (RF Un):=aw J1 PJ Tryz.f103 0 [.d] [.d<|.v<|.dat (U:=Un) Ty.val a,.d<|.v<|.dat (U:=Un) Ty.val b,.d<|.v<|.dat (U:=Un) Ty.by_ keys]
def azD(a b keys):aeV a b keys=(jU<|gE a b keys (0:Int)).bind (zd Dd):=ah
def J3(a b keys v0):jU (gE a b keys v0)=af (decide<|v0<(↑keys.length:Int)) (ae (0≤v0∧v0<(↑keys.length:Int))<|af (decide<|(keys.getD v0.toNat cD).at_<0) (jU<|gE a b keys<|IntKind.i64.wrap<|v0+1)<|ae (0≤v0∧v0<(↑keys.length:Int))<|af (decide<|(keys.getD v0.toNat cD).at_≥(↑a.length:Int)) (jU<|gE a b keys<|IntKind.i64.wrap<|v0+1)<|ae (0≤v0∧v0<(↑keys.length:Int))<|af (decide<|(keys.getD v0.toNat cD).at_≥(↑b.length:Int)) (jU<|gE a b keys<|IntKind.i64.wrap<|v0+1)<|ae (0≤v0∧v0<(↑keys.length:Int))<|ae ((0:Int)≤(keys.getD v0.toNat cD).at_∧(keys.getD v0.toNat cD).at_<(↑a.length:Int))<|ae (0≤v0∧v0<(↑keys.length:Int))<|ae ((0:Int)≤(keys.getD v0.toNat cD).at_∧(keys.getD v0.toNat cD).at_<(↑b.length:Int))<|ae (0≤v0∧v0<(↑keys.length:Int))<|af ((keys.getD v0.toNat cD).down) (af (IntKind.i64.wrap ((0:Int)- cO (a.getD (keys.getD v0.toNat cD).at_.toNat z7) (b.getD (keys.getD v0.toNat cD).at_.toNat z7)) !=0) (some (.ret,(J2 a b keys v0<|decide<|IntKind.i64.wrap ((0:Int)- cO (a.getD (keys.getD v0.toNat cD).at_.toNat z7) (b.getD (keys.getD v0.toNat cD).at_.toNat z7))<0)))<|jU<|gE a b keys<|IntKind.i64.wrap<|v0+1)<|af (cO (a.getD (keys.getD v0.toNat cD).at_.toNat z7) (b.getD (keys.getD v0.toNat cD).at_.toNat z7) !=0) (some (.ret,(J2 a b keys v0<|decide<|cO (a.getD (keys.getD v0.toNat cD).at_.toNat z7) (b.getD (keys.getD v0.toNat cD).at_.toNat z7)<0)))<|jU<|gE a b keys<|IntKind.i64.wrap<|v0+1) (some (.exit 0,(gE a b keys v0))):=aF
def azE(a b keys v0 v1):Dd .ret (J2 a b keys v0 v1)=some (ak v1):=ah
def azF(a b keys v0):Dd (.exit 0) (gE a b keys v0)=some (ak<|decide<|dA a b<0):=ah
def F8(a b:List Val)(keys:List By):Bool:=decide<|bT a b keys<0
def azG(a b:List Val)(keys:List By)(_ha:WL .val a)(_hb:WL .val b)(hk:WL .by_ keys)(h:a.length=b.length):aeV a b keys=some (ak<|F8 a b keys):=by
 rw[azD];have key:∀(r:List By)(i:Nat),keys.drop i=r→i≤keys.length→(jU<|gE a b keys (i:Int)).bind (zd Dd)=some (ak<|decide<|bT a b r<0):=by
  intro r
  induction r with
  |nil=>
   intro i hr hi;have hil:keys.length≤i:=by simp_all
   have e:jU (gE a b keys (i:Int))=some (.exit 0,gE a b keys (i:Int)):=by rw[J3,z8,if_neg<|by grind]
   rw[zf e,azF,Qp,Og]
  |cons k r ih=>
   intro i hr hi;obtain⟨a1,a2,a3,_⟩:=d9 hr;have hx:keys.getD i cD=k:=a2 cD;have hb:=aa5 (bR a k.at_)<|bR b k.at_;have next:jU (gE a b keys (i:Int))=jU (gE a b keys ((i+1:Nat):Int))→kc a b k=0→(jU<|gE a b keys (i:Int)).bind (zd Dd)=some (ak<|decide<|bT a b (k::r)<0):=fun e hk=>by
    rw[e,ih (i+1) a3<|by omega,xB,if_pos hk]
   have off:¬(0≤k.at_∧k.at_<(a.length:Int))→kc a b k=0:=fun hn=>by
    have hc:∀x:List Val,x.length=a.length→bR x k.at_=z7:=fun x hx=>by
     unfold bR;split
     ·rw[yf,P8<|by omega];rfl
     ·rfl
    rw[kc_zero,hc a rfl,hc b h.symm]
   by_cases c:0≤k.at_∧k.at_<(a.length:Int)
   ·have na:bR a k.at_=a.getD k.at_.toNat z7:=by simp_all[bR]
    have nb:bR b k.at_=b.getD k.at_.toNat z7:=by simp_all[bR]
    rw[na,nb]at hb;have hkc:=nL a b k;by_cases z:kc a b k=0
    ·refine next ?_ z
     rw[J3];simp only[z8,decide_eq_true_eq,bne_iff_ne,ne_eq,y5,hx,vO,eW a1 hk.len];rw[if_pos<|by omega,z6<|by omega,if_neg<|by omega,z6<|by omega,if_neg<|by omega,z6<|by omega,if_neg<|by omega,z6<|by omega,z6<|by omega,z6<|by omega,z6<|by omega,z6<|by omega,zm<|by omega];grind
    ·have e:∃q,jU (gE a b keys (i:Int))=some (.ret,J2 a b keys (i:Int) q)∧q=decide (kc a b k<0):=by
      rw[J3];simp only[z8,decide_eq_true_eq,bne_iff_ne,ne_eq,y5,hx,vO];rw[if_pos<|by omega,z6<|by omega,if_neg<|by omega,z6<|by omega,if_neg<|by omega,z6<|by omega,if_neg<|by omega,z6<|by omega,z6<|by omega,z6<|by omega,z6<|by omega,z6<|by omega,zm<|by omega];grind
     obtain⟨q,e,hq⟩:=e;rw[zf e,azE,xB,if_neg z,hq]
   ·refine next ?_ (off c)
    rw[J3];simp only[z8,decide_eq_true_eq,y5,hx,eW a1 hk.len]
    all_goals simp_all[if_pos,if_neg,z6]
 exact key keys 0 rfl<|yc _
def aeW:au Un:=dW (dL .val) (dL .val) (dL .by_) fun a b keys=>([a.length=b.length],ak<|F8 a b keys)
def azH:aj 103 aeW:=jl zi zi zi (M:=J1) rfl ⟨GP,GT,trivial⟩ Tryz.func103 fun a b keys=>GiF.r fun w o=>azG a b keys (am w 0) (am w 1) (am w 2)<|aA o 0
def yD:Mc Un:=az [(103,aeW)] [] [] [] []
def rx:Nat→NS:=aO [(3,{ts:=bl 53 99,bs:=bl 53 0,nm:=[(.sl 5,212)],cs:=true}),(6,{ts:=bl 53 227,bs:=bl 53 0,nm:=[(.sl 5,213)],cs:=true})] true
def yE(l:List (List Val))(keys:List By)(v0:Int)(v1:List (List Val)):S Un:=(st 53 53 214 0 [(0,al .row l),(1,al .by_ keys),(5,ao 212),(6,ai v0)] [] [(212,some ⟨(0:Nat),Ty.row,v1,some (0:Nat),true⟩)])
def ry(l:List (List Val))(keys:List By)(v0:Int)(v1:List (List Val))(v2:Int):S Un:=(st 53 53 214 0 [(0,al .row l),(1,al .by_ keys),(5,ao 213),(6,ai v0),(7,ai v2)] [] [(213,some ⟨(0:Nat),Ty.row,v1,some (0:Nat),true⟩)])
def De:S Un→Option (EX Un):=aC yD rx Tryz.f54 [1,1,0,1,2,2] 3
noncomputable def aeX:Code:=sub (sub (zh Tryz.f54) [1,1,0,1,2,2]) [1,0,2,1,0,2,2]
def J4:S Un→Option (EX Un):=bA (rx 6) fun s Q=>aR yD rx aeX s Q
def aeY:Exit→S Un→Option (RF Un):=aE yD rx Tryz.f54 [1,1,0,1,2] [.d]
def aeZ:Exit→S Un→Option (EX Un):=bu yD rx (sub (zh Tryz.f54) [1,1,0,1,2,2]) [1,0,2,1,0,2]<|eV (rx 3) De
def ae0(l:List (List Val))(keys:List By):Option (RF Un):=aw yD rx Tryz.f54 2 [.d] [.d<|.v<|.dat (U:=Un) Ty.row l,.d<|.v<|.dat (U:=Un) Ty.by_ keys]
def azI(l keys):ae0 l keys=(De<|yE l keys (0:Int)<|[]).bind (zd aeY):=ah
def ae1(l keys v0 v1):De (yE l keys v0 v1)=af (decide<|v0<(↑l.length:Int)) ((J4<|ry l keys v0 v1 (0:Int)).bind<|zd aeZ) (some (.exit 0,(yE l keys v0 v1))):=aF
def azJ(l keys v0 v1):aeY (.exit 0) (yE l keys v0 v1)=some (aX v1):=ah
def ae2 l keys v0 v1 v2:J4 (ry l keys v0 v1 v2)=af (decide<|v2<(↑v1.length:Int)) (ae (0≤v0∧v0<(↑l.length:Int))<|ae (0≤v2∧v2<(↑v1.length:Int))<|ae (List.length (l.getD v0.toNat [])=List.length (v1.getD v2.toNat []))<|af (!F8 (l.getD v0.toNat []) (v1.getD v2.toNat []) keys) (J4<|ry l keys v0 v1<|IntKind.i64.wrap<|v2+1)<|some (.exit 2,(ry l keys v0 v1 v2))) (some (.exit 2,(ry l keys v0 v1 v2))):=(fU (rx 6) aeX _).trans<|by kernel_rfl
def azK(l keys v0 v1 v2):aeZ (.exit 2) (ry l keys v0 v1 v2)=ae (0≤v2∧v2≤(↑v1.length:Int)) (ae ((0+(List.take v2.toNat v1).length)*(24:Nat)≤ze)<|ae (0≤v0∧v0<(↑l.length:Int))<|ae (((List.take v2.toNat v1).length+[l.getD v0.toNat []].length)*(24:Nat)≤ze)<|ae (0≤v2∧v2≤(↑v1.length:Int))<|ae (((List.take v2.toNat v1++[l.getD v0.toNat []]).length+(List.drop v2.toNat v1).length)*(24:Nat)≤ze)<|De<|yE l keys (IntKind.i64.wrap<|v0+1)<|List.take v2.toNat v1++[l.getD v0.toNat []]++List.drop v2.toNat v1):=ah
def F9(l:List (List Val)):Prop:=∀x∈l,∀y∈l,x.length=y.length
def PK(l:List (List Val))(keys:List By):List (List Val):=jK l keys
def pG(keys:List By)(x:List Val)(o:List (List Val)):List (List Val):=o.take (o.takeWhile fun y=>decide<|¬bT x y keys<0).length++[x]++o.drop (o.takeWhile fun y=>decide<|¬bT x y keys<0).length
def azL keys x o:(pG keys x o).length=o.length+1:=by
 grind[pG,List.length_append,List.length_take,List.length_drop,List.length_singleton]
def azM keys x o:(pG keys x o).Perm (x::o):=by
 unfold pG;rw[yw];refine y3t.trans ?_;simp
theorem azN keys x o:pG keys x o=dt (dr fun a b=>bT a b keys) o x:=by
 unfold pG dt dr;grind[decide,bT,List.takeWhile_append_dropWhile,List.take_left,List.drop_left,List.append_assoc]
def azO(l:List (List Val))(keys:List By)(hl:WL .row l)(_hk:WL .by_ keys)(h:l.length≤10000000)(h2:F9 l):ae0 l keys=some (aX (PK l keys)):=by
 rw[azI]
 have inner:∀(x:List Val)(i:Nat)(o:List (List Val)),l.getD i []=x→i<l.length→(∀y∈o,y∈l)→o.length≤i→∀(r:List (List Val))(j:Nat),o.drop j=r→j≤o.length→
  (J4 (ry l keys (i:Int) o (j:Int)))=some (.exit 2,ry l keys (i:Int) o ((j+(r.takeWhile fun y=>decide (¬bT x y keys<0)).length:Nat):Int)):=by
  intro x i o hx hi ho hol r;have hxl:x∈l:=by grind
  induction r with
  |nil=>
   intro j hr hj;have hjl:o.length≤j:=by grind[List.drop_eq_nil_iff]
   rw[ae2,z8,if_neg (by grind)];rfl
  |cons y r ih=>
   intro j hr hj;obtain⟨a1,a2,a3,hm⟩:=d9 hr;have hy:o.getD j []=y:=a2 [];have hyl:=ho y hm;rw[ae2,z8,if_pos (by grind),z6 (by omega),z6 (by omega),y5,y5,hx,hy,z6 (h2 x hxl y hyl),z8];unfold F8;by_cases c:bT x y keys<0
   ·rw[if_neg (by grind),vw,if_neg (by grind)];rfl
   ·rw[if_pos (by grind),vw,if_pos (by grind),zm (by omega)];have:=ih (j+1) a3 (by omega);grind
 have hl2:=hl.len
 obtain⟨lp,hI⟩:=zy (e:=.exit 0) (L:=De) (st:=fun(o:List (List Val)) i=>yE l keys i o) (l:=l) (d:=[]) (g:=fun o x=>pG keys x o) (fun i o=>o.length≤i∧(∀y∈o,y∈l)) hl2
  (fun o i x hi hx hI=>by
   obtain⟨i1,i2⟩:=hI
   refine⟨⟨by rw[azL];omega,fun y hy=>by
    rcases(azM keys x o).mem_iff.1 hy with hy
    grind⟩,?_⟩
   have hin:=inner x i o hx (by omega) i2 i1 o 0 rfl (yc _);have htl:=(P7 (fun y=>decide (¬bT x y keys<0)) (l:=o)).length_le;rw[ae1,z8,if_pos (by grind)];refine(zf hin).trans ?_;rw[azK,iE,y5,y5,hx,z6 (by omega),z6 (by grind[ze,List.length_take]),z6 (by omega),z6 (by unfold ze;grind),z6 (by omega),z6 (by unfold ze;grind)]
   rfl)
  (fun o _=>by rw[ae1];simp[z8]) [] ⟨yc _,by simp⟩
 refine(zf lp).trans ?_;rw[azJ];have e:l.foldl (fun o x=>pG keys x o) []=jK l keys:=by simp[jK,bt,congrArg,funext,azN]
 rw[e];rfl
def ae3:au Un:=aD (dL .row) (dL .by_) fun l keys=>([l.length≤10000000,F9 l],aX<|PK l keys)
def azP:aj 54 ae3:=aJ zi zi (M:=yD) rfl ⟨azH,trivial⟩ Tryz.func54 fun l keys=>GiF.r fun w o=>azO l keys (am w 0) (am w 1) (aA o 0)<|aA o 1
def PL:Nat→NS:=aO [(3,{ts:=bl 37 391,bs:=bl 37 0,nm:=[(.sl 7,148)],cs:=true})] true
def pm(l:List (List Val))(limit:Int)(skip:Int)(v0:Int)(v1:List (List Val)):S Un:=(st 37 37 149 0 [(0,al .row l),(1,ai limit),(2,ai skip),(7,ao 148),(8,ai v0)] [] [(148,some ⟨(0:Nat),Ty.row,v1,some (0:Nat),true⟩)])
def yF:S Un→Option (EX Un):=aC av PL Tryz.f55 [1,1,0,1,2,2] 3
def ae4:Exit→S Un→Option (RF Un):=aE av PL Tryz.f55 [1,1,0,1,2] [.d]
def ae5(l:List (List Val))(limit:Int)(skip:Int):Option (RF Un):=aw av PL Tryz.f55 1 [.d] [.d<|.v<|.dat (U:=Un) Ty.row l,.d<|.v<|.s<|.int .i64 limit,.d<|.v<|.s<|.int .i64 skip]
def azQ(l limit skip):ae5 l limit skip=(yF<|pm l limit skip (0:Int)<|[]).bind (zd ae4):=ah
def PM(l:List (List Val))(limit:Int)(skip:Int)(v0:Int)(v1:List (List Val)):Option (EX Un):=ae (0≤v0∧v0<(↑l.length:Int))<|ae ((v1.length+[l.getD v0.toNat []].length)*(24:Nat)≤ze)<|yF<|pm l limit skip (IntKind.i64.wrap<|v0+1)<|v1++[l.getD v0.toNat []]
def ae6(l limit skip v0 v1):yF (pm l limit skip v0 v1)=af (decide<|v0<(↑l.length:Int)) (af (decide<|v0≥skip) (af (decide<|limit<0) (PM l limit skip v0 v1)<|af (decide<|(↑v1.length:Int)<limit) (PM l limit skip v0 v1)<|yF<|pm l limit skip (IntKind.i64.wrap<|v0+1) v1)<|yF<|pm l limit skip (IntKind.i64.wrap<|v0+1) v1) (some (.exit 0,(pm l limit skip v0 v1))):=aF
def azR(l limit skip v0 v1):ae4 (.exit 0) (pm l limit skip v0 v1)=some (aX v1):=ah
def PN(l:List (List Val))(limit skip:Int):List (List Val):=im l limit skip
def jp(limit skip:Int)(q:List (List Val)):List (List Val):=if limit<0 then q.drop skip.toNat else(q.drop skip.toNat).take limit.toNat
def azS limit skip q x:jp limit skip (q++[x])=if(q.length:Int)≥skip∧(limit<0∨((jp limit skip q).length:Int)<limit)then jp limit skip q++[x]else jp limit skip q:=by
 unfold jp;by_cases s:(q.length:Int)≥skip
 ·rw[List.drop_append_of_le_length<|by omega];by_cases c:limit<0
  ·grind
  ·rw[if_neg c,if_neg c,List.take_append,yn];by_cases d:(q.drop skip.toNat).length<limit.toNat
   ·rw[if_pos ⟨s,.inr<|by omega⟩,vm (l:=[x])<|by grind]
   ·rw[if_neg fun e=>e.2.elim c<|by omega,show limit.toNat- (q.drop skip.toNat).length=0 by omega,List.take_zero,de]
 ·rw[if_neg (c:=_∧_) fun e=>s e.1,fA<|by grind,fA<|by omega]
def azT limit skip q:jp limit skip q=im q limit skip:=by
 have e:q.drop (min skip (q.length:Int)).toNat=q.drop skip.toNat:=by
  grind[Int.le_total,min,List.drop_length,List.drop_of_length_le]
 unfold jp im;rw[e];by_cases c:limit<0
 ·grind
 simp_all[if_neg,if_pos,vm]
def azU(l:List (List Val)) limit skip(hl:WL .row l)(_h1:WI limit)(_h2:WI skip)(h:l.length≤100000000):ae5 l limit skip=some (aX (PN l limit skip)):=by
 have key:∀(k i:Nat),i+k=l.length→yF (pm l limit skip (i:Int) (jp limit skip (l.take i)))=some (.exit 0,pm l limit skip (l.length:Int) (jp limit skip l)):=by
  intro k
  induction k with
  |zero=>
   intro i hi;rw[ae6,z8,if_neg (by grind),show i=l.length by omega,vp]
  |succ k ih=>
   intro i hi;have hx:l.take (i+1)=l.take i++[l.getD i []]:=by
    rw[yf,ya (show i<l.length by omega),Gm,ya (show i<l.length by omega)];rfl
   have hs:=azS limit skip (l.take i) (l.getD i []);have hlen:(jp limit skip (l.take i)).length≤100000000:=by
    unfold jp;split
    ·rw[yt,yn];omega
    ·rw[yn,yt,yn];omega
   rw[←hx,yn,show min i l.length=i by omega]at hs;rw[ae6];unfold PM;simp only[z8,decide_eq_true_eq,y5];rw[if_pos (by omega),z6 (by omega),z6 (by grind[ze,List.length_singleton]),show IntKind.i64.wrap ((i:Int)+1)=((i+1:Nat):Int) by rw[zm (by omega)];rfl];grind
 have lp:=key l.length 0 (by omega);have e0:jp limit skip (l.take 0)=[]:=by simp[jp]
 rw[e0]at lp;rw[azQ];refine(zf lp).trans ?_;rw[azR,azT];rfl
def ae7:au Un:=dW (dL .row) (dI .i64) (dI .i64) fun l limit skip=>([l.length≤100000000],aX<|PN l limit skip)
def azV:aj 55 ae7:=jl zi zn zn (M:=av) rfl trivial Tryz.func55 fun l limit skip=>GiF.r fun w o=>azU l limit skip (am w 0) (am w 1) (am w 2)<|aA o 0
def ae8(op:Int):Option (RF Un):=aw av aV Tryz.f46 0 [.d] [.d<|.v<|.s<|.int .i64 op]
theorem azW(op):ae8 op=af (op==1) (some<|ay<|(0:Int)) (af (op==2) (some<|ay<|(0:Int))<|af (op==5) (some<|ay<|(2:Int))<|af (op==6) (some<|ay<|(2:Int))<|af (op==9) (some<|ay<|(2:Int))<|af (op==10) (some<|ay<|(2:Int))<|af (op==11) (some<|ay<|(2:Int))<|some<|ay<|(1:Int)):=ah
def yG(op:Int):Int:=
 if(op==(1:Int))=true then
  ((0:Int))
 else
  if(op==(2:Int))=true then
   ((0:Int))
  else
   if(op==(5:Int))=true then
    ((2:Int))
   else
    if(op==(6:Int))=true then
     ((2:Int))
    else
     if(op==(9:Int))=true then
      ((2:Int))
     else
      if(op==(10:Int))=true then
       ((2:Int))
      else
       if(op==(11:Int))=true then
        ((2:Int))
       else
        ((1:Int))
def azX op:ae8 op=some (ay<|yG op):=by grind[azW,yG,z8]
def ae9:au Un:=aQ (dI .i64) fun op=>([],ay<|yG op)
def azY:aj 46 ae9:=aU zn (M:=av) rfl trivial Tryz.func46 fun op=>GiF.r fun _ _=>azX op
end
end B
namespace B
open Go Go.RowKit
noncomputable section
def gT(t:Term)(env:Rows)(db:List Data):Prop:=DbG db∧∃e,GoT db t e ⟨env,db⟩
def gR(r:Rel)(env:Rows)(db:List Data):Prop:=DbG db∧∃e,GoR db r e ⟨env,db⟩
def gSo(l:List Term)(x:List Val)(env:Rows)(db:List Data):Prop:=env.length≤100000000∧l.length≤1∧∀t∈l,gT t (x::env) db
def J5(l:List Term)(x:List Val)(right env:Rows)(db:List Data):Prop:=x.length≤10000000∧right.length≤10000000∧∀b∈right,b.length≤10000000∧gSo l (x++b) env db
def gTs(l:List Term)(x:List Val)(env:Rows)(db:List Data):Prop:=env.length≤100000000∧l.length≤10000000∧∀t∈l,gT t (x::env) db
def gAg(a:Agg)(l env:Rows)(db:List Data):Prop:=env.length≤100000000∧l.length≤100000∧∀x∈l,∀t∈a.t,gT t (x::env) db
def Ru(r:Rel)(l env:Rows)(db:List Data):Prop:=gR r env db∧r.op=7∧bc r.kids 0 ⟨env,db⟩=some l
def J6(r:Rel)(left:Bool)(env:Rows)(db:List Data):Prop:=gR r env db∧(r.op=5∧left=false∨r.op=6∧left=true)
def ji(t:Term)(env:Rows)(db:List Data):Rows:=jL ⟨env,db⟩ t
def eP(t:Term)(env:Rows)(db:List Data):Val:=kL ⟨env,db⟩ t
def lY(l:List Term)(x:List Val)(env:Rows)(db:List Data):Bool:=kM ⟨env,db⟩ l x
def nr(terms:List Term)(l:List Val)(right env:Rows)(db:List Data):Rows:=(right.map (l++·)).filter fun x=>kM ⟨env,db⟩ terms x
def pn(r:Rel)(_left:Bool)(env:Rows)(db:List Data):Rows:=lQ ⟨env,db⟩ r
def eo(l:List Term)(x:List Val)(env:Rows)(db:List Data):List Val:=ja ⟨x::env,db⟩ l
def kP(a:Agg)(l env:Rows)(db:List Data):Val:=(nA a ⟨env,db⟩ l).getD z7
def rz(r:Rel)(_l env:Rows)(db:List Data):Rows:=m8 ⟨env,db⟩ r
def jV(r:Rel)(env:Rows)(db:List Data):Rows:=lP ⟨env,db⟩ r
section
variable {db:List Data} {t:Term} {r:Rel} {env:Rows}
theorem gT.ex(h:gT t env db):∃v,nT t ⟨env,db⟩=some v∧ba v:=let⟨G,_,h⟩:=h;atZ G h
theorem gR.ex(h:gR r env db):∃l,nR r ⟨env,db⟩=some l∧Fine db r l:=let⟨G,_,h⟩:=h;abp G h
def gR.kid(h:gR r env db)(hop:r.op≠1){i}(hi:i<r.kids.length):gR (r.kids.getD i za) env db∧∃l,nR (r.kids.getD i za) ⟨env,db⟩=some l∧bc r.kids i ⟨env,db⟩=some l∧Fine db (r.kids.getD i za) l:=by
 obtain⟨G,e,h⟩:=h;have hk:gR (r.kids.getD i za) env db:=⟨G,e,h.kid G hop<|cG hi⟩;obtain⟨l,h1,h2⟩:=hk.ex;simp_all[AF,if_pos]
def gR.deep(h:gR r env db):env.length≤8000000∧r.terms.length≤2000000∧r.aggs.length≤2000000:=by
 obtain⟨G,e,h⟩:=h;have:=h.deep;have:=fG r.terms;have:=D6 r.aggs;have:=r.sz_eq;have:=h.sz;grind
def gR.few{l}(h:gR r env db)(hl:nR r ⟨env,db⟩=some l):l.length≤20000∨l.length≤1048576:=by
 obtain⟨G,e,h⟩:=h;obtain⟨l',h1,h2⟩:=abp G h;rw[hl]at h1;obtain rfl:=yg h1;have:=h2.few;have:=(fo G.rows h.sz).1.2;omega
def gR.pos(h:gR r env db)(hop:r.op=3∨r.op=4∨r.op=5∨r.op=6∨r.op=7){l}(hk:bc r.kids 0 ⟨env,db⟩=some l){x}(hx:x∈l):1≤(bK db r).1:=by
 obtain⟨⟨G,e,g⟩,hp⟩:=And.intro h (PY hx);obtain⟨⟨hn,_⟩,_⟩:=fI g.v;have hk0:0<r.kids.length:=by
  rcases hop with c|c|c|c|c<;>rw[c]at hn
  ·have:bD 3=1:=rfl;omega
  ·have:bD 4=1:=rfl;omega
  ·have:bD 5=2:=rfl;omega
  ·have:bD 6=2:=rfl;omega
  ·have:bD 7=1:=rfl;omega
 obtain⟨_,l',_,h2,h3⟩:=h.kid (by omega) hk0;rw[hk]at h2;obtain rfl:=yg h2;have f0:=h3.few;by_cases c:r.op=5∨r.op=6
 ·rw[Bx c]at hn;have m0:r.kids.getD 0 za∈r.kids:=cG (by omega);have m1:r.kids.getD 1 za∈r.kids:=cG (by omega);have w0:=(fo G.rows (show(r.kids.getD 0 za).sz≤2000000 by have:=hU m0;have:=g.sz;omega)).1;have w1:=(fo G.rows (show(r.kids.getD 1 za).sz≤2000000 by have:=hU m1;have:=g.sz;omega)).1;obtain⟨W0,e0⟩:=Bd w0.1;obtain⟨W1,e1⟩:=Bd w1.1;have hmx:dh (W1:Int) 1=((max W1 1:Nat):Int):=by grind[qB]
  have hp:=Ao (a:=(W0:Int)) (b:=((max W1 1:Nat):Int)) (by omega) (by omega) (by omega) (by omega);have:=ld (show 1≤W0 by omega) (show 1≤max W1 1 by omega);unfold bK kw;rw[if_neg (by omega),if_neg (by grind),if_neg (by grind),if_pos c,td db r 0 (by omega),td db r 1 (by omega),e0,e1,hmx,zm (by omega),←Int.natCast_mul];omega
 ·have hk1:r.kids.length=1:=by
   rcases hop with c'|c'|c'|c'|c'<;>rw[c']at hn
   ·have:bD 3=1:=rfl;omega
   ·have:bD 4=1:=rfl;omega
   ·omega
   ·omega
   ·have:bD 7=1:=rfl;omega
  grind[va]
def gR.term(h:gR r env db)(hop:r.op=3∨r.op=4∨r.op=5∨r.op=6∨r.op=7){l}(hk:bc r.kids 0 ⟨env,db⟩=some l){y}(hy:y∈l)(ht:t∈cw r){x}(hx:∀v∈x,ba v):gT t (x::env) db:=by
 have hp:=h.pos hop hk hy;obtain⟨G,e,h⟩:=h;exact⟨G,_,h.term G (by omega) hp ht hx⟩
end
section
open Classical in
def lc(k:List Val→List Val)(l:Rows)(heads:Rows):List Bunch:=heads.map fun h=>⟨h,l.filter fun y=>decide<|k y=h⟩
def azZ(l:Rows)(x:List Val):bV (l++[x])=if zj (bV l) x<0 then bV l++[x]else bV l:=by
 unfold bV;rw[nP];rfl
open Classical in
def az0(k:List Val→List Val)(l:Rows)(x:List Val):dE (lc k l<|bV<|l.map k) (k x) x=lc k (l++[x]) (bV<|(l++[x]).map k):=by
 have hnd:=ay2<|l.map k;have hmem:∀z,z∈bV (l.map k)↔z∈l.map k:=fun z=>by
  have:=aeu (l.map k) [] z;simp only[pH,false_or]at this;exact this
 rw[Gn,List.map_singleton,azZ];generalize hH:bV (l.map k)=H at*;have hfi:(lc k l H).findIdx? (fun b=>dA b.key (k x)==0)=H.findIdx? fun y=>fP y (k x):=by unfold lc;rw[List.findIdx?_map];rfl
 have hp:∀y,fP y (k x)=true↔y=k x:=fun y=>by
  show(cC y (k x)==0)=true↔y=k x;rw[beq_iff_eq,ordR_zero]
 have hrow:∀h,h≠k x→((l++[x]).filter fun y=>decide<|k y=h)=l.filter fun y=>decide (k y=h):=fun h hn=>by
  grind
 unfold dE zj;rw[hfi];cases hf:H.findIdx? (fun y=>fP y<|k x)with
 |none=>
  have hn:k x ∉H:=fun hx=>by
   grind
  unfold lc;simp_all
 |some i=>
  obtain⟨hi,h1,_⟩:=y27.1 hf;have e:H[i]=k x:=(hp _).1 h1;dsimp only;rw[if_neg<|by omega];have hg:(lc k l H).getD i zu=⟨k x,l.filter fun y=>decide<|k y=k x⟩:=by
   unfold lc;grind
  have hget:∀(m:Rows)(j:Nat),(lc k m H)[j]?=H[j]?.map fun h=>⟨h,m.filter fun y=>decide<|k y=h⟩:=fun m j=>dn;refine P4 fun j=>?_;rw[j9,hget,hget];by_cases c:i=j
  ·grind
  ·rw[if_neg c];cases hj:H[j]? with
   |none=>rfl
   |some h=>
    obtain⟨hj1,rfl⟩:=ym.1 hj;rw[iD,iD,hrow];rw[←e];rcases Nat.lt_or_gt_of_ne c with c|c
    ·exact fun q=>y3i.1 hnd i j hi hj1 c q.symm
    ·exact fun q=>y3i.1 hnd j i hj1 hi c q
def az1 k l:l.foldl (fun o x=>dE o (k x) x) []=lc k l (bV<|l.map k):=by
 have key:∀(r p:Rows),r.foldl (fun o x=>dE o (k x) x) (lc k p<|bV<|p.map k)=lc k (p++r) (bV<|(p++r).map k):=by
  intro r
  induction r with
  |nil=>simp
  |cons x r ih=>intro p;rw[yq,az0,ih,yw];rfl
 exact key l []
def afa{f}{k:List Val→List Val}:∀(l:Rows)(out:List Bunch),(∀x∈l,f x=some (k x))→eZ f l out=some (l.foldl (fun o x=>dE o (k x) x) out)
 |[],_,_=>rfl
 |x::l,out,h=>by simp only[eZ,h x cP,yj,yq];exact afa l _ fun z hz=>h z<|cV _ hz
theorem uc{α β f}{g:α→β}:∀(l:List α),(∀x∈l,f x=some (g x))→dm f l=some (l.map g)
 |[],_=>rfl
 |x::l,h=>by simp only[dm,h x cP,yj,uc l fun z hz=>h z<|cV _ hz,cL]
theorem AZ r:Rel.mk r.op r.table r.cols r.kids r.terms r.aggs r.keys r.limit r.skip r.all r.rows=r:=Rel.ids_eq r
theorem gT.is{t env db}(h:gT t env db):nT t ⟨env,db⟩=some (eP t env db):=by
 obtain⟨v,hv,_⟩:=h.ex;rw[hv];exact congrArg some (qU hv).symm
theorem gTs.is{l x env db}(h:gTs l x env db):b8 l ⟨x::env,db⟩=some (l.map fun t=>eP t (x::env) db):=by
 rw[ss];exact uc l fun t ht=>(h.2.2 t ht).is
def gTs.eq{l x env db}(h:gTs l x env db):eo l x env db=l.map fun t=>eP t (x::env) db:=CR h.is
theorem gSo.is{l x env db}(h:gSo l x env db):cF l ⟨x::env,db⟩=some (lY l x env db):=by
 obtain⟨b,hb⟩:∃b,cF l ⟨x::env,db⟩=some b:=FI l fun t ht=>(h.2.2 t ht).ex;rw[hb];exact congrArg some (xM (w:=⟨env,db⟩) hb).symm
def vk(a:Agg)(env:Rows)(db:List Data)(x:List Val):Val:=if a.t.length=0 then z7 else eP (a.t.getD 0 zb) (x::env) db
theorem gAg.is{a l env db}(h:gAg a l env db):nA a ⟨env,db⟩ l=some (gx a<|l.map<|vk a env db):=by
 obtain⟨h1,h2,h3⟩:=h
 rw[Oj,if_pos (by omega),uc (g:=vk a env db) l fun x hx=>by
  rw[sr];unfold vk;by_cases c:a.t.length=0
  ·grind
  ·rw[if_neg c,if_neg c];exact(h3 x hx _ (cG (by omega))).is]
 grind
def gAg.eq{a l env db}(h:gAg a l env db):kP a l env db=gx a (l.map<|vk a env db):=by unfold kP;rw[h.is];rfl
def afb:∀{l:List Agg}{a:Agg}{t:Term},a∈l→t∈a.t→t∈ei l
 |y::l,a,t,h,ht=>by
  rw[ei];rcases yh.1 h with rfl|h
  ·grind
  ·exact gL _<|afb h ht
def gR.le{r env db}(h:gR r env db)(hop:r.op=7){l}(hk:bc r.kids 0 ⟨env,db⟩=some l):l.length≤20000:=by
 obtain⟨G,e,g⟩:=h;have hn:=(fI g.v).1.1;have e7:bD 7=1:=rfl;rw[hop,e7]at hn;obtain⟨_,l',_,h2,h3⟩:=gR.kid ⟨G,e,g⟩ (show r.op≠1 by omega) (show 0<r.kids.length by omega);have f0:=h3.few;have hio:=va (db:=db) (show r.op≠1 by omega) (show r.kids.length=1 by omega);have:=(EM G.rows g.sz g.wgh).2.2.1;grind
def Rel.ht_aggT{r:Rel}{a}(h:a∈r.aggs):aY a.t<r.ht:=by
 have:=Rel.ht_agg h;cases a;grind[Agg.t_mk,Agg.ht]
def gR.kids{r env db}(h:gR r env db):(r.kids.length:Int)=bD r.op∧0≤bD r.op:=by
 obtain⟨G,e,g⟩:=h;exact(fI g.v).1
def gR.narrow{r env db}(h:gR r env db):0≤bQ r∧bQ r≤2000000∧(r.cols.length:Int)=bQ r:=by
 obtain⟨G,e,g⟩:=h;have:=(fI g.v).2.2.1;have:=lx r;have:=g.cl;omega
def gR.one{r env db}(h:gR r env db)(hop:r.op=3∨r.op=5∨r.op=6):r.terms.length≤1:=by
 obtain⟨G,e,g⟩:=h;have hr:=(fI g.v).2.2.2.2.2;unfold jC at hr;grind
theorem Df{α:Type} p:∀(l o:List α),l.foldl (fun o x=>if p x=true then o++[x]else o) o=o++l.filter p
 |[],o=>by simp
 |x::l,o=>by
  rw[yq,Df p l,List.filter_cons];grind
def afc{α f} g:∀{l s:List α},gA f l=some s→(∀x∈l,∀b,f x=some b→g x=b)→l.filter g=s
 |l,s,h,hg=>by
  have:=Ot g [] h hg;simp_all[Df,yr]
def afd:∀(l:Rows)(b:Bunch),b.key=[]→l.foldl (fun o x=>dE o [] x) [b]=[⟨[],b.rows++l⟩]
 |[],b,hb=>by rw[Bc,de,←hb]
 |x::l,b,hb=>by
  have e:dE [b] [] x=[⟨[],b.rows++[x]⟩]:=by
   unfold dE;have:[b].findIdx? (fun b=>dA b.key []==0)=some 0:=by rw[nQ,if_pos (by rw[hb];rfl)]
   grind
  rw[yq,e,afd l ⟨[],b.rows++[x]⟩ rfl,yw];rfl
def A0(r:Rel)(l env:Rows)(db:List Data):Rows:=if r.terms.length=0 then[[]]else bV (l.map fun x=>eo r.terms x env db)
open Classical in
def iy(r:Rel)(l env:Rows)(db:List Data)(h:List Val):Rows:=l.filter fun x=>decide<|eo r.terms x env db=h
def A3(r:Rel)(l env:Rows)(db:List Data)(h:List Val):List Val:=h++r.aggs.map fun a=>kP a (iy r l env db h) env db
def az2{r}{l env:Rows}{db}(hE:env.length≤100000000)(ht:r.terms.length≤100000000)(ha:r.aggs.length≤100000000)(hl:l.length≤100000000)(hk:bc r.kids 0 ⟨env,db⟩=some l)(h1:∀x∈l,gTs r.terms x env db)(h2:∀h,∀a∈r.aggs,gAg a (iy r l env db h) env db):
 su ⟨env,db⟩ r=some ((A0 r l env db).map<|A3 r l env db):=by
 have hb:j6 (fun w=>b8 r.terms w) r.terms.length ⟨env,db⟩ l=some ((A0 r l env db).map fun h=>⟨h,iy r l env db h⟩):=by
  unfold j6;rw[if_pos ⟨hE,ht,hl⟩,afa (k:=fun x=>eo r.terms x env db) l _ fun x hx=>by rw[(h1 x hx).eq];exact(h1 x hx).is];unfold A0;by_cases c:r.terms.length=0
  ·rw[if_pos c,if_pos c];have hK:∀x,eo r.terms x env db=[]:=fun x=>by simp_all[eo,ja,b8]
   unfold iy;simp only[hK,cL,jr];rw[afd l ⟨[],[]⟩ rfl,y4v.2 fun x _=>by simp];rfl
  ·rw[if_neg c,if_neg c,az1];rfl
 unfold su sn;rw[if_pos ha];dsimp only
 rw[hk,yj,hb,yj,uc (g:=fun b:Bunch=>b.key++r.aggs.map fun a=>kP a b.rows env db) _ fun b hb=>by
  obtain⟨h,_,rfl⟩:=y2a.1 hb;rw[FA,uc (g:=fun a=>kP a (iy r l env db h) env db) r.aggs fun a ha=>by rw[(h2 h a ha).is,(h2 h a ha).eq]]
  rfl,List.map_map]
 rfl
end
end
end B
end Go.Proofs.YtjfpbchdcbhfgaaGreat
