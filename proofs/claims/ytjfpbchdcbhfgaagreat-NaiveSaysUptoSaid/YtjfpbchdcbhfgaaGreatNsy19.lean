/- Part 19 of the proof: Slaw20a Sr03v Sr01 Sr02 Sr04 Lr17. -/
import Derived.Test.YtjfpbchdcbhfgaaGreatNsy18
set_option linter.unusedVariables false
set_option linter.unusedSimpArgs false
set_option linter.defProp false
namespace Go.Proofs.YtjfpbchdcbhfgaaGreat
namespace B
open Go Go.RowKit
set_option maxRecDepth 100000
noncomputable section
attribute [local irreducible] aB bk zw br aK b9 aR bu bA
def acC:Mc Un:=az [(32,vJ),(14,Jz)] [] [] [] []
def OX:Option (RF Un):=aw acC aV Tryz.f12 0 [.d] []
def awz:OX=ae (ix {env:=[],db:=[{table:=⟨#[116]⟩,rows:=[[(zk (1:Int))],[(zk (2:Int))],[z7]]}]} (Rel.mk (3:Int) ⟨#[]⟩ [{table:=⟨#[]⟩,name:=⟨#[97]⟩,type:=(2:Int)}] [(Rel.mk (1:Int) ⟨#[116]⟩ [{table:=⟨#[]⟩,name:=⟨#[97]⟩,type:=(2:Int)}] [] [] [] [] (0:Int) (0:Int) false [])] [(Term.mk (13:Int) z7 (0:Int) (0:Int) ⟨#[]⟩ [(Term.mk (2:Int) z7 (0:Int) (0:Int) ⟨#[]⟩ [] [] (2:Int)),(Term.mk (1:Int) (zk (2:Int)) (0:Int) (0:Int) ⟨#[]⟩ [] [] (2:Int))] [] (1:Int))] [] [] (0:Int) (0:Int) false [])) (af ((↑(je (Rel.mk (3:Int) ⟨#[]⟩ [{table:=⟨#[]⟩,name:=⟨#[97]⟩,type:=(2:Int)}] [(Rel.mk (1:Int) ⟨#[116]⟩ [{table:=⟨#[]⟩,name:=⟨#[97]⟩,type:=(2:Int)}] [] [] [] [] (0:Int) (0:Int) false [])] [(Term.mk (13:Int) z7 (0:Int) (0:Int) ⟨#[]⟩ [(Term.mk (2:Int) z7 (0:Int) (0:Int) ⟨#[]⟩ [] [] (2:Int)),(Term.mk (1:Int) (zk (2:Int)) (0:Int) (0:Int) ⟨#[]⟩ [] [] (2:Int))] [] (1:Int))] [] [] (0:Int) (0:Int) false []) [{table:=⟨#[116]⟩,rows:=[[(zk (1:Int))],[(zk (2:Int))],[z7]]}]).length:Int)==(1:Int)) (ae ((0:Int)≤(0:Int)∧(0:Int)<(↑(je (Rel.mk (3:Int) ⟨#[]⟩ [{table:=⟨#[]⟩,name:=⟨#[97]⟩,type:=(2:Int)}] [(Rel.mk (1:Int) ⟨#[116]⟩ [{table:=⟨#[]⟩,name:=⟨#[97]⟩,type:=(2:Int)}] [] [] [] [] (0:Int) (0:Int) false [])] [(Term.mk (13:Int) z7 (0:Int) (0:Int) ⟨#[]⟩ [(Term.mk (2:Int) z7 (0:Int) (0:Int) ⟨#[]⟩ [] [] (2:Int)),(Term.mk (1:Int) (zk (2:Int)) (0:Int) (0:Int) ⟨#[]⟩ [] [] (2:Int))] [] (1:Int))] [] [] (0:Int) (0:Int) false []) [{table:=⟨#[116]⟩,rows:=[[(zk (1:Int))],[(zk (2:Int))],[z7]]}]).length:Int))<|af ((↑(List.length<|(je (Rel.mk (3:Int) ⟨#[]⟩ [{table:=⟨#[]⟩,name:=⟨#[97]⟩,type:=(2:Int)}] [(Rel.mk (1:Int) ⟨#[116]⟩ [{table:=⟨#[]⟩,name:=⟨#[97]⟩,type:=(2:Int)}] [] [] [] [] (0:Int) (0:Int) false [])] [(Term.mk (13:Int) z7 (0:Int) (0:Int) ⟨#[]⟩ [(Term.mk (2:Int) z7 (0:Int) (0:Int) ⟨#[]⟩ [] [] (2:Int)),(Term.mk (1:Int) (zk (2:Int)) (0:Int) (0:Int) ⟨#[]⟩ [] [] (2:Int))] [] (1:Int))] [] [] (0:Int) (0:Int) false []) [{table:=⟨#[116]⟩,rows:=[[(zk (1:Int))],[(zk (2:Int))],[z7]]}]).getD 0 []):Int)==(1:Int)) (ae ((0:Int)≤(0:Int)∧(0:Int)<(↑(je (Rel.mk (3:Int) ⟨#[]⟩ [{table:=⟨#[]⟩,name:=⟨#[97]⟩,type:=(2:Int)}] [(Rel.mk (1:Int) ⟨#[116]⟩ [{table:=⟨#[]⟩,name:=⟨#[97]⟩,type:=(2:Int)}] [] [] [] [] (0:Int) (0:Int) false [])] [(Term.mk (13:Int) z7 (0:Int) (0:Int) ⟨#[]⟩ [(Term.mk (2:Int) z7 (0:Int) (0:Int) ⟨#[]⟩ [] [] (2:Int)),(Term.mk (1:Int) (zk (2:Int)) (0:Int) (0:Int) ⟨#[]⟩ [] [] (2:Int))] [] (1:Int))] [] [] (0:Int) (0:Int) false []) [{table:=⟨#[116]⟩,rows:=[[(zk (1:Int))],[(zk (2:Int))],[z7]]}]).length:Int))<|ae ((0:Int)≤(0:Int)∧(0:Int)<(↑(List.length<|(je (Rel.mk (3:Int) ⟨#[]⟩ [{table:=⟨#[]⟩,name:=⟨#[97]⟩,type:=(2:Int)}] [(Rel.mk (1:Int) ⟨#[116]⟩ [{table:=⟨#[]⟩,name:=⟨#[97]⟩,type:=(2:Int)}] [] [] [] [] (0:Int) (0:Int) false [])] [(Term.mk (13:Int) z7 (0:Int) (0:Int) ⟨#[]⟩ [(Term.mk (2:Int) z7 (0:Int) (0:Int) ⟨#[]⟩ [] [] (2:Int)),(Term.mk (1:Int) (zk (2:Int)) (0:Int) (0:Int) ⟨#[]⟩ [] [] (2:Int))] [] (1:Int))] [] [] (0:Int) (0:Int) false []) [{table:=⟨#[116]⟩,rows:=[[(zk (1:Int))],[(zk (2:Int))],[z7]]}]).getD 0 []):Int))<|some<|ak<|nw [EK.int IntKind.i64,EK.str] ((List.getD ((je (Rel.mk (3:Int) ⟨#[]⟩ [{table:=⟨#[]⟩,name:=⟨#[97]⟩,type:=(2:Int)}] [(Rel.mk (1:Int) ⟨#[116]⟩ [{table:=⟨#[]⟩,name:=⟨#[97]⟩,type:=(2:Int)}] [] [] [] [] (0:Int) (0:Int) false [])] [(Term.mk (13:Int) z7 (0:Int) (0:Int) ⟨#[]⟩ [(Term.mk (2:Int) z7 (0:Int) (0:Int) ⟨#[]⟩ [] [] (2:Int)),(Term.mk (1:Int) (zk (2:Int)) (0:Int) (0:Int) ⟨#[]⟩ [] [] (2:Int))] [] (1:Int))] [] [] (0:Int) (0:Int) false []) [{table:=⟨#[116]⟩,rows:=[[(zk (1:Int))],[(zk (2:Int))],[z7]]}]).getD 0 []) 0 z7).kind ==(zk (1:Int)).kind)<|nw [EK.str] ((List.getD ((je (Rel.mk (3:Int) ⟨#[]⟩ [{table:=⟨#[]⟩,name:=⟨#[97]⟩,type:=(2:Int)}] [(Rel.mk (1:Int) ⟨#[116]⟩ [{table:=⟨#[]⟩,name:=⟨#[97]⟩,type:=(2:Int)}] [] [] [] [] (0:Int) (0:Int) false [])] [(Term.mk (13:Int) z7 (0:Int) (0:Int) ⟨#[]⟩ [(Term.mk (2:Int) z7 (0:Int) (0:Int) ⟨#[]⟩ [] [] (2:Int)),(Term.mk (1:Int) (zk (2:Int)) (0:Int) (0:Int) ⟨#[]⟩ [] [] (2:Int))] [] (1:Int))] [] [] (0:Int) (0:Int) false []) [{table:=⟨#[116]⟩,rows:=[[(zk (1:Int))],[(zk (2:Int))],[z7]]}]).getD 0 []) 0 z7).n ==(zk (1:Int)).n)<|nw [] ((List.getD ((je (Rel.mk (3:Int) ⟨#[]⟩ [{table:=⟨#[]⟩,name:=⟨#[97]⟩,type:=(2:Int)}] [(Rel.mk (1:Int) ⟨#[116]⟩ [{table:=⟨#[]⟩,name:=⟨#[97]⟩,type:=(2:Int)}] [] [] [] [] (0:Int) (0:Int) false [])] [(Term.mk (13:Int) z7 (0:Int) (0:Int) ⟨#[]⟩ [(Term.mk (2:Int) z7 (0:Int) (0:Int) ⟨#[]⟩ [] [] (2:Int)),(Term.mk (1:Int) (zk (2:Int)) (0:Int) (0:Int) ⟨#[]⟩ [] [] (2:Int))] [] (1:Int))] [] [] (0:Int) (0:Int) false []) [{table:=⟨#[116]⟩,rows:=[[(zk (1:Int))],[(zk (2:Int))],[z7]]}]).getD 0 []) 0 z7).s.toList ==(zk (1:Int)).s.toList) true)<|some<|ak false)<|some<|ak false):=ah
def FR:Term:=.mk 2 z7 0 0 ⟨#[]⟩ [] [] 2
def cA:Term:=.mk 1 (zk 2) 0 0 ⟨#[]⟩ [] [] 2
def lessA:Term:=.mk 13 z7 0 0 ⟨#[]⟩ [FR,cA] [] 1
def tabA:Rel:=.mk 1 ⟨#[116]⟩ [⟨⟨#[]⟩,⟨#[97]⟩,2⟩] [] [] [] [] 0 0 false []
def relA:Rel:=.mk 3 ⟨#[]⟩ [⟨⟨#[]⟩,⟨#[97]⟩,2⟩] [tabA] [lessA] [] [] 0 0 false []
def iq:List Data:=[⟨⟨#[116]⟩,[[zk 1],[zk 2],[z7]]⟩]
theorem awA{x}(h:ba x):nT FR (zp ⟨[],iq⟩ [x])=some x:=by
 rw[uZ,if_pos (.inr rfl),tF ⟨by decide,(E6 FR).2 ⟨yc _,trivial⟩,fun r hr v hv=>by
  rw[yl.1 hr]at hv
  grind⟩]
 rfl
theorem awB{x}(h:ba x):nT cA (zp ⟨[],iq⟩ [x])=some (zk 2):=by
 rw[uZ,if_pos (.inl rfl),tF ⟨by decide,(E6 cA).2 ⟨yc _,trivial⟩,fun r hr v hv=>by
  rw[yl.1 hr]at hv
  grind⟩]
 rfl
theorem OY{x}(h:ba x):nT lessA (zp ⟨[],iq⟩ [x])=some (cJ 13 ⟨#[]⟩ [x,zk 2]):=by
 have hk:b8 lessA.kids (zp ⟨[],iq⟩ [x])=some [x,zk 2]:=by
  show b8 [FR,cA] _=_;simp only[b8,awA h,awB h,yj]
 rw[uZ,if_neg (by decide),if_neg (by decide),if_neg (by decide),if_neg (by decide),if_pos (by decide),hk,yj,tF ⟨by simp,fun y hy=>by
  rcases yh.1 hy with rfl|hy
  ·exact h
  ·rw[yl.1 hy];exact yc _⟩]
 rfl
theorem awC:cJ 13 ⟨#[]⟩ [zk 1,zk 2]=cE true:=by rfl
theorem awD:cJ 13 ⟨#[]⟩ [zk 2,zk 2]=cE false:=by rfl
theorem awE:cJ 13 ⟨#[]⟩ [z7,zk 2]=z7:=by rfl
theorem awF:cF [lessA] (zp ⟨[],iq⟩ [zk 1])=some true:=by
 simp only[cF,OY<|E7 1,awC,yj];rfl
theorem awG:cF [lessA] (zp ⟨[],iq⟩ [zk 2])=some false:=by
 simp only[cF,OY<|E7 2,awD,yj];rfl
theorem awH:cF [lessA] (zp ⟨[],iq⟩ [z7])=some false:=by
 simp only[cF,OY gv,awE,yj];rfl
def awI:nR tabA ⟨[],iq⟩=some [[zk 1],[zk 2],[z7]]:=by
 rw[u7,if_pos<|show tabA.op=1 from rfl,tF ⟨by decide,fun d hd=>by rw[yl.1 hd];simp⟩];have e:lM ⟨[],iq⟩ tabA.table=[[zk 1],[zk 2],[z7]]:=by
  simp[lM,iq,tabA,Rel.table_mk]
 rw[e];rfl
def acD:nR relA ⟨[],iq⟩=some [[zk 1]]:=by
 have hk:bc relA.kids 0 ⟨[],iq⟩=some [[zk 1],[zk 2],[z7]]:=by
  exact awI
 show((bc relA.kids 0 ⟨[],iq⟩).bind fun l=>gA (fun x=>cF [lessA]<|zp ⟨[],iq⟩ x) l).bind capQ=_;rw[hk,yj];simp only[gA,awF,awG,awH,yj];rfl
def tP:Bool:=true
def awJ:OX=some (ak tP):=by
 have h:je relA iq=[[zk 1]]:=jb acD;have e:=awz;rw[show OX=_ from e,z6 ⟨_,acD⟩];simp only[z8];have h2:je (Rel.mk (3:Int) ⟨#[]⟩ [{table:=⟨#[]⟩,name:=⟨#[97]⟩,type:=(2:Int)}] [(Rel.mk (1:Int) ⟨#[116]⟩ [{table:=⟨#[]⟩,name:=⟨#[97]⟩,type:=(2:Int)}] [] [] [] [] (0:Int) (0:Int) false [])] [(Term.mk (13:Int) z7 (0:Int) (0:Int) ⟨#[]⟩ [(Term.mk (2:Int) z7 (0:Int) (0:Int) ⟨#[]⟩ [] [] (2:Int)),(Term.mk (1:Int) (zk (2:Int)) (0:Int) (0:Int) ⟨#[]⟩ [] [] (2:Int))] [] (1:Int))] [] [] (0:Int) (0:Int) false []) [{table:=⟨#[116]⟩,rows:=[[(zk (1:Int))],[(zk (2:Int))],[z7]]}]=[[zk 1]]:=h;simp_all[ae,nw,tP]
def OZ:au Un:=LL ([],ak tP)
def awK:aj 12 OZ:=aiH (M:=acC) rfl ⟨Bu,acz,trivial⟩ Tryz.func12<|GiF.r fun _ _=>awJ
def awL:tP=true:=rfl
def acE(b:Bool):Option (RF Un):=aw av aV Tryz.f69 0 [.d] [.d<|.v<|cb b]
def awM(b):acE b=af b (some<|aq<|{kind:=(1:Int),n:=(1:Int),s:=⟨#[]⟩}) (some<|aq<|{kind:=(1:Int),n:=(0:Int),s:=⟨#[]⟩}):=ah
def awN b:acE b=some (aq<|cE b):=by rw[awM];unfold cE;simp only[z8];repeat(first|rfl|split)
def CX:au Un:=aQ dB fun b=>([],aq<|cE b)
def JB:aj 69 CX:=aU mu (M:=av) rfl trivial Tryz.func69 fun b=>GiF.r fun _ _=>awN b
def acF(s:ByteArray):Option (RF Un):=aw av aV Tryz.f180 0 [.d] [.d<|.v<|cs s]
def awO(s):acF s=some (nG<|{kind:=(3:Int),n:=(0:Int),s:=s}):=ah
def awP s:acF s=some (nG<|fL s):=by rw[awO];unfold fL;simp only[z8];repeat(first|rfl|split)
def CY:au Un:=fun args=>match args with
 |[x0]=>(cB x0).bind fun s=>some ([],kT<|fL s,kU<|fL s)
 |_=>none
def acG:aj 180 CY:=by
 intro args ob rs os h hob;unfold CY at h;split at h
 ·simp only[y6,y8,yi]at h;obtain⟨s,e0,rfl,rfl,rfl⟩:=h;obtain rfl:=cN e0;exact⟨dz (M:=av) rfl (cM (l1:=[]) (l2:=[]) (l3:=[]) (l4:=[]) (l5:=[]) trivial trivial trivial trivial trivial) Tryz.func180 (by kernel_rfl) aV 0 [.d] fun hwf=>(awP s),zl Tryz.func180 (by kernel_rfl)<|by kernel_rfl⟩
 ·simp at h
def acH(a:Val)(b:Val):Option (RF Un):=aw sQ aV Tryz.f122 0 [.d,.d] [.d<|.agg<|enc Ty.val a,.d<|.agg<|enc Ty.val b]
def awQ(a b):acH a b=af (a.kind !=b.kind) (some<|aG ((0:Int),false)) (af (a.kind==1) (some<|aG (ef a.n b.n,true))<|af (a.kind==2) (some<|aG (ef a.n b.n,true))<|af (a.kind==3) (some<|aG (oe a.s b.s,true))<|some<|aG ((0:Int),false)):=ah
theorem O0 b:cE b=fK b:=by unfold cE fK;cases b<;>rfl
def awR(a b:Val)(_ha:WS .val a)(_hb:WS .val b):acH a b=some (aG<|cj a b):=by
 rw[awQ];unfold cj dX;simp only[z8,T4,ajt,bne_iff_ne,ne_eq,beq_iff_eq,decide_eq_true_eq];grind
def JC:au Un:=aD (dS .val) (dS .val) fun a b=>([],aG<|cj a b)
def Rl:aj 122 JC:=aJ zo zo (M:=sQ) rfl ⟨GJ,T7,trivial⟩ Tryz.func122 fun a b=>GiF.r fun w _=>awR a b (am w 0)<|am w 1
def acI(a:Int):Option (RF Un):=aw av aV Tryz.f213 0 [.d] [.d<|.v<|.s<|.int .i64 a]
theorem awS(a):acI a=af (a==0) (some<|ak true) (af (a==1) (some<|ak true)<|some<|ak<|a==2):=ah
def awT a:acI a=some (ak<|l6 a):=by grind[awS,l6,z8]
def awU:aj 213 ER:=aU zn (M:=av) rfl trivial Tryz.func213 fun a=>GiF.r fun _ _=>awT a
def acJ:Mc Un:=az [(213,ER)] [] [] [] []
def acK(a:Int):Option (RF Un):=aw acJ aV Tryz.f171 0 [.d] [.d<|.v<|.s<|.int .i64 a]
def awV(a):acK a=af (l6 a) (some<|ay a) (some<|ay<|(1:Int)):=ah
def f6(a:Int):Int:=l7 a
def awW a(_ha:WI a):acK a=some (ay<|f6 a):=by
 rw[awV];unfold f6 l6 l7;simp only[z8,beq_iff_eq];grind
def zsy:au Un:=aQ (dI .i64) fun a=>([],ay<|f6 a)
def JD:aj 171 zsy:=aU zn (M:=acJ) rfl ⟨awU,trivial⟩ Tryz.func171 fun a=>GiF.r fun w _=>awW a<|am w 0
def acL(b:Bool):Option (RF Un):=aw av aV Tryz.f124 0 [.d] [.d<|.v<|cb b]
def awX(b):acL b=af b (some<|ay<|(2:Int)) (some<|ay<|(0:Int)):=ah
def O1(b:Bool):Int:=lE b
def awY b:acL b=some (ay<|O1 b):=by rw[awX];cases b<;>rfl
def acM:au Un:=aQ dB fun b=>([],ay<|O1 b)
def awZ:aj 124 acM:=aU mu (M:=av) rfl trivial Tryz.func124 fun b=>GiF.r fun _ _=>awY b
def pE:Mc Un:=az [(171,zsy)] [] [] [] []
def acN(a:Int):Option (RF Un):=aw pE aV Tryz.f176 0 [.d] [.d<|.v<|.s<|.int .i64 a]
def aw0(a):acN a=some (ay<|IntKind.i64.wrap<|(2:Int)- f6 a):=ah
def FS(a:Int):Int:=tp a
def aw1 a(_ha:WI a):acN a=some (ay<|FS a):=by
 rw[aw0];unfold FS tp;rw[ET];rfl
def acO:au Un:=aQ (dI .i64) fun a=>([],ay<|FS a)
def aw2:aj 176 acO:=aU zn (M:=pE) rfl ⟨JD,trivial⟩ Tryz.func176 fun a=>GiF.r fun w _=>aw1 a<|am w 0
def acP(a:Int)(b:Int):Option (RF Un):=aw pE aV Tryz.f130 0 [.d] [.d<|.v<|.s<|.int .i64 a,.d<|.v<|.s<|.int .i64 b]
def aw3(a b):acP a b=af (decide<|f6 a<f6 b) (some<|ay<|f6 a) (some<|ay<|f6 b):=ah
def aw4 a:0≤l7 a∧l7 a≤2:=by grind[l7]
def AO(a b:Int):Int:=mU a b
def aw5 a b(_ha:WI a)(_hb:WI b):acP a b=some (ay<|AO a b):=by
 rw[aw3];unfold AO mU f6;simp only[ET,z8,decide_eq_true_eq,yq,Bc];grind
def O2:au Un:=aD (dI .i64) (dI .i64) fun a b=>([],ay<|AO a b)
def acQ:aj 130 O2:=aJ zn zn (M:=pE) rfl ⟨JD,trivial⟩ Tryz.func130 fun a b=>GiF.r fun w _=>aw5 a b (am w 0)<|am w 1
def acR(a:Int)(b:Int):Option (RF Un):=aw pE aV Tryz.f123 0 [.d] [.d<|.v<|.s<|.int .i64 a,.d<|.v<|.s<|.int .i64 b]
def aw6(a b):acR a b=af (decide<|f6 a>f6 b) (some<|ay<|f6 a) (some<|ay<|f6 b):=ah
def sx(a b:Int):Int:=eL a b
def aw7 a b(_ha:WI a)(_hb:WI b):acR a b=some (ay<|sx a b):=by
 rw[aw6];unfold sx eL f6;simp only[ET,z8,decide_eq_true_eq,yq,Bc];grind
def FT:au Un:=aD (dI .i64) (dI .i64) fun a b=>([],ay<|sx a b)
def O3:aj 123 FT:=aJ zn zn (M:=pE) rfl ⟨JD,trivial⟩ Tryz.func123 fun a b=>GiF.r fun w _=>aw7 a b (am w 0)<|am w 1
def acS(a:Int):Option (RF Un):=aw pE aV Tryz.f125 0 [.d] [.d<|.v<|.s<|.int .i64 a]
def aw8(a):acS a=af (f6 a==1) (some<|aq z7) (ae (¬(2:Int)=(0:Int))<|some<|aq<|{kind:=(1:Int),n:=IntKind.i64.wrap<|(f6 a).tdiv (2:Int),s:=⟨#[]⟩}):=ah
def pg(a:Int):Val:=ib a
def aw9 a(_ha:WI a):acS a=some (aq<|pg a):=by
 rw[aw8];unfold pg ib f6;simp only[ET,z8,beq_iff_eq];have h:=aw4 a;rcases(show l7 a=0∨l7 a=1∨l7 a=2 by omega)with e|e|e<;>rw[e]<;>first|rfl|(rw[if_neg<|by simp,z6<|by simp];rfl)
def xT:au Un:=aQ (dI .i64) fun a=>([],aq<|pg a)
def CZ:aj 125 xT:=aU zn (M:=pE) rfl ⟨JD,trivial⟩ Tryz.func125 fun a=>GiF.r fun w _=>aw9 a<|am w 0
def acT(v:Val):Option (RF Un):=aw av aV Tryz.f99 0 [.d] [.d<|.agg<|enc Ty.val v]
def axa(v):acT v=af (v.kind !=1) (some<|ay<|(1:Int)) (af (v.n==0) (some<|ay<|(0:Int))<|some<|ay<|(2:Int)):=ah
def ir(v:Val):Int:=dN v
def axb(v:Val)(_hv:WS .val v):acT v=some (ay<|ir v):=by
 rw[axa];unfold ir dN lE;simp only[z8,bne_iff_ne,ne_eq,beq_iff_eq];grind
def rd:au Un:=aQ (dS .val) fun v=>([],ay<|ir v)
def xU:aj 99 rd:=aU zo (M:=av) rfl trivial Tryz.func99 fun v=>GiF.r fun w _=>axb v<|am w 0
def vf:Mc Un:=az [(73,lj)] [] [] [] []
def acU(a:Int)(b:Int):Option (RF Un):=aw vf aV Tryz.f236 0 [.d] [.d<|.v<|.s<|.int .i64 a,.d<|.v<|.s<|.int .i64 b]
theorem axc(a b):acU a b=af (bf a) (some<|ak<|bf b) (some<|ak false):=ah
def jR(a:Int)(b:Int):Bool:=
 if(bf a)=true then
  (bf b)
 else
  (false)
def axd a b:acU a b=some (ak<|jR a b):=by grind[axc,jR,z8]
def Rm:au Un:=aD (dI .i64) (dI .i64) fun a b=>([],ak<|jR a b)
def C0:aj 236 Rm:=aJ zn zn (M:=vf) rfl ⟨vM,trivial⟩ Tryz.func236 fun a b=>GiF.r fun _ _=>axd a b
def acV(n:Int):Option (RF Un):=aw vf aV Tryz.f237 0 [.d,.d] [.d<|.v<|.s<|.int .i64 n]
theorem axe(n):acV n=af (!bf n) (some<|aG ((0:Int),false)) (some<|aG (n,true)):=ah
def ph(n:Int):Int×Bool:=
 if(!bf n)=true then
  ((0:Int),false)
 else
  (n,true)
def axf n:acV n=some (aG<|ph n):=by grind[axe,ph,z8]
def acW:au Un:=aQ (dI .i64) fun n=>([],aG<|ph n)
def acX:aj 237 acW:=aU zn (M:=vf) rfl ⟨vM,trivial⟩ Tryz.func237 fun n=>GiF.r fun _ _=>axf n
def acY(n:Int):Option (RF Un):=aw av aV Tryz.f238 0 [.d] [.d<|.v<|.s<|.int .i64 n]
theorem axg(n):acY n=af (decide<|n<0) (some<|ay<|IntKind.i64.wrap<|(0:Int)- n) (some<|ay n):=ah
def fN(n:Int):Int:=
 if(decide<|n<(0:Int))=true then
  (IntKind.i64.wrap<|(0:Int)- n)
 else
  (n)
def axh n:acY n=some (ay<|fN n):=by grind[axg,fN,z8]
def acZ:au Un:=aQ (dI .i64) fun n=>([],ay<|fN n)
def O6:aj 238 acZ:=aU zn (M:=av) rfl trivial Tryz.func238 fun n=>GiF.r fun _ _=>axh n
def FU:Mc Un:=az [(236,Rm),(237,acW)] [] [] [] []
def ac0(a:Int)(b:Int):Option (RF Un):=aw FU aV Tryz.f214 0 [.d,.d] [.d<|.v<|.s<|.int .i64 a,.d<|.v<|.s<|.int .i64 b]
def axi(a b):ac0 a b=af (!jR a b) (some<|aG ((0:Int),false)) (some<|aG ((ph<|IntKind.i64.wrap<|a+b).fst,(ph<|IntKind.i64.wrap<|a+b).snd)):=ah
def AP(a b:Int):Int×Bool:=tg a b
theorem re a b:jR a b=(cR a&&cR b):=by simp[jR,fH,cR]
def axj a b(_ha:WI a)(_hb:WI b):ac0 a b=some (aG<|AP a b):=by
 rw[axi];unfold AP tg cZ ph;grind[re,fH,fH,z8,cR]
def ac1:au Un:=aD (dI .i64) (dI .i64) fun a b=>([],aG<|AP a b)
def axk:aj 214 ac1:=aJ zn zn (M:=FU) rfl ⟨C0,acX,trivial⟩ Tryz.func214 fun a b=>GiF.r fun w _=>axj a b (am w 0)<|am w 1
def ac2(a:Int)(b:Int):Option (RF Un):=aw FU aV Tryz.f215 0 [.d,.d] [.d<|.v<|.s<|.int .i64 a,.d<|.v<|.s<|.int .i64 b]
def axl(a b):ac2 a b=af (!jR a b) (some<|aG ((0:Int),false)) (some<|aG ((ph<|IntKind.i64.wrap<|a- b).fst,(ph<|IntKind.i64.wrap<|a- b).snd)):=ah
def AQ(a b:Int):Int×Bool:=kC a b
def axm a b(_ha:WI a)(_hb:WI b):ac2 a b=some (aG<|AQ a b):=by
 rw[axl];unfold AQ kC cZ ph;grind[re,fH,fH,z8,cR]
def ac3:au Un:=aD (dI .i64) (dI .i64) fun a b=>([],aG<|AQ a b)
def axn:aj 215 ac3:=aJ zn zn (M:=FU) rfl ⟨C0,acX,trivial⟩ Tryz.func215 fun a b=>GiF.r fun w _=>axm a b (am w 0)<|am w 1
def vg:Mc Un:=az [(236,Rm),(238,acZ)] [] [] [] []
def ac4(a:Int)(b:Int):Option (RF Un):=aw vg aV Tryz.f216 0 [.d,.d] [.d<|.v<|.s<|.int .i64 a,.d<|.v<|.s<|.int .i64 b]
def axo(a b):ac4 a b=af (!jR a b) (some<|aG ((0:Int),false)) (af (a !=0) (ae (¬fN a=0)<|af (decide<|fN b>IntKind.i64.wrap (Int.tdiv (1000000000000000:Int)<|fN a)) (some<|aG ((0:Int),false))<|some<|aG (IntKind.i64.wrap<|a*b,true))<|some<|aG (IntKind.i64.wrap<|a*b,true)):=ah
def AR(a b:Int):Int×Bool:=th a b
theorem tQ{a}(h:cR a=true):fN a=a.natAbs∧oJ a=a.natAbs:=by
 rw[oK]at h;have e:IntKind.i64.wrap (0- a)=0- a:=zm (by omega);unfold fN oJ;grind
def ac5{x y}(hx:0<x)(hy:0<y)(h:1000000000000000/x<y):1000000000000000/y<x:=by
 simp_all[PW,sy]
def axp a b(_ha:WI a)(_hb:WI b):ac4 a b=some (aG<|AR a b):=by
 rw[axo];unfold AR th;cases h:jR a b
 ·rw[re]at h;simp;cases h1:cR a
  ·rfl
  ·cases h2:cR b
   ·rfl
   grind
 ·rw[re,yp]at h;obtain⟨h1,h2⟩:=h;have b1:=(oK a).1 h1;have b2:=(oK b).1 h2;obtain⟨s1,-⟩:=tQ h1;obtain⟨s2,m2⟩:=tQ h2;have dv:∀x:Nat,x≤1000000000000000→IntKind.i64.wrap (Int.tdiv 1000000000000000 (x:Int))=((1000000000000000/x:Nat):Int):=fun x hx=>by
   have:=Nat.div_le_self 1000000000000000 x;grind[zm]
  simp only[fH,h1,h2,if_true,z8,vr,mf,if_false,bne_iff_ne,ne_eq,decide_eq_true_eq,s1,s2,m2];by_cases ha:a=0
  ·grind
  rw[if_pos ha,if_neg ha,z6<|by omega,dv _<|by omega];by_cases hb:b=0
  ·grind
  rw[if_neg hb,dv _<|by omega,show oJ a=a.natAbs from(tQ h1).2];by_cases c:1000000000000000/a.natAbs<b.natAbs
  ·have c2:=ac5 (by omega) (by omega) c;grind
  ·have hn:¬1000000000000000/b.natAbs<a.natAbs:=fun e=>c<|ac5 (by omega) (by omega) e;have hp:a.natAbs*b.natAbs≤1000000000000000:=by
    simp_all[sy,Nat.le_div_iff_mul_le,Nat.not_lt]
   have hab:(a*b).natAbs≤1000000000000000:=by grind[Int.natAbs_mul]
   grind[zm,cR,oK,cZ,fH]
def ac6:au Un:=aD (dI .i64) (dI .i64) fun a b=>([],aG<|AR a b)
def axq:aj 216 ac6:=aJ zn zn (M:=vg) rfl ⟨C0,O6,trivial⟩ Tryz.func216 fun a b=>GiF.r fun w _=>axp a b (am w 0)<|am w 1
def ac7(a:Int)(b:Int):Option (RF Un):=aw vg aV Tryz.f217 0 [.d,.d] [.d<|.v<|.s<|.int .i64 a,.d<|.v<|.s<|.int .i64 b]
def axr(a b):ac7 a b=af (!jR a b) (some<|aG ((0:Int),false)) (af (b==0) (some<|aG ((0:Int),false))<|ae (¬fN b=0)<|af (!decide (a<0)==decide (b<0)) (some<|aG (IntKind.i64.wrap<|(0:Int)- IntKind.i64.wrap ((fN a).tdiv<|fN b),true))<|some<|aG (IntKind.i64.wrap<|(fN a).tdiv<|fN b,true)):=ah
def AS(a b:Int):Int×Bool:=tj a b
def axs(a b:Int):a.tdiv b=if(decide (a<0) !=decide (b<0))=true then-((a.natAbs/b.natAbs:Nat):Int)else((a.natAbs/b.natAbs:Nat):Int):=by
 have ha:a=a.natAbs∨a=-a.natAbs:=by omega
 have hb:b=b.natAbs∨b=-b.natAbs:=by omega
 have h0:∀n m:Nat,(n=0∨m=0)→n/m=0:=fun n m h=>by rcases h with h|h<;>simp[h]
 have h1:=h0 a.natAbs b.natAbs;generalize a.natAbs=n at*;generalize b.natAbs=m at*;have e:(n:Int).tdiv m=((n/m:Nat):Int):=rfl;rcases ha with rfl|rfl<;>rcases hb with rfl|rfl<;>simp only[Int.neg_tdiv,Int.tdiv_neg,e,bne_iff_ne,ne_eq,decide_eq_decide]<;>generalize n/m=q at*<;>split<;>omega
def axt a b(_ha:WI a)(_hb:WI b):ac7 a b=some (aG<|AS a b):=by
 rw[axr];unfold AS tj;cases h:jR a b
 ·rw[re]at h;simp;cases h1:cR a
  ·rfl
  ·cases h2:cR b
   ·rfl
   grind
 ·rw[re,yp]at h;obtain⟨h1,h2⟩:=h;have b1:=(oK a).1 h1;simp only[fH,h1,h2,if_true,z8,vr,mf,if_false,beq_iff_eq,(tQ h1).1,(tQ h2).1];by_cases hb:b=0
  ·grind
  have hd:=Nat.div_le_self a.natAbs b.natAbs;have e:((a.natAbs:Int)).tdiv (b.natAbs:Int)=((a.natAbs/b.natAbs:Nat):Int):=rfl;rw[if_neg hb,if_neg hb,z6<|by omega,e,axs a b];generalize a.natAbs/b.natAbs=q at*;rw[zm<|show(-9223372036854775808:Int)≤(q:Int)∧_ by omega,zm<|show(-9223372036854775808:Int)≤0- (q:Int)∧_ by omega];have hi:∀x:Int,x=(q:Int)∨x=-(q:Int)→cZ a b (IntKind.i64.wrap x)=(x,true):=fun x hx=>by
   grind[cR,oK,zm,cZ,fH]
  grind
def ac8:au Un:=aD (dI .i64) (dI .i64) fun a b=>([],aG<|AS a b)
def axu:aj 217 ac8:=aJ zn zn (M:=vg) rfl ⟨C0,O6,trivial⟩ Tryz.func217 fun a b=>GiF.r fun w _=>axt a b (am w 0)<|am w 1
def ac9(a:Int)(b:Int):Option (RF Un):=aw vg aV Tryz.f218 0 [.d,.d] [.d<|.v<|.s<|.int .i64 a,.d<|.v<|.s<|.int .i64 b]
def axv(a b):ac9 a b=af (!jR a b) (some<|aG ((0:Int),false)) (af (b==0) (some<|aG ((0:Int),false))<|ae (¬fN b=0)<|af (decide<|a<0) (some<|aG (IntKind.i64.wrap<|(0:Int)- (fN a).tmod (fN b),true))<|some<|aG ((fN a).tmod<|fN b,true)):=ah
def AT(a b:Int):Int×Bool:=tn a b
def axw(a b:Int):a.tmod b=if a<0 then-((a.natAbs % b.natAbs:Nat):Int)else((a.natAbs % b.natAbs:Nat):Int):=by
 have ha:a=a.natAbs∨a=-a.natAbs:=by omega
 have hb:b=b.natAbs∨b=-b.natAbs:=by omega
 have h1:a.natAbs=0→a.natAbs % b.natAbs=0:=fun h=>by simp_all
 generalize a.natAbs=n at*;generalize b.natAbs=m at*;have e:(n:Int).tmod m=((n % m:Nat):Int):=rfl;rcases ha with rfl|rfl<;>rcases hb with rfl|rfl<;>simp only[Int.neg_tmod,Int.tmod_neg,e]<;>generalize n % m=q at*<;>split<;>omega
def axx a b(_ha:WI a)(_hb:WI b):ac9 a b=some (aG<|AT a b):=by
 rw[axv];unfold AT tn;cases h:jR a b
 ·rw[re]at h;simp;cases h1:cR a
  ·rfl
  ·cases h2:cR b
   ·rfl
   grind
 ·rw[re,yp]at h;obtain⟨h1,h2⟩:=h;simp only[fH,h1,h2,if_true,z8,vr,mf,if_false,beq_iff_eq,decide_eq_true_eq,(tQ h1).1,(tQ h2).1];by_cases hb:b=0
  ·grind
  have hd:=Nat.mod_le a.natAbs b.natAbs;have e:((a.natAbs:Int)).tmod (b.natAbs:Int)=((a.natAbs % b.natAbs:Nat):Int):=rfl;rw[if_neg hb,if_neg hb,z6<|by omega,e,axw a b];generalize a.natAbs % b.natAbs=q at*;rw[zm<|by omega];have hi:∀x:Int,x=(q:Int)∨x=-(q:Int)→cZ a b x=(x,true):=fun x hx=>by
   grind[cR,oK,cZ,fH]
  grind
def ada:au Un:=aD (dI .i64) (dI .i64) fun a b=>([],aG<|AT a b)
def axy:aj 218 ada:=aJ zn zn (M:=vg) rfl ⟨C0,O6,trivial⟩ Tryz.func218 fun a b=>GiF.r fun w _=>axx a b (am w 0)<|am w 1
def adb(a:Int):Option (RF Un):=aw vf aV Tryz.f173 0 [.d,.d] [.d<|.v<|.s<|.int .i64 a]
def axz(a):adb a=af (!bf a) (some<|aG ((0:Int),false)) (some<|aG (IntKind.i64.wrap<|(0:Int)- a,true)):=ah
def tT(a:Int):Int×Bool:=jI a
def axA a(_ha:WI a):adb a=some (aG<|tT a):=by
 rw[axz];unfold tT jI kC cZ;grind[fH,fH,z8,cR,oK,zm]
def O7:au Un:=aQ (dI .i64) fun a=>([],aG<|tT a)
def adc:aj 173 O7:=aU zn (M:=vf) rfl ⟨vM,trivial⟩ Tryz.func173 fun a=>GiF.r fun w _=>axA a<|am w 0
def ade(c:Int):Option (RF Un):=aw av aV Tryz.f239 0 [.d] [.d<|.v<|.s<|.int .u8 c]
theorem axB(c):ade c=af (c==37) (some<|ak true) (af (c==95) (some<|ak true)<|some<|ak<|c==92):=ah
def xV(c:Int):Bool:=
 if(c==(37:Int))=true then
  (true)
 else
  if(c==(95:Int))=true then
   (true)
  else
   (c==(92:Int))
def axC c:ade c=some (ak<|xV c):=by grind[axB,xV,z8]
def adf:au Un:=aQ (dI .u8) fun c=>([],ak<|xV c)
def axD:aj 239 adf:=aU zn (M:=av) rfl trivial Tryz.func239 fun c=>GiF.r fun _ _=>axC c
def JE:Mc Un:=az [(239,adf)] [] [] [] []
def O8:Nat→NS:=aO [(3,{ts:=bl 60 25,bs:=bl 60 0,nm:=[(.sl 3,240)],cs:=true})] true
def jS(p:ByteArray)(v0:Int)(v1:List Int):S Un:=(st 60 60 241 0 [(0,at_ p),(3,ao 240),(4,ai v0)] [] [(240,some ⟨(0:Nat),Ty.int,v1,some (0:Nat),true⟩)])
def rf:S Un→Option (EX Un):=aC JE O8 Tryz.f219 [1,1,0,1,2,2] 3
def adg:Exit→S Un→Option (RF Un):=aE JE O8 Tryz.f219 [1,1,0,1,2] [.d]
def adh(p:ByteArray):Option (RF Un):=aw JE O8 Tryz.f219 1 [.d] [.d<|.v<|cs p]
def axE(p):adh p=(rf<|jS p (0:Int)<|[]).bind (zd adg):=ah
def C1(p:ByteArray)(v0:Int)(v1:List Int):Option (EX Un):=ae (0≤v0∧v0<(↑p.size:Int))<|af ((↑(p.toList.getD v0.toNat 0).toNat:Int)==(37:Int)) (ae ((v1.length+[(257:Int)].length)*(8:Nat)≤ze)<|rf<|jS p (IntKind.i64.wrap<|v0+1)<|v1++[(257:Int)])<|ae (0≤v0∧v0<(↑p.size:Int))<|af ((↑(p.toList.getD v0.toNat 0).toNat:Int)==(95:Int)) (ae ((v1.length+[(256:Int)].length)*(8:Nat)≤ze)<|rf<|jS p (IntKind.i64.wrap<|v0+1)<|v1++[(256:Int)])<|ae (0≤v0∧v0<(↑p.size:Int))<|ae ((v1.length+[IntKind.i64.wrap (↑(p.toList.getD v0.toNat 0).toNat:Int)].length)*(8:Nat)≤ze)<|rf<|jS p (IntKind.i64.wrap<|v0+1)<|v1++[IntKind.i64.wrap (↑(p.toList.getD v0.toNat 0).toNat:Int)]
def adi(p v0 v1):rf (jS p v0 v1)=af (decide<|v0<(↑p.size:Int)) (ae (0≤v0∧v0<(↑p.size:Int))<|af ((↑(p.toList.getD v0.toNat 0).toNat:Int)==(92:Int)) (af (decide<|IntKind.i64.wrap (v0+1)<(↑p.size:Int)) (ae (0≤IntKind.i64.wrap (v0+1)∧IntKind.i64.wrap (v0+1)<(↑p.size:Int))<|af (xV (↑(p.toList.getD (IntKind.i64.wrap<|v0+1).toNat 0).toNat:Int)) (ae (0≤IntKind.i64.wrap (v0+1)∧IntKind.i64.wrap (v0+1)<(↑p.size:Int))<|ae ((v1.length+[IntKind.i64.wrap (↑(p.toList.getD (IntKind.i64.wrap<|v0+1).toNat 0).toNat:Int)].length)*(8:Nat)≤ze)<|rf<|jS p (IntKind.i64.wrap<|IntKind.i64.wrap (v0+1)+1)<|v1++[IntKind.i64.wrap (↑(p.toList.getD (IntKind.i64.wrap<|v0+1).toNat 0).toNat:Int)])<|C1 p v0 v1)<|C1 p v0 v1)<|C1 p v0 v1) (some (.exit 0,(jS p v0 v1))):=aF
def axF(p v0 v1):adg (.exit 0) (jS p v0 v1)=some (gZ v1):=ah
def gB(g:Sign):Int:=if g.kind=2 then 257 else if g.kind=1 then 256 else g.b
def f7(p:ByteArray):List Int:=(zg p).map gB
def axG d:xV (d.toNat:Int)=sb d:=by
 have hd:∀n:Nat,n<256→((d.toNat:Int)=n↔d=UInt8.ofNat n):=fun n hn=>by
  constructor
  ·grind[UInt8.toNat_inj,UInt8.toNat_ofNat']
  ·rintro rfl;rw[UInt8.toNat_ofNat'];omega
 have h1:=hd 37 (by omega);have h2:=hd 95 (by omega);have h3:=hd 92 (by omega);unfold xV sb nF;simp only[beq_iff_eq];by_cases c1:(d.toNat:Int)=37
 ·rw[if_pos c1,h1.1 c1];rfl
 by_cases c2:(d.toNat:Int)=95
 ·rw[if_pos c2,h2.1 c2];rfl
 by_cases c3:(d.toNat:Int)=92
 ·rw[h3.1 c3];rfl
 ·have e:(Int.toNat (d.toNat:Int)).toUInt8=d:=by simp
  grind[Lib.indexByte]
def C2(c:UInt8):Int:=if(c.toNat:Int)=37 then 257 else if(c.toNat:Int)=95 then 256 else c.toNat
def O9 c:∀l:List UInt8,¬((c.toNat:Int)=92∧sb (l.getD 0 0)=true∧l≠[])→(da<|c::l).map gB=C2 c::(da l).map gB
 |[],_=>by unfold da C2;split<;>(try split)<;>rfl
 |d::r,h=>by
  have h':¬((c.toNat:Int)=92∧sb d=true):=fun e=>h ⟨e.1,e.2,by simp⟩;rw[da];unfold C2;split
  ·rfl
  ·split
   all_goals rfl
def axH p(hp:p.size≤2000000):∀(n i:Nat)(o:List Int),p.size- i≤n→i≤p.size→o.length≤i→rf (jS p (i:Int) o)=some (.exit 0,jS p (p.size:Int) (o++(da (p.toList.drop i)).map gB)):=by
 intro n;have hsz:=eK p
 induction n with
 |zero=>
  intro i o h1 h2 h3;obtain rfl:i=p.size:=by omega
  rw[adi,z8,if_neg (by simp),fA (by omega)];simp only[da,jr,de]
 |succ n ih=>
  intro i o h1 h2 h3;rcases yk i p.size with hi|hi
  ·have hw:IntKind.i64.wrap ((i:Int)+1)=((i+1:Nat):Int):=by grind[zm]
   have hd:p.toList.drop i=p.toList.getD i 0::p.toList.drop (i+1):=mV 0 (by omega);have ih1:∀x:Int,rf (jS p ((i+1:Nat):Int) (o++[x]))=some (.exit 0,jS p (p.size:Int) (o++x::(da (p.toList.drop (i+1))).map gB)):=by
    intro x;rw[ih (i+1) (o++[x]) (by omega) (by omega) (by grind),yw];rfl
   have hc8:=(p.toList.getD i 0).toNat_lt;have e1:C1 p (i:Int) o=some (.exit 0,jS p (p.size:Int) (o++C2 (p.toList.getD i 0)::(da (p.toList.drop (i+1))).map gB)):=by
    unfold C1 C2;simp only[z8,beq_iff_eq,y5,hw,ih1];rw[z6 (by omega),z6 (by grind[ze,List.length_singleton]),z6 (by omega),z6 (by grind[ze,List.length_singleton]),z6 (by omega),z6 (by grind[ze,List.length_singleton]),zm (by omega)]
    repeat' split
    all_goals rfl
   rw[adi,e1,hd];simp only[z8,decide_eq_true_eq,beq_iff_eq,y5,hw];rw[if_pos (by omega),z6 (by omega)];by_cases c1:((p.toList.getD i 0).toNat:Int)=92
   ·rw[if_pos c1];rcases yk (i+1) p.size with hj|hj
    ·have hw2:IntKind.i64.wrap (((i+1:Nat):Int)+1)=((i+1+1:Nat):Int):=by grind[zm]
     have hd2:p.toList.drop (i+1)=p.toList.getD (i+1) 0::p.toList.drop (i+1+1):=mV 0 (by omega);have hd8:=(p.toList.getD (i+1) 0).toNat_lt;rw[if_pos (show((i+1:Nat):Int)<(p.size:Int) by omega),z6 (by omega),axG];by_cases c2:sb (p.toList.getD (i+1) 0)=true
     ·rw[if_pos c2,z6 (by omega),z6 (by grind[ze,List.length_singleton]),hw2,zm (by omega),ih (i+1+1) (o++[_]) (by omega) (by omega) (by grind),yw,hd2,da,if_neg (by omega),if_neg (by omega),if_pos ⟨c1,c2⟩];rfl
     ·rw[if_neg c2,O9 _ _ (fun e=>c2 (by grind))]
    ·rw[if_neg (show¬((i+1:Nat):Int)<(p.size:Int) by omega),O9 _ _ (fun e=>e.2.2 (fA (by omega)))]
   ·rw[if_neg c1,O9 _ _ (fun e=>c1 e.1)]
  grind
def axI p(_hp:cm p)(h:p.size≤2000000):adh p=some (gZ<|f7 p):=by
 have lp:=axH p h p.size 0 [] (by omega) (by omega)<|y7 _;rw[axE];refine(zf lp).trans ?_;rw[axF];rfl
def adj:au Un:=aQ cB fun p=>([p.size≤2000000],gZ<|f7 p)
def axJ:aj 219 adj:=aU cN (M:=JE) rfl ⟨axD,trivial⟩ Tryz.func219 fun p=>GiF.r fun w o=>axI p (am w 0)<|aA o 0
def xW:Mc Un:=az [(219,adj)] [] [] [] []
def rg:Nat→NS:=aO [(5,{ts:=bl 92 225,bs:=bl 92 0,nm:=[(.sl 6,368)],cs:=true}),(9,{ts:=bl 92 993,bs:=bl 92 0,nm:=[(.sl 8,369),(.sl 6,370)],cs:=true})] true
def nh(s:ByteArray)(p:ByteArray)(v0:Int)(v1:List Bool):S Un:=(st 92 92 371 0 [(0,at_ s),(5,al .int<|f7 p),(6,ao 368),(7,ai v0)] [] [(368,some ⟨(0:Nat),Ty.bol,v1,some (0:Nat),true⟩)])
def gC(s:ByteArray)(p:ByteArray)(v0:Int)(v1:List Bool)(v2:Int)(v3:List Bool):S Un:=(st 92 92 371 0 [(0,at_ s),(5,al .int<|f7 p),(6,ao 370),(7,ai v0),(8,ao 369),(9,ai v2)] [] [(369,some ⟨(0:Nat),Ty.bol,v3,some (0:Nat),true⟩),(370,some ⟨(0:Nat),Ty.bol,v1,some (0:Nat),true⟩)])
def rh:S Un→Option (EX Un):=aC xW rg Tryz.f181 [1,1,1,1,0,1,2,2] 5
noncomputable def adk:Code:=sub (sub (zh Tryz.f181) [1,1,1,1,0,1,2,2]) [1,0,2,1,0,1,2,2]
def lU:S Un→Option (EX Un):=bA (rg 9) fun s Q=>aR xW rg adk s Q
def Pa:Exit→S Un→Option (RF Un):=aE xW rg Tryz.f181 [1,1,1,1,0,1,2] [.d]
def adl:Exit→S Un→Option (EX Un):=bu xW rg (sub (zh Tryz.f181) [1,1,1,1,0,1,2,2]) [1,0,2,1,0,1,2]<|eV (rg 5) rh
def adm(s:ByteArray)(p:ByteArray):Option (RF Un):=aw xW rg Tryz.f181 3 [.d] [.d<|.v<|cs s,.d<|.v<|cs p]
def axK(s p):adm s p=ae (p.size≤(2000000:Nat)) (ae (0≤IntKind.i64.wrap ((↑s.size:Int)+(1:Int))∧IntKind.i64.wrap ((↑s.size:Int)+(1:Int))≤IntKind.i64.wrap ((↑s.size:Int)+(1:Int))∧(IntKind.i64.wrap<|(↑s.size:Int)+(1:Int)).toNat*(1:Nat)≤ze)<|ae ((0:Int)≤(0:Int)∧(0:Int)<(↑(List.replicate (IntKind.i64.wrap<|(↑s.size:Int)+(1:Int)).toNat false).length:Int))<|ae ((0:Nat)≤Int.toNat (0:Int))<|(rh<|nh s p (0:Int)<|(List.replicate (IntKind.i64.wrap<|(↑s.size:Int)+(1:Int)).toNat false).set 0 true).bind<|zd Pa):=ah
def adn(s p v0 v1):rh (nh s p v0 v1)=af (decide<|v0<(↑(f7 p).length:Int)) (ae (0≤IntKind.i64.wrap ((↑s.size:Int)+(1:Int))∧IntKind.i64.wrap ((↑s.size:Int)+(1:Int))≤IntKind.i64.wrap ((↑s.size:Int)+(1:Int))∧(IntKind.i64.wrap<|(↑s.size:Int)+(1:Int)).toNat*(1:Nat)≤ze)<|(lU<|gC s p v0 v1 (0:Int)<|List.replicate (IntKind.i64.wrap<|(↑s.size:Int)+(1:Int)).toNat false).bind<|zd adl) (some (.exit 0,(nh s p v0 v1))):=aF
def axL(s p v0 v1):Pa (.exit 0) (nh s p v0 v1)=ae ((0:Int)≤(↑s.size:Int)∧(↑s.size:Int)<(↑v1.length:Int)) (some<|ak<|v1.getD (↑s.size:Int).toNat false):=ah
def Pb(s:ByteArray)(p:ByteArray)(v0:Int)(v1:List Bool)(v2:Int)(v3:List Bool):Option (EX Un):=ae (0≤IntKind.i64.wrap (v2- 1)∧IntKind.i64.wrap (v2- 1)<(↑v1.length:Int))<|ae (0≤v2∧v2<(↑v3.length:Int))<|ae ((0:Nat)≤v2.toNat)<|lU<|gC s p v0 v1 (IntKind.i64.wrap<|v2+1)<|v3.set v2.toNat<|v1.getD (IntKind.i64.wrap<|v2- 1).toNat false
def ado s p v0 v1 v2 v3:lU (gC s p v0 v1 v2 v3)=af (decide<|v2≤(↑s.size:Int)) (ae (0≤v0∧v0<(↑(f7 p).length:Int))<|af ((f7 p).getD v0.toNat (0:Int)==(257:Int)) (ae (0≤v2∧v2<(↑v1.length:Int))<|af (v1.getD v2.toNat false) (ae (0≤v2∧v2<(↑v3.length:Int))<|ae ((0:Nat)≤v2.toNat)<|lU<|gC s p v0 v1 (IntKind.i64.wrap<|v2+1)<|v3.set v2.toNat true)<|af (decide<|v2>0) (ae (0≤IntKind.i64.wrap (v2- 1)∧IntKind.i64.wrap (v2- 1)<(↑v3.length:Int))<|ae (0≤v2∧v2<(↑v3.length:Int))<|ae ((0:Nat)≤v2.toNat)<|lU<|gC s p v0 v1 (IntKind.i64.wrap<|v2+1)<|v3.set v2.toNat<|v3.getD (IntKind.i64.wrap<|v2- 1).toNat false)<|ae (0≤v2∧v2<(↑v3.length:Int))<|ae ((0:Nat)≤v2.toNat)<|lU<|gC s p v0 v1 (IntKind.i64.wrap<|v2+1)<|v3.set v2.toNat false)<|af (decide<|v2>0) (ae (0≤v0∧v0<(↑(f7 p).length:Int))<|af ((f7 p).getD v0.toNat (0:Int)==(256:Int)) (Pb s p v0 v1 v2 v3)<|ae (0≤v0∧v0<(↑(f7 p).length:Int))<|ae (0≤IntKind.i64.wrap (v2- 1)∧IntKind.i64.wrap (v2- 1)<(↑s.size:Int))<|af ((f7 p).getD v0.toNat (0:Int)==IntKind.i64.wrap (↑(s.toList.getD (IntKind.i64.wrap<|v2- 1).toNat 0).toNat:Int)) (Pb s p v0 v1 v2 v3)<|lU<|gC s p v0 v1 (IntKind.i64.wrap<|v2+1) v3)<|lU<|gC s p v0 v1 (IntKind.i64.wrap<|v2+1) v3) (some (.exit 2,(gC s p v0 v1 v2 v3))):=(fU (rg 9) adk _).trans<|by kernel_rfl
theorem axM(s p v0 v1 v2 v3):adl (.exit 2) (gC s p v0 v1 v2 v3)=rh (nh s p (IntKind.i64.wrap<|v0+1) v3):=ah
noncomputable def C3(s p:ByteArray):Bool:=tr s p
def Pc:∀(n:Nat)(l:List UInt8),l.length≤n→∀g∈da l,0≤g.b∧g.b≤255
 |_,[],_=>by simp[da]
 |_,[c],_=>by
  have:=c.toNat_lt;grind[da,List.mem_singleton]
 |n+1,c::d::r,h=>by
  have h1:=Pc n (d::r) (by grind);have h2:=Pc n r (by grind);have:=c.toNat_lt;have:=d.toNat_lt;simp only[da];grind
 |0,c::d::r,h=>by grind
open Classical in
noncomputable def fy(G:List Sign)(S:List UInt8)(i:Nat)(are:List Bool)(y:Nat):Bool:=
 if(G.getD i bz).kind=2 then decide (∃z,z≤y∧are.getD z false=true)else decide (0<y∧((G.getD i bz).kind=1∨(G.getD i bz).b=((S.getD (y- 1) 0).toNat:Int))∧are.getD (y- 1) false=true)
def lkW(G:List Sign)(S:List UInt8)(i:Nat)(are:List Bool):Prop:=ck G S↔∃x,x≤S.length∧are.getD x false=true∧ck (G.drop i) (S.drop x)
theorem lkW.step{G S i are nx}(h:lkW G S i are)(hi:i<G.length)(hn:∀y,y≤S.length→nx.getD y false=fy G S i are y):lkW G S (i+1) nx:=by
 unfold lkW at*;rw[h];by_cases c:(G.getD i bz).kind=2
 ·constructor
  ·rintro⟨x,h1,h2,h3⟩;obtain⟨n,h4,h5,h6⟩:=(xf hi c h1).1 h3;refine⟨n,h5,?_,h6⟩;rw[hn n h5];unfold fy;grind
  ·rintro⟨n,h1,h2,h3⟩;rw[hn n h1]at h2;unfold fy at h2;grind[xf]
 ·constructor
  ·rintro⟨x,h1,h2,h3⟩;obtain⟨h4,h5,h6⟩:=(Ar hi c).1 h3;refine⟨x+1,h4,?_,h6⟩;rw[hn _ h4];simp_all[fy,if_neg,decide_eq_true,Nat.succ_pos]
  ·rintro⟨n,h1,h2,h3⟩;rw[hn n h1]at h2;unfold fy at h2;grind[Ar]
def aA1{l:List Bool}{x y b}(hx:x<l.length):(l.set x b).getD y false=if y=x then b else l.getD y false:=by
 grind
def axN s p(hs:s.size≤2000000) i(hi:i<(zg p).length)(hi2:i≤2000000) are(ha:are.length=s.size+1):∀(k x:Nat)(v:List Bool),x+k=s.size+1→v.length=s.size+1→(∀y,y≤s.size→v.getD y false=(decide (y<x)&&fy (zg p) s.toList i are y))→
 ∃v',lU (gC s p (i:Int) are (x:Int) v)=some (.exit 2,gC s p (i:Int) are ((s.size+1:Nat):Int) v')∧v'.length=s.size+1∧∀y,y≤s.size→v'.getD y false=fy (zg p) s.toList i are y:=by
 have hb:=Pc _ p.toList (y7 _) ((zg p).getD i bz) (by rw[yf,ya hi];exact mc hi);have hr:(f7 p).getD i 0=gB ((zg p).getD i bz):=by
  simp_all[f7,yf,dn,ya]
 have hrl:(f7 p).length=(zg p).length:=by unfold f7;simp
 intro k
 induction k with
 |zero=>
  intro x v hx hl hv;obtain rfl:x=s.size+1:=by omega
  refine⟨v,?_,hl,fun y hy=>by grind⟩;rw[ado,z8,if_neg<|by grind]
 |succ k ih=>
  intro x v hx hl hv;have hw:IntKind.i64.wrap ((x:Int)+1)=((x+1:Nat):Int):=by grind[zm]
  have stay:fy (zg p) s.toList i are x=false→∃v',lU (gC s p (i:Int) are ((x+1:Nat):Int) v)=some (.exit 2,gC s p (i:Int) are ((s.size+1:Nat):Int) v')∧v'.length=s.size+1∧∀y,y≤s.size→v'.getD y false=fy (zg p) s.toList i are y:=fun h0=>by
   refine ih (x+1) v (by omega) hl fun y hy=>?_;grind
  have put:∀b,fy (zg p) s.toList i are x=b→∃v',lU (gC s p (i:Int) are ((x+1:Nat):Int)<|v.set x b)=some (.exit 2,gC s p (i:Int) are ((s.size+1:Nat):Int) v')∧v'.length=s.size+1∧∀y,y≤s.size→v'.getD y false=fy (zg p) s.toList i are y:=fun b h0=>by
   refine ih (x+1) (v.set x b) (by omega) (by grind) fun y hy=>?_;grind
  rw[ado];unfold Pb;simp only[z8,decide_eq_true_eq,beq_iff_eq,y5,hw,hr,hrl];rw[if_pos<|by omega,z6<|by omega];by_cases c2:((zg p).getD i bz).kind=2
  ·have e:gB ((zg p).getD i bz)=257:=by unfold gB;omega
   rw[if_pos e,z6<|by omega];by_cases ca:are.getD x false=true
   ·rw[if_pos ca,z6<|by omega,z6<|by omega];exact put true (by unfold fy;grind)
   ·rw[if_neg ca];by_cases c0:(x:Int)>0
    ·have e1:IntKind.i64.wrap ((x:Int)- 1)=((x- 1:Nat):Int):=by grind[zm]
     rw[if_pos c0,e1,z6<|by omega,z6<|by omega,z6<|by omega,y5];refine put _ ?_;rw[hv (x- 1)<|by omega,decide_eq_true<|show x- 1<x by omega,dQ];unfold fy;rw[if_pos c2,if_pos c2];grind
    ·rw[if_neg c0,z6<|by omega,z6<|by omega];refine put false ?_;unfold fy;grind
  ·have e:gB ((zg p).getD i bz)≠257:=by unfold gB;omega
   rw[if_neg e];by_cases c0:(x:Int)>0
   ·have e1:IntKind.i64.wrap ((x:Int)- 1)=((x- 1:Nat):Int):=by grind[zm]
    have h8:=(s.toList.getD (x- 1) 0).toNat_lt;have e2:gB ((zg p).getD i bz)=256∨gB ((zg p).getD i bz)=((s.toList.getD (x- 1) 0).toNat:Int)↔((zg p).getD i bz).kind=1∨((zg p).getD i bz).b=((s.toList.getD (x- 1) 0).toNat:Int):=by
     unfold gB;omega
    have fin:∀b,are.getD (x- 1) false=b→((zg p).getD i bz).kind=1∨((zg p).getD i bz).b=((s.toList.getD (x- 1) 0).toNat:Int)→fy (zg p) s.toList i are x=b:=fun b hb hm=>by
     unfold fy;simp_all
    rw[if_pos c0,z6<|by omega,e1,y5,z6<|by omega,z6<|by omega,z6<|by omega,z6<|by omega,z6<|by omega,zm<|by omega];by_cases c3:gB ((zg p).getD i bz)=256
    ·grind
    rw[if_neg c3];by_cases c4:gB ((zg p).getD i bz)=((s.toList.getD (x- 1) 0).toNat:Int)
    ·grind
    ·rw[if_neg c4];refine stay ?_;unfold fy;grind
   ·rw[if_neg c0];refine stay ?_;unfold fy;grind
open Classical in
def axO(s p:ByteArray)(hs:s.size≤2000000)(hp:(zg p).length≤2000000):∀(k i:Nat)(are:List Bool),i+k=(zg p).length→are.length=s.size+1→lkW (zg p) s.toList i are→
 (rh<|nh s p (i:Int) are).bind (zd Pa)=some (ak<|C3 s p):=by
 have hsz:=eK s;have hrl:(f7 p).length=(zg p).length:=by unfold f7;simp
 intro k
 induction k with
 |zero=>
  intro i are hi ha hW;have e:rh (nh s p (i:Int) are)=some (.exit 0,nh s p (i:Int) are):=by rw[adn,z8,if_neg<|by grind]
  rw[zf e,axL,z6<|by omega,y5];unfold C3 tr;have h:ck (zg p) s.toList↔are.getD s.size false=true:=by
   refine Iff.trans hW ?_;grind[YE]
  grind
 |succ k ih=>
  intro i are hi ha hW;have hw:IntKind.i64.wrap ((s.size:Int)+1)=((s.size+1:Nat):Int):=by grind[zm]
  obtain⟨v,h1,h2,h3⟩:=axN s p hs i (by omega) (by omega) are ha (s.size+1) 0 (List.replicate (s.size+1) false) (by omega) sE fun y hy=>by
   grind
  have e:rh (nh s p (i:Int) are)=rh (nh s p ((i+1:Nat):Int) v):=by
   rw[adn,z8,if_pos<|by grind,hw,z6<|by grind[ze],y5];grind[zf,trans,axM,zm]
  rw[e];exact ih (i+1) v (by omega) h2<|hW.step (by omega) fun y hy=>h3 y<|by omega
def axP s p(_hs:cm s)(_hp:cm p)(h1:s.size≤2000000)(h2:p.size≤2000000):adm s p=some (ak<|C3 s p):=by
 have hl:(zg p).length≤2000000:=by
  have:=EZ _ p.toList<|y7 _;grind[eK,zg]
 have hw:IntKind.i64.wrap ((s.size:Int)+1)=((s.size+1:Nat):Int):=by grind[zm]
 rw[axK,z6 h2,hw,z6<|by grind[ze],y5,z6<|by simp,z6<|by simp];refine axO s p h1 hl (zg p).length 0 _ (by omega) (by simp) ?_;constructor
 ·intro h;exact⟨0,yc _,by rfl,h⟩
 grind
def adp:au Un:=aD cB cB fun s p=>([s.size≤2000000,p.size≤2000000],ak<|C3 s p)
def axQ:aj 181 adp:=aJ cN cN (M:=xW) rfl ⟨axJ,trivial⟩ Tryz.func181 fun s p=>GiF.r fun w o=>axP s p (am w 0) (am w 1) (aA o 0)<|aA o 1
end
end B
namespace B
open Go Go.RowKit
set_option maxRecDepth 1000000
set_option linter.unusedVariables false
def Pd(s:ByteArray)(f t:Int):Val:=⟨3,0,fX s f<|t- f⟩
def Pe:au Un:=fun args=>match args with
 |[x0,x1,x2]=>(cB x0).bind fun s=>(dI .u8 x1).bind fun f=>(dI .u8 x2).bind fun b=>some ([s.size≤2000000],[.agg<|jk Ty.val<|Pd s f b],[])
 |_=>none
def axR W x(hx:cm x)(hlW:Laid W):Calls Tryz.prog 180 #[.string x] W fun e w'=>e=.returned (.agg #[.int .i64 3,.int .i64 0,.string x])∧Ext W w':=by
 have hF:CY [.d<|.v<|cs x]=some ([],kT<|fL x,kU<|fL x):=by
  unfold CY;simp only[aio];rfl
 have hc:=(acG _ _ _ _ hF<|by simp).1 W (fun _ _=>False) [.string x] (fun _ _ h=>h.elim) ⟨.s _<|oneC_str.2 hx,trivial⟩ hlW;refine hc.mono ?_;rintro e w' ⟨v,rfl,hx,g,_,_,_,hr,_⟩;refine⟨?_,hx⟩;obtain⟨arr,rfl,hall⟩:=hr;have e:arr=arr.toList.toArray:=y3q.symm;rw[e];generalize arr.toList=l at hall
 match l,hall with
 |[x0,x1,x2],⟨h0,h1,h2,_⟩=>
  obtain⟨rfl,_⟩:=h0;obtain⟨rfl,_⟩:=h1;obtain⟨rfl,_⟩:=h2;rfl
def axS s f t w(hs:s.size≤2000000)(hf:0≤f∧f<256)(ht:0≤t∧t<256)(hld:Laid w):Calls Tryz.prog 175 #[.string s,.int .u8 f,.int .u8 t] w fun e w'=>e=.returned (.agg #[.int .i64 3,.int .i64 0,.string<|fX s f<|t- f])∧Ext w w':=by
 have h9:Tryz.prog.underlying 9=some .string:=by kernel_rfl
 have hB:Tryz.prog.underlying 201=some (.slice 5):=by kernel_rfl
 have h5:Tryz.prog.underlying 5=some (.int .u8):=by kernel_rfl
 have hz:(w.alloc<|Obj.cells #[.int .i64 0,.int .i64 0,.string ⟨#[]⟩] 37).heap.size=w.heap.size+1:=sF _;have hz0:(w.alloc<|Obj.cells #[.int .i64 0,.int .i64 0,.string ⟨#[]⟩] 37).heap[w.heap.size]?=some (Obj.cells #[.int .i64 0,.int .i64 0,.string ⟨#[]⟩] 37):=P6;have hconv:=Lib.run_convert_string_bytes (P:=Tryz.prog) (w.alloc<|Obj.cells #[.int .i64 0,.int .i64 0,.string ⟨#[]⟩] 37) 9 201 5 s h9 hB h5;have hst:=Lib.hid<|YS (w.alloc<|Obj.cells #[.int .i64 0,.int .i64 0,.string ⟨#[]⟩] 37) 5 s f<|t- f;have hex:Ext w (w.alloc<|Obj.cells #[.int .i64 0,.int .i64 0,.string ⟨#[]⟩] 37):=(Ext.refl w).alloc _;rw[hz]at hconv;generalize Lib.bytesWorld (w.alloc<|Obj.cells #[.int .i64 0,.int .i64 0,.string ⟨#[]⟩] 37) 5 s=w1 at hconv hst;generalize grownCap (w.alloc<|Obj.cells #[.int .i64 0,.int .i64 0,.string ⟨#[]⟩] 37) s.size 0 5=cp at hconv;have HZ:=Lib.hid hz;have HZ0:=Lib.hid hz0;have HEX:=Lib.hid hex;clear hz hz0 hex
 go_enter Tryz.func175,Tryz.ntmps175
 go_wp2_with fail
 go_loopw [8] (fun i wr=>∃k:Nat,k≤s.size∧i=.int .i64 k∧RowT (w.alloc<|Obj.cells #[.int .i64 0,.int .i64 0,.string ⟨#[]⟩] 37) s f (t- f) k wr) (fun i _=>s.size- (intOf i).toNat)
 case atStart=>exact⟨0,by omega,rfl,hst.out⟩
 case round=>
  obtain⟨k,hk,rfl,hr⟩:=hrel;by_cases hlt:k<s.size
  ·have e1:=hr.cell k hlt;have e2:=hr.fr k hlt;rw[if_neg<|Gq _]at e1;rw[HZ.out]at e1 e2;have HR:=Lib.hid hr;clear hr;generalize hc:lH s k=c at e1;have hc8:=c.toNat_lt
   go_wp2_with fail
   ·refine⟨⟨k+1,by omega,by simp,?_⟩,by simp[intOf];omega⟩;have hst:=HR.out.step hlt (.int .u8 ((ig f (t- f)<|lH s k).toNat:Nat)) rfl;rw[HZ.out]at hst;rename_i h1 h2;have e:(((ig f (t- f)<|lH s k).toNat:Nat):Int)=((c.toNat:Int)- f+t) % 256:=by
     unfold ig;rw[hc,if_pos ⟨h1,by rw[IntKind.wrap_u8];exact h2⟩,zm<|by omega,IntKind.wrap_u8];have h3:(UInt8.ofNat (((c.toNat:Int)+(t- f)) % 256).toNat).toNat=(((c.toNat:Int)+(t- f)) % 256).toNat % 256:=UInt8.toNat_ofNat';rw[h3];omega
    rw[e]at hst;exact hst
   ·refine⟨⟨k+1,by omega,by simp,HR.out.stay ?_⟩,by simp[intOf];omega⟩;unfold ig;rw[hc,if_neg];rintro⟨_,h⟩;rw[IntKind.wrap_u8]at h;omega
   ·refine⟨⟨k+1,by omega,by simp,HR.out.stay ?_⟩,by simp[intOf];omega⟩;unfold ig;rw[hc,if_neg];rintro⟨h,_⟩;omega
  ·have hke:k=s.size:=by omega
   subst hke
   have hback:=run_convert_bytes_back (P:=Tryz.prog) wr 201 9 5 ⟨w.heap.size+1,0,none⟩ cp (s.toList.map (ig f (t- f))) hB h5 h9 (fun j hj=>by
    rw[yy,eK]at hj;have:=hr.cell j hj;rw[if_pos hj]at this;have ea:(⟨w.heap.size+1,0,none⟩:Addr).add j=⟨w.heap.size+1,j,none⟩:=by unfold Addr.add;split<;>simp_all
    rw[HZ.out]at this;rw[ea,this,Ba];congr 4;unfold lH;rw[yf,ya (by rw[iz];exact hj),Gi]
    simp only[ByteArray.toList_eq])
   rw[yy,eK]at hback;have hx:=hr.ext;have HX:=Lib.hid hx;clear hr hx
   go_wp2_with (go_at_call 180;go_loud (refine(axR _ _ (show(fX s f<|t- f).size≤_ by rw[Cz];omega)<|hld.ext<|HEX.out.trans HX.out).mono ?_;rintro e w3 ⟨rfl,h3⟩;have hb:=((HX.out.trans h3).block (by rw[HZ.out];omega)).trans HZ0.out;obtain⟨z0,z1,z2,q0⟩:=E0 hb))
   refine bodyPost_ret (v:=.agg #[.int .i64 3,.int .i64 0,.string<|fX s f<|t- f]) (by unfold results fX;go_simp) rfl ?_;refine⟨rfl,?_⟩;have h5:=HEX.out.trans<|HX.out.trans h3;exact((h5.setCell (by show w.heap.size≤w.heap.size;omega) _).setCell (by show w.heap.size≤w.heap.size;omega) _).setCell (by show w.heap.size≤w.heap.size;omega) _
def axT:aj 175 Pe:=by
 intro args ob rs os h hob;unfold Pe at h;split at h
 ·rename_i x0 x1 x2;simp only[y6,y8,yi]at h;obtain⟨s,e0,f,e1,b,e2,rfl,rfl,rfl⟩:=h;obtain rfl:=cN e0;obtain rfl:=zn e1;obtain rfl:=zn e2;refine⟨?_,zl Tryz.func175 (by kernel_rfl)<|by kernel_rfl⟩;have hr:=hob _<|yl.2 rfl;intro w St vs hbd hvs hld
  match vs,hvs with
  |[v0,v1,v2],⟨h0,h1,h2,_⟩=>
   obtain⟨rfl,hs⟩:=wW h0;obtain⟨rfl,hf⟩:=tf h1;obtain⟨rfl,hb⟩:=tf h2;have hf':0≤f∧f<256:=by have a1:IntKind.u8.min=0:=rfl;have a2:IntKind.u8.max=255:=rfl;omega
   have hb':0≤b∧b<256:=by have a1:IntKind.u8.min=0:=rfl;have a2:IntKind.u8.max=255:=rfl;omega
   refine(axS s f b w hr hf' hb' hld).mono ?_;rintro e w' ⟨rfl,hx⟩;let gg:G:={β:=fun _=>0,lb:=fun _=>False,ω:=fun _ _=>none,tk:=fun _=>(none,0)};exact⟨_,rfl,hx,gg,fun _ h=>h,fun b o x _ h=>by simp[gg]at h,fun b o x h=>by simp[gg]at h,⟨_,rfl,⟨rfl,rfl⟩,⟨rfl,rfl⟩,⟨rfl,oneC_str.2 (by show(fX s f<|b- f).size≤_;rw[Cz];exact hs)⟩,trivial⟩,fun k o h=>by simp at h⟩
 ·simp at h
end B
end Go.Proofs.YtjfpbchdcbhfgaaGreat
