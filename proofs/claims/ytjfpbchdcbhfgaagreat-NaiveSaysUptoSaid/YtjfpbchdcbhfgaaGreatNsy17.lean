/- Part 17 of the proof: Lgrow Sconcv Ldelete Lnlim Lbun Snaivb Lbunch. -/
import Derived.Shelf.Spec.SlicesGrow
import Derived.Shelf.SlicesE.Delete
import Derived.WalkKit
import Derived.Lib.Walk
import Derived.Lib.Hide
import Derived.Deep.LoopGhost
import Derived.Deep.RegionHeld3
import Derived.Deep.AppendLies
import Derived.Deep.QuietTactic
import Derived.BigQuiet
import Derived.Deep.Cut
import Derived.Test.YtjfpbchdcbhfgaaGreatNsy16
set_option linter.unusedVariables false
set_option linter.unusedSimpArgs false
set_option linter.defProp false
set_option maxHeartbeats 8000000
namespace Go.Proofs.YtjfpbchdcbhfgaaGreat
namespace B
open Go Go.RowKit Go.Shelf
set_option maxRecDepth 1000000
set_option linter.unusedVariables false
def abC{g w w' v rs os bxs obs}(hp:Part Tryz.prog En g w bxs obs)(h:pQ Tryz.prog En g.St w w' v rs os)(hlb:∀k,¬g.lb k):rM Tryz.prog En g w w' v rs [] os:=by
 obtain⟨hx,g',hl,ho,hw,hr,hobs⟩:=h;have hnl:∀b o,LB b=true→¬g.mine b o:=fun b o hb ⟨y,hy,e⟩=>hy<|hp.nlb b o y hb e;refine⟨g',⟨hx.os,hx.tape,hx.output,hx.le,fun k hk _=>hx.block hk,fun b o hb _=>hx.cell (p:=⟨b,o,none⟩) hb,fun b o hb _=>hx.stuck (p:=⟨b,o,none⟩) hb,hp.laid.ext hx,fun b hb=>hp.laid.lt b hb,hnl⟩,⟨fun k fz cells hk=>by simp at hk,fun k hk=>absurd hk<|hl k,fun k o hk=>hobs k o hk,hw,hp.laid.ext hx,fun b o x hb e=>(ho b o x (hp.laid.lt b hb) e).1⟩,fun k hk=>absurd hk<|hlb k,fun b o x hb hx=>.inr<|ho b o x hb hx,hr⟩
def auY{St w}{τ:Ty} a(hbd:∀b o,St b o→b<w.heap.size):pQ Tryz.prog En St w w (.slice a 0 0) [.c<|.ob 0 0] [⟨0,τ,[],some 0,true⟩]:=by
 classical
 refine⟨Ext.refl _,⟨fun _=>0,fun _=>False,fun b o=>if St b o then some .st else none,fun _=>(a,0)⟩,fun _ h=>h,?_,?_,?_,?_⟩
 ·intro b o x _ hx;have hx':(if St b o then some Own.st else none)=some x:=hx;split at hx'
  ·rename_i hs;simp at hx';exact⟨hx'.symm,hs⟩
  ·simp at hx'
 ·intro b o x hx;have hx':(if St b o then some Own.st else none)=some x:=hx;split at hx'
  ·rename_i hs;exact hbd b o hs
  ·simp at hx'
 ·exact⟨rfl,_,rfl,y7 _,fun _=>rfl⟩
 ·intro k o ho;cases k with
  |zero=>simp at ho;subst ho;exact⟨⟨⟨⟨y7 _,by simp⟩,fun f hf=>by simp at hf;subst hf;exact y7 _⟩,fun h=>absurd h<|Gq 0⟩,rfl⟩
  |succ k=>simp at ho
def FL(τ:Ty):List Bool×fS Un:=([true,false],fun args bxs os=>match args,bxs,os with
 |[.c<|.sl τ' [] true,.c<|.s<|.int .i64 n],[],[]=>match Un.deq τ' τ with
  | .isTrue _=>some ([0≤n∧n≤1000000000],[.c<|.ob 0 0],[],[⟨0,τ,[],some 0,true⟩])
  | .isFalse _=>none
 |_,_,_=>none)
def abD{ρ}(L:Lays8.n4 Tryz.prog ρ){τ}(hti:Fh (ρ.t 22) (ρ.t 25) τ=true)(hB:dw Tryz.prog (ρ.f 4)):iv (ρ.f 4) (FL τ):=by
 obtain⟨bytes,i0,z,hb,h1',h1,h0,h2,h3,h4,h5,h6⟩:=sg hti;intro args bxs obs ob rs bxs' obs' h hob;unfold FL at h;dsimp only at h;split at h
 ·rename_i τ' n;split at h
  ·rename_i he _;subst he;simp only[y8,yi]at h;obtain⟨rfl,rfl,rfl,rfl⟩:=h;have hn:=hob _<|yl.2 rfl;refine⟨?_,hB⟩;intro w g vals hp hvals
   match vals,hvals with
   |[v0,v1],⟨a0,a1,_⟩=>
    obtain⟨hV,hfull⟩:=a0;obtain⟨a,k,rfl⟩:=hfull rfl;obtain⟨hv1,_⟩:=a1;subst hv1;have hk:k=0:=by
     rcases hV.inv with⟨_,a',c',e⟩|⟨b,o,cap,cv,e,_⟩
     ·simp only[Value.slice.injEq]at e;exact e.2.1
     ·simp only[Value.slice.injEq]at e;exact e.2.1
    subst hk;have hlb:∀k,¬g.lb k:=fun k hk=>by have:=hp.lbs k hk;simp at this
    have hbd:∀b o,g.St b o→b<w.heap.size:=fun b o hs=>hp.own b o _ hs;obtain⟨m,rfl⟩:∃m:Nat,n=(m:Int):=⟨n.toNat,by omega⟩;by_cases hz:m=0
    ·subst hz;refine(Any8.slices_Grow_room L a 0 0 0 w (y7 _) (by omega) (by omega)<|y7 _).mono ?_;rintro e w' ⟨rfl,rfl⟩;exact⟨_,rfl,abC hp (auY a hbd) hlb⟩
    ·refine(Any8.slices_Grow_grow L i0 z h2 h5 (by omega) a 0 0 m [] w (y7 _) (by omega) (by
      have:(0+m)*i0.bytes≤1000000000*100000:=ld (by omega)<|by omega
      omega) (by omega) (by simp) (fun _=>rfl) (fun _ _ j v hj=>by simp at hj)).mono ?_
     rintro e w' ⟨rfl,rfl⟩;obtain⟨cur,hcur⟩:∃cur:Array Value,cur=([]:List Value).toArray++Builtin.zeroCells z.cells (0+m- 0)++Builtin.zeroCells z.cells (grownCap w (0+m) 0 (ρ.t 25)- (0+m)):=⟨_,rfl⟩;rw[←hcur];have hext:Ext w (w.drew.alloc<|.cells cur<|ρ.t 25):=(Ext.refl w).drew.alloc _;have hge:=grownCap_ge w (0+m) 0<|ρ.t 25;have hsz:cur.size=grownCap w (0+m) 0 (ρ.t 25)*sz τ':=by
      rw[hcur];simp only[Array.size_append,List.size_toArray,nN,size_zeroCells,h6];rw[iE,←iA];congr 1;omega
     have hhp:(w.drew.alloc<|.cells cur<|ρ.t 25).heap[w.heap.size]?=some (.cells cur (ρ.t 25) (0,0)):=by
      have:∀(h:Array Obj)(o:Obj),(h.push o)[h.size]?=some o:=fun h o=>by simp
      exact this w.heap _
     exact⟨_,rfl,abC hp (Fg (e:=ρ.t 25) (news:=[]) hext hbd (by simp) ⟨by simp,.inr ⟨w.heap.size,grownCap w (0+m) 0<|ρ.t 25,cur,rfl,y7 _,hhp,yc _,grownCap_le_maxLen w (0+m) 0 _ (by unfold maxLen;omega),hsz,by simp⟩⟩ fun i hi=>absurd hi<|cQ _) hlb⟩
  ·simp at h
 ·simp at h
def auZ:Ren:=⟨fun|4=>182|n=>n,fun|0=>0|3=>3|4=>4|9=>9|20=>20|22=>57|25=>37|n=>n,fun|n=>n⟩
def au0:Lays8.n4 Tryz.prog auZ:={
 mixed:=by kernel_rfl
 f4:=⟨Tryz.f182.name,by kernel_rfl,Tryz.func182.trans<|congrArg some<|by kernel_rfl⟩
 t0:=Tryz.underlying0
 a0:=Tryz.isAgg0
 z0:=Tryz.sizeOf0
 v0:=Tryz.zeroValue0
 t3:=Tryz.underlying3
 a3:=Tryz.isAgg3
 z3:=Tryz.sizeOf3
 v3:=Tryz.zeroValue3
 t4:=Tryz.underlying4
 a4:=Tryz.isAgg4
 z4:=Tryz.sizeOf4
 v4:=Tryz.zeroValue4
 t9:=Tryz.underlying9
 a9:=Tryz.isAgg9
 z9:=Tryz.sizeOf9
 v9:=Tryz.zeroValue9
 t20:=Tryz.underlying20
 a20:=Tryz.isAgg20
 z20:=Tryz.sizeOf20
 v20:=Tryz.zeroValue20
 t22:=Tryz.underlying57
 a22:=Tryz.isAgg57
 z22:=Tryz.sizeOf57
 v22:=Tryz.zeroValue57}
def abE:List Bool×fS Un:=FL .val
def au1:iv 182 abE:=abD au0 (by kernel_rfl)<|zl Tryz.func182 (by kernel_rfl)<|by kernel_rfl
def au2:Ren:=⟨fun|4=>190|n=>n,fun|0=>0|3=>3|4=>4|9=>9|20=>20|22=>27|25=>57|n=>n,fun|n=>n⟩
def au3:Lays8.n4 Tryz.prog au2:={
 mixed:=by kernel_rfl
 f4:=⟨Tryz.f190.name,by kernel_rfl,Tryz.func190.trans<|congrArg some<|by kernel_rfl⟩
 t0:=Tryz.underlying0
 a0:=Tryz.isAgg0
 z0:=Tryz.sizeOf0
 v0:=Tryz.zeroValue0
 t3:=Tryz.underlying3
 a3:=Tryz.isAgg3
 z3:=Tryz.sizeOf3
 v3:=Tryz.zeroValue3
 t4:=Tryz.underlying4
 a4:=Tryz.isAgg4
 z4:=Tryz.sizeOf4
 v4:=Tryz.zeroValue4
 t9:=Tryz.underlying9
 a9:=Tryz.isAgg9
 z9:=Tryz.sizeOf9
 v9:=Tryz.zeroValue9
 t20:=Tryz.underlying20
 a20:=Tryz.isAgg20
 z20:=Tryz.sizeOf20
 v20:=Tryz.zeroValue20
 t22:=Tryz.underlying27
 a22:=Tryz.isAgg27
 z22:=Tryz.sizeOf27
 v22:=Tryz.zeroValue27}
def abF:List Bool×fS Un:=FL .row
def au4:iv 190 abF:=abD au3 (by kernel_rfl)<|zl Tryz.func190 (by kernel_rfl)<|by kernel_rfl
end B
namespace B
open Go Go.RowKit
set_option maxRecDepth 100000
noncomputable section
attribute [local irreducible] aB bk zw br aK b9 aR bu bA
def OI{α:Type}:∀(ls:List (List α))(s:List α),ls.foldl (fun s x=>s++x) s=s++ls.flatten
 |[],s=>by simp
 |x::ls,s=>by rw[yq,OI ls,vq,yw]
def xF:Mc Un:=az [] [] [] [(182,abE)] []
def OJ(r:List Val):RF Un:=([.c<|.ob 0 0],[⟨0,Ty.val,r,some 0,true⟩])
def nd:Nat→NS:=aO [(3,{ts:=bl 36 3593,bs:=bl 36 0,nm:=[],cs:=true}),(11,{ts:=bl 36 234881088,bs:=bl 36 0,nm:=[(.sl 6,144)],cs:=true})] true
def xG(ls:List (List Val))(v0:Int)(v1:Int):S Un:=(st 36 36 145 0 [(0,al .row ls),(3,ai v0),(9,al .row ls),(10,ai (↑ls.length:Int)),(11,ai v1)] [] [])
def xH(ls:List (List Val))(v2:Int)(v3:List Val):S Un:=(st 36 36 145 0 [(6,ao 144),(25,al .row ls),(26,ai (↑ls.length:Int)),(27,ai v2)] [] [(144,some ⟨(0:Nat),Ty.val,v3,some (0:Nat),true⟩)])
def Jj:S Un→Option (EX Un):=aC xF nd Tryz.f138 [1,1,0,1,2,2] 3
def Jk:S Un→Option (EX Un):=aC xF nd Tryz.f138 [1,1,1,1,0,1,2,2] 11
def abG:Exit→S Un→Option (RF Un):=aE xF nd Tryz.f138 [1,1,0,1,2] [.m]
def abH:Exit→S Un→Option (RF Un):=aE xF nd Tryz.f138 [1,1,1,1,0,1,2] [.m]
def abI(ls:List (List Val)):Option (RF Un):=aw xF nd Tryz.f138 1 [.m] [.d<|.v<|.dat (U:=Un) Ty.row ls]
def au5(ls):abI ls=(Jj<|xG ls (0:Int) (0:Int)).bind (zd abG):=ah
def abJ(ls v0 v1):Jj (xG ls v0 v1)=af (decide<|v1<(↑ls.length:Int)) (ae (0≤v1∧v1<(↑ls.length:Int))<|af (decide<|IntKind.i64.wrap (v0+(↑(List.length<|ls.getD v1.toNat []):Int))<0) none<|Jj<|xG ls (IntKind.i64.wrap<|v0+(↑(List.length<|ls.getD v1.toNat []):Int))<|IntKind.i64.wrap<|v1+1) (some (.exit 0,(xG ls v0 v1))):=aF
def au6(ls v0 v1):abG (.exit 0) (xG ls v0 v1)=ae (0≤v0∧v0≤1000000000) ((Jk<|xH ls (0:Int)<|[]).bind<|zd abH):=ah
def abK(ls v2 v3):Jk (xH ls v2 v3)=af (decide<|v2<(↑ls.length:Int)) (ae (0≤v2∧v2<(↑ls.length:Int))<|ae ((v3.length+List.length (ls.getD v2.toNat []))*(32:Nat)≤ze)<|Jk<|xH ls (IntKind.i64.wrap<|v2+1)<|v3++ls.getD v2.toNat []) (some (.exit 2,(xH ls v2 v3))):=aF
def au7(ls v2 v3):abH (.exit 2) (xH ls v2 v3)=some (OJ v3):=ah
def o6(ls:List (List Val)):List Val:=ls.flatten
def au8(ls:List (List Val))(hl:WL .row ls)(h:ls.flatten.length≤1000000000):abI ls=some (OJ (o6 ls)):=by
 obtain⟨n,hn⟩:∃n,n=ls.flatten.length:=⟨_,rfl⟩
 obtain⟨lp,h0⟩:=zy (e:=.exit 0) (L:=Jj) (st:=fun(s:Int) i=>xG ls s i) (l:=ls) (d:=[]) (g:=fun s x=>s+(x.length:Int)) (fun i s=>0≤s∧s+((ls.drop i).flatten.length:Int)=(n:Int)) hl.len
  (fun s i x hi hx hI=>by
   have hd:=vK (d:=[]) (l:=ls) (i:=i) (by omega);rw[hx]at hd;obtain⟨i1,i2⟩:0≤s∧s+((ls.drop i).flatten.length:Int)=(n:Int):=hI;rw[hd,vq,yb]at i2;refine⟨⟨by omega,by omega⟩,?_⟩;rw[abJ];simp only[z8,hi,decide_true,if_true,and_true,y5,hx]
   rw[zm (by omega:(-9223372036854775808:Int)≤s+(x.length:Int)∧s+(x.length:Int)≤9223372036854775807),z6 (by omega),if_neg (by grind)])
  (fun s _=>by rw[abJ];simp[z8]) 0 ⟨pJ _,by grind⟩
 obtain⟨lq,_⟩:=zy (e:=.exit 2) (L:=Jk) (st:=fun(s:List Val) i=>xH ls i s) (l:=ls) (d:=[]) (g:=fun s x=>s++x) (fun i s=>s.length+(ls.drop i).flatten.length=n) hl.len
  (fun s i x hi hx hI=>by
   have hd:=vK (d:=[]) (l:=ls) (i:=i) (by omega);rw[abK];simp only[z8,hi,decide_true,if_true,and_true,y5,hx]
   grind[z6,ze])
  (fun s _=>by rw[abK];simp[z8]) [] (by grind)
 rw[OI,yr]at lq;rw[au5];refine(zf lp).trans ?_;rw[au6,z6 (by omega)];refine(zf lq).trans ?_;rw[au7];rfl
def abL:au Un:=aQ (dL .row) fun ls=>([ls.flatten.length≤1000000000],OJ<|o6 ls)
def au9:aj 138 abL:=aU zi (M:=xF) (h4:=⟨au1,trivial⟩) rfl trivial Tryz.func138 fun ls=>GiF.r fun w o=>au8 ls (am w 0)<|aA o 0
def xI:Mc Un:=az [] [] [] [(190,abF)] []
def xJ(ls:List (List<|List Val))(v0:Int)(v1:Int):S Un:=(st 36 36 145 0 [(0,al .rowss ls),(3,ai v0),(9,al .rowss ls),(10,ai (↑ls.length:Int)),(11,ai v1)] [] [])
def xK(ls:List (List<|List Val))(v2:Int)(v3:List (List Val)):S Un:=(st 36 36 145 0 [(6,ao 144),(25,al .rowss ls),(26,ai (↑ls.length:Int)),(27,ai v2)] [] [(144,some ⟨(0:Nat),Ty.row,v3,some (0:Nat),true⟩)])
def Jl:S Un→Option (EX Un):=aC xI nd Tryz.f143 [1,1,0,1,2,2] 3
def Jm:S Un→Option (EX Un):=aC xI nd Tryz.f143 [1,1,1,1,0,1,2,2] 11
def abM:Exit→S Un→Option (RF Un):=aE xI nd Tryz.f143 [1,1,0,1,2] [.m]
def abN:Exit→S Un→Option (RF Un):=aE xI nd Tryz.f143 [1,1,1,1,0,1,2] [.m]
def abO(ls:List (List<|List Val)):Option (RF Un):=aw xI nd Tryz.f143 1 [.m] [.d<|.v<|.dat (U:=Un) Ty.rowss ls]
def ava(ls):abO ls=(Jl<|xJ ls (0:Int) (0:Int)).bind (zd abM):=ah
def abP(ls v0 v1):Jl (xJ ls v0 v1)=af (decide<|v1<(↑ls.length:Int)) (ae (0≤v1∧v1<(↑ls.length:Int))<|af (decide<|IntKind.i64.wrap (v0+(↑(List.length<|ls.getD v1.toNat []):Int))<0) none<|Jl<|xJ ls (IntKind.i64.wrap<|v0+(↑(List.length<|ls.getD v1.toNat []):Int))<|IntKind.i64.wrap<|v1+1) (some (.exit 0,(xJ ls v0 v1))):=aF
def avb(ls v0 v1):abM (.exit 0) (xJ ls v0 v1)=ae (0≤v0∧v0≤1000000000) ((Jm<|xK ls (0:Int)<|[]).bind<|zd abN):=ah
def abQ(ls v2 v3):Jm (xK ls v2 v3)=af (decide<|v2<(↑ls.length:Int)) (ae (0≤v2∧v2<(↑ls.length:Int))<|ae ((v3.length+List.length (ls.getD v2.toNat []))*(24:Nat)≤ze)<|Jm<|xK ls (IntKind.i64.wrap<|v2+1)<|v3++ls.getD v2.toNat []) (some (.exit 2,(xK ls v2 v3))):=aF
def avc(ls v2 v3):abN (.exit 2) (xK ls v2 v3)=some (aW v3):=ah
def xL(ls:List (List<|List Val)):List (List Val):=ls.flatten
def avd(ls:List (List (List Val)))(hl:WL .rowss ls)(h:ls.flatten.length≤1000000000):abO ls=some (aW (xL ls)):=by
 obtain⟨n,hn⟩:∃n,n=ls.flatten.length:=⟨_,rfl⟩
 obtain⟨lp,h0⟩:=zy (e:=.exit 0) (L:=Jl) (st:=fun(s:Int) i=>xJ ls s i) (l:=ls) (d:=[]) (g:=fun s x=>s+(x.length:Int)) (fun i s=>0≤s∧s+((ls.drop i).flatten.length:Int)=(n:Int)) hl.len
  (fun s i x hi hx hI=>by
   have hd:=vK (d:=[]) (l:=ls) (i:=i) (by omega);rw[hx]at hd;obtain⟨i1,i2⟩:0≤s∧s+((ls.drop i).flatten.length:Int)=(n:Int):=hI;rw[hd,vq,yb]at i2;refine⟨⟨by omega,by omega⟩,?_⟩;rw[abP];simp only[z8,hi,decide_true,if_true,and_true,y5,hx]
   rw[zm (by omega:(-9223372036854775808:Int)≤s+(x.length:Int)∧s+(x.length:Int)≤9223372036854775807),z6 (by omega),if_neg (by grind)])
  (fun s _=>by rw[abP];simp[z8]) 0 ⟨pJ _,by grind⟩
 obtain⟨lq,_⟩:=zy (e:=.exit 2) (L:=Jm) (st:=fun(s:List (List Val)) i=>xK ls i s) (l:=ls) (d:=[]) (g:=fun s x=>s++x) (fun i s=>s.length+(ls.drop i).flatten.length=n) hl.len
  (fun s i x hi hx hI=>by
   have hd:=vK (d:=[]) (l:=ls) (i:=i) (by omega);rw[abQ];simp only[z8,hi,decide_true,if_true,and_true,y5,hx]
   grind[z6,ze])
  (fun s _=>by rw[abQ];simp[z8]) [] (by grind)
 rw[OI,yr]at lq;rw[ava];refine(zf lp).trans ?_;rw[avb,z6 (by omega)];refine(zf lq).trans ?_;rw[avc];rfl
def abR:au Un:=aQ (dL .rowss) fun ls=>([ls.flatten.length≤1000000000],aW<|xL ls)
def ave:aj 143 abR:=aU zi (M:=xI) (h4:=⟨au4,trivial⟩) rfl trivial Tryz.func143 fun ls=>GiF.r fun w o=>avd ls (am w 0)<|aA o 0
end
end B
namespace B
open Go Go.RowKit Go.Shelf Go.Sort Go.Lib
set_option maxRecDepth 1000000
set_option linter.unusedVariables false
abbrev OV:Type:={v:Value//v.oneCell'=true}
instance:Inhabited OV:=⟨⟨.slice none 0 0,rfl⟩⟩
def ObAt.rowsHold{g w k ver live}{xs:List (List Val)}{b off cap cv}(hA:ObAt En g w k ⟨ver,.row,xs,some 0,live⟩ b off cap cv):
 ∃cl:List OV,cl.length=xs.length∧Holds (fun a:OV=>a.1) w b off cl.toArray∧All2 (fun(a:OV) x=>VRel En g.St w a.1<|.dat (U:=Un) Ty.val x) cl xs:=by
 have hcl:∀i(hi:i<xs.length),w.cell? ⟨b,off+i,none⟩=some (cv i 0)∧w.frozen? ⟨b,off+i,none⟩=false∧VRel En g.St w (cv i 0) (.dat (U:=Un) Ty.val xs[i]):=fun i hi=>by
  have hc:=hA.cell i 0 hi<|show(0:Nat)<1 from Nat.one_pos;have hr:=hA.rel i hi 0 (.dat (U:=Un) Ty.val xs[i]) rfl;have e:off+i*Un.sz Ty.row+0=off+i:=by show off+i*1+0=off+i;omega
  rw[e]at hc;exact⟨hc.1,yQ (hc.2.2<|yc _).2,hr⟩
 have h1:∀q:Fin xs.length,(cv q.1 0).oneCell'=true:=fun q=>by
  obtain⟨a,n,c,e⟩:=aa1 (hcl q.1 q.2).2.2;rw[e];rfl
 refine⟨(List.finRange xs.length).map fun q=>⟨cv q.1 0,h1 q⟩,by simp,fun j hj=>?_,All2.of_get (by simp) fun i a x ha hx=>?_⟩
 ·have hj':j<xs.length:=by simpa using hj
  rw[getElem!_pos _ j hj];have:=hcl j hj';simp only[List.getElem_toArray,Ba,y4u];exact⟨this.1,this.2.1⟩
 ·have hi:i<xs.length:=(ym.1 hx).1;rw[dn,ya<|by simpa using hi]at ha;simp only[iD,y8,y4u]at ha;subst ha;rw[ya hi]at hx;obtain rfl:=yg hx;exact(hcl i hi).2.2
def avf{ρ:Ren}(L:SlLaysE.n45 Tryz.prog ρ)(v23:∀w,(zeroValue<|ρ.t 23).run Tryz.prog w=.ok (.slice none 0 0) w)(i0:TypeInfo)(hi0:Tryz.prog.info? (ρ.t 23)=some i0)(hz1:i0.size=1)(blk off cap i j:Nat)(d:Array OV)(w:World)(hH:Holds (fun a:OV=>a.1) w blk off d)(hcap:d.size≤cap)(hlt:i<j)(hj:j≤d.size):
 Calls Tryz.prog (ρ.f 45) #[.slice (some ⟨blk,off,none⟩) d.size cap,.int .i64 i,.int .i64 j] w fun e w'=>e=.returned (.slice (some ⟨blk,off,none⟩) (d.size- (j- i)) cap)∧∃q,w'=putRow (fun a:OV=>a.1) (Sort.ahead w q) blk off (d.toList.take i++d.toList.drop j++List.replicate (j- i) default).toArray:=by
 have mixed:=L.mixed;have t0:=L.t0;have a0:=L.a0;have z0:=L.z0;have v0:=L.v0;have t3:=L.t3;have a3:=L.a3;have z3:=L.z3;have v3:=L.v3;have t4:=L.t4;have a4:=L.a4;have z4:=L.z4;have v4:=L.v4;have t22:=L.t22;have a22:=L.a22;have z22:=L.z22;have v22:=L.v22;have a23:=L.a23;have z23:=L.z23;obtain⟨ec,hec⟩:∃ec:OV→Value,ec=fun a:OV=>a.1:=⟨_,rfl⟩;have h1:OneCell ec:=by rw[hec];exact fun a=>a.2
 have hdf:ec default=.slice none 0 0:=by rw[hec];rfl
 rw[←hec]at hH ⊢;rw[←hdf]at v23;obtain⟨news,hnews⟩:∃news,news=(d.toList.drop j).map ec:=⟨_,rfl⟩;have hlen:news.length=d.size- j:=by rw[hnews];simp
 have hget:∀t,t<d.size- j→news[t]?=some (ec d[j+t]!):=by
  intro t ht;rw[hnews,dn,mg,nO,getElem!_pos d (j+t)<|by omega,sD<|by omega];rfl
 obtain⟨A,hA,hsrc⟩:∃A:Addr,(if cap=j then some (⟨blk,off,none⟩:Addr)else some ⟨blk,off+j,none⟩)=some A∧Hid (∀t u,news[t]?=some u→w.drew.cell? (A.add t)=some u):=by
  by_cases h:cap=j
  ·refine⟨⟨blk,off,none⟩,by simp[h],fun t u hu=>?_⟩;have h0:news.length=0:=by rw[hlen];omega
   rw[y47.1 h0]at hu;simp at hu
  ·refine⟨⟨blk,off+j,none⟩,by simp[h],fun t u hu=>?_⟩;have ht:t<d.size- j:=by
    have:=(ym.1 hu).1;rwa[hlen]at this
   rw[hget t ht]at hu;rw[Addr.add_lit,show off+j+t=off+(j+t) by omega];exact(hH (j+t)<|by omega).1.trans hu
 have s1:Hid (news.length=(d.size- j)*1):=by rw[Qd];exact hlen
 have s2:Hid (∀u∈news,u.oneCell'=true):=by
  intro u hu;rw[hnews]at hu;obtain⟨x,_,rfl⟩:=y2a.1 hu;exact h1 x
 have s3:Hid (∀t,t<news.length→(w.drew.cell? ⟨blk,off+i*1+t,none⟩).isSome=true∧w.drew.frozen? ⟨blk,off+i*1+t,none⟩=false):=by
  intro t ht;rw[hlen]at ht;rw[Qd,fa];exact⟨by show(w.cell? _).isSome=true;rw[(hH (i+t)<|by omega).1];rfl,(hH (i+t)<|by omega).2⟩
 obtain⟨W1,hW1⟩:∃W1,W1=w.drew.setCells blk (off+i*1) news:=⟨_,rfl⟩;have hW1':W1=putRow ec (Sort.ahead w 1) blk off (Go.Lib.lay d i<|d.toList.drop j):=by
  rw[hW1,hnews,Qd,←putRow_setCells ec (Sort.ahead w 1) blk off _ d i (by simp;omega),putRow_self ec (Sort.ahead w 1) blk off d<|holds_ahead ec w 1 blk off d hH];rfl
 have hH1:Holds ec W1 blk off (Go.Lib.lay d i<|d.toList.drop j):=by rw[hW1'];exact holds_putRow ec _ blk off d _ (holds_ahead ec w 1 blk off d hH)<|lay_size _ _ _
 have hcl:∀ty,(Builtin.clear_ #[ρ.t 22] ty #[.slice (some ⟨blk,off+(i+(d.size- j)),none⟩) (d.size- (i+(d.size- j)))<|cap- (i+(d.size- j))]).run Tryz.prog W1=.ok (.tuple #[]) (W1.setCells blk (off+(i+(d.size- j)))<|List.replicate (d.size- (i+(d.size- j)))<|ec default):=
  fun ty=>Lib.run_clear_slice W1 _ _ ty _ t22 v23 (h1.cells default) (h1 default) blk (off+(i+(d.size- j))) _ _ (by omega) (fun t ht=>by rw[show off+(i+(d.size- j))+t=off+(i+(d.size- j)+t) by omega,(hH1 _ (by rw[lay_size];omega)).1];rfl) (fun t ht=>by rw[show off+(i+(d.size- j))+t=off+(i+(d.size- j)+t) by omega];exact(hH1 _ (by rw[lay_size];omega)).2)
 have X:Aside (W1=putRow ec (Sort.ahead w 1) blk off (Go.Lib.lay d i<|d.toList.drop j)):=hW1';have hW:Hid (W1=w.drew.setCells blk (off+i*1) news):=hW1;have hic:i≤cap:=by omega
 have hjc:j≤cap:=by omega
 clear hW1 hW1' hH1 hH hget hnews hlen hec hdf;obtain⟨_,_,FG⟩:=L.f45
 go_enter FG,SlBodyN.n45_ntmps ρ
 go_wp2_with fail
 go_region_law_o (refine step_append_room rfl (.tmp 22) (.tmp 25) (ρ.t 22) rfl (ρ.t 23) i0 1 t22 hi0 hz1 blk off i cap (by simp[Act.eval,Act.put]) A (d.size- j) (cap- j) news (by simp[Act.eval,Act.put]) s1.out hsrc.out s2.out (by omega) s3.out ?_;rw[←hW.out])
 go_wp2
 go_ret;refine⟨by rw[show d.size- (j- i)=i+(d.size- j) by omega];rfl,1,?_⟩;rw[←delete_arr d i j default (by omega) hj,←putRow_setCells ec _ blk off _ _ (i+(d.size- j)) (by rw[lay_size];simp;omega),←X.out,List.map_replicate,show d.size- (i+(d.size- j))=j- i by omega]
def avg:Ren:=⟨fun|45=>144|n=>n,fun|0=>0|3=>3|4=>4|22=>27|23=>57|n=>n,fun|n=>n⟩
def avh:SlLaysE.n45 Tryz.prog avg:={
 mixed:=by kernel_rfl
 f45:=⟨Tryz.f144.name,by kernel_rfl,Tryz.func144.trans<|congrArg some<|by kernel_rfl⟩
 t0:=Tryz.underlying0
 a0:=Tryz.isAgg0
 z0:=Tryz.sizeOf0
 v0:=Tryz.zeroValue0
 t3:=Tryz.underlying3
 a3:=Tryz.isAgg3
 z3:=Tryz.sizeOf3
 v3:=Tryz.zeroValue3
 t4:=Tryz.underlying4
 a4:=Tryz.isAgg4
 z4:=Tryz.sizeOf4
 v4:=Tryz.zeroValue4
 t22:=Tryz.underlying27
 a22:=Tryz.isAgg27
 z22:=Tryz.sizeOf27
 v22:=Tryz.zeroValue27
 a23:=Tryz.isAgg57
 z23:=Tryz.sizeOf57}
def Q5:List Bool×fS Un:=([true],fun args bxs os=>match args,bxs,os with
 |[.c<|.ob 0 0,x1,x2],[],[o]=>(oM .row o).bind fun xs=>(aI .i64 x1).bind fun i=>(aI .i64 x2).bind fun j=>some ([0≤i∧i<j∧j≤(xs.length:Int)],[.c<|.ob 0 0],[],[⟨0,.row,xs.take i.toNat++xs.drop j.toNat,some 0,true⟩])
 |_,_,_=>none)
def avi:iv 144 Q5:=by
 intro args bxs obs ob rs bxs' obs' h hob;unfold Q5 at h;dsimp only at h;split at h
 ·rename_i x1 x2 o;simp only[y6,y8,yi]at h;obtain⟨xs,e0,i,e1,j,e2,rfl,rfl,rfl,rfl⟩:=h;obtain rfl:=DT e0;obtain rfl:=zL e1;obtain rfl:=zL e2;obtain⟨hi0,hij,hj⟩:=hob _ (yl.2 rfl);refine⟨?_,zl Tryz.func144 (by kernel_rfl) (by kernel_rfl)⟩;obtain⟨i,rfl⟩:∃k:Nat,i=k:=⟨i.toNat,(Gr hi0).symm⟩;obtain⟨j,rfl⟩:∃k:Nat,j=k:=⟨j.toNat,(Gr (by omega)).symm⟩;rw[y5,y5];intro w g vals hp hvals
  match vals,hvals with
  |[v0,v1,v2],⟨h0,h1,h2,_⟩=>
   obtain⟨_,o',ho',_,hv⟩:=h0;simp at ho';subst ho';have hv:v0=.slice (g.tk 0).1 xs.length (g.tk 0).2:=hv rfl;subst hv;obtain rfl:v1=.int .i64 i:=h1.1;obtain rfl:v2=.int .i64 j:=h2.1;obtain⟨hO,_⟩:=hp.obs 0 _ rfl;have hpos:0<xs.length:=by omega
   have hne:xs≠[]:=y21.1 hpos;obtain⟨b,off,htk,hcap,hA⟩:=hO.open1 hne;have hmax:xs.length≤9223372036854775807:=hO.1.1.2;have hb:b<w.heap.size:=vz (hA.cell 0 0 hpos (show(0:Nat)<1 from Nat.one_pos)).1;have h0:(g.tk 0).1=some ⟨b,off,none⟩:=by rw[htk]
   have hmine:∀x,x<(g.tk 0).2→g.ω b (off+x)=some (.obj 0):=fun x hx=>by
    rcases yk x xs.length with g1|g1
    ·have hc:=(hA.cell x 0 g1 (show(0:Nat)<1 from Nat.one_pos)).2.2 (yc _);have e:off+x*Un.sz Ty.row+0=off+x:=by show off+x*1+0=off+x;omega
     rw[e]at hc;exact hc.1
    ·exact(hA.spare rfl x (by show xs.length*1≤x;omega) (by show x<_*1;omega)).1
   obtain⟨cl,hcl,hH,hR⟩:=hA.rowsHold;obtain⟨bytes,i0,z,_,_,_,_,hi2,hi3,_⟩:=sg (t:=27) (e:=57) (τ:=.row) (by kernel_rfl);rw[h0];have hsz:cl.toArray.size=xs.length:=by simp[hcl]
   rw[←hsz];refine(avf avh Tryz.zeroValue57 i0 hi2 hi3 b off (g.tk 0).2 i j cl.toArray w hH (by omega) (by omega) (by omega)).mono ?_;rintro e w' ⟨rfl,q,rfl⟩;obtain⟨us,hus⟩:∃us:List OV,us=cl.take i++cl.drop j++List.replicate (j- i) default:=⟨_,rfl⟩;have hul:us.length=xs.length:=by rw[hus];simp[hcl];omega
   have hp2:=aaZ (n:=q) (os:=#[]) hb hH (d:=us.toArray) (by simp[hul,hcl]);rw[grow_empty]at hp2;have e1:(cl.toArray.toList.take i++cl.toArray.toList.drop j++List.replicate (j- i) default).toArray=us.toArray:=by rw[hus]
   rw[e1];generalize putRow (fun a:OV=>a.1) (Sort.ahead w q) b off us.toArray=w' at hp2 ⊢;have hyl:(xs.take i++xs.drop j).length=xs.length- (j- i):=by simp only[yb,yn,yt];omega
   have hRy:All2 (fun(a:OV) x=>VRel En g.St w a.1 (.dat (U:=Un) Ty.val x)) (cl.take i++cl.drop j) (xs.take i++xs.drop j):=All2.append (All2.take i hR) (All2.drop j hR);have e2:(us.toArray.toList.map fun a:OV=>a.1)=us.map fun a:OV=>a.1:=by simp
   rw[e2]at hp2;have hul2:(us.map fun a:OV=>a.1).length=xs.length:=by rw[yy,hul]
   obtain⟨r1,r2⟩:=ObRel.put (w':=w') (ys:=xs.take i++xs.drop j) (τ:=.row) rfl htk hb hp.own hA hp2 hul2 (by omega) hcap hmax (fun t ht d hd=>by
    have hd':some (V.dat (U:=Un) Ty.val (xs.take i++xs.drop j)[t])=some d:=hd;cases hd';obtain⟨a,ha,hr⟩:=All2.get (l:=cl.take i++cl.drop j) t hRy (ya ht);refine⟨a.1,?_,hr⟩
    rw[dn,hus,d7 (ym.1 ha).1,ha];rfl)
   have hnl:∀b o,LB b=true→¬g.mine b o:=fun b o hb ⟨y,hy,e⟩=>hy (hp.nlb b o y hb e);have hfx:FExt ⟨w,g.mine,g.St,0,g.β⟩ w':=FExt.put (fr:=⟨w,g.mine,g.St,0,g.β⟩) hp2 (fun t ht=>⟨_,by simp,hmine t (by omega)⟩) (by omega) hp.laid hnl;refine⟨_,rfl,g,hfx,⟨fun k fz cells hk'=>by simp at hk',hp.lbs,fun k o ho=>?_,fun b' o x hx=>yu (hp.own b' o x hx) hp2.size,hfx.laid,hp.nlb⟩,fun _ _=>rfl,fun b' o x _ hx=>?_,?_⟩
   ·cases k with
    |zero=>simp at ho;subst ho;exact⟨r1,rfl⟩
    |succ k=>simp at ho
   ·cases x with
    |st=>exact .inr ⟨rfl,hx⟩
    |box k=>exact .inl ⟨_,by simp,hx⟩
    |obj k=>exact .inl ⟨_,by simp,hx⟩
   ·refine⟨rfl,_,rfl,y7 _,fun _=>?_⟩;show Value.slice _ _ _=Value.slice (g.tk 0).1 (xs.take i++xs.drop j).length (g.tk 0).2;rw[h0,hyl,hsz]
 ·simp at h
end B
namespace B
open Go Go.RowKit Go.Shelf
set_option maxRecDepth 1000000
set_option linter.unusedVariables false
noncomputable section
def avj(b off n c k:Nat)(limit skip:Int)(w:World)(hnc:n≤c)(hn:n≤100000000)(hk:k=(min skip n).toNat)(hl:WI limit)(hs:WI skip):
 Calls Tryz.prog 94 #[.slice (some ⟨b,off,none⟩) n c,.int .i64 limit,.int .i64 skip] w fun e w'=>e=.returned (.slice (some ⟨b,if c=k then off else off+k,none⟩) (if 0≤limit∧limit<((n- k:Nat):Int)then limit.toNat else n- k)<|c- k)∧w'=w:=by
 have mixed:Tryz.prog.follows .mixedOrders=true:=by kernel_rfl
 have hkn:k≤n:=by omega
 have hmx:(max 0<|min skip (n:Int)).toNat=k:=by omega
 clear hk
 go_enter Tryz.func94,Tryz.ntmps94
 go_wp2
 all_goals(go_ret;exact⟨rfl,rfl⟩)
def avk(a:Option Addr)(limit skip:Int)(w:World)(hl:WI limit)(hs:WI skip):
 Calls Tryz.prog 94 #[.slice a 0 0,.int .i64 limit,.int .i64 skip] w fun e w'=>e=.returned (.slice a 0 0)∧w'=w:=by
 have mixed:Tryz.prog.follows .mixedOrders=true:=by kernel_rfl
 have hmx:(max 0<|min skip (0:Int)).toNat=0:=by omega
 have hmy:max 0 (min skip (0:Int))=0:=by omega
 cases a with
 |none=>
  go_enter Tryz.func94,Tryz.ntmps94
  go_wp2
  all_goals(go_ret;exact⟨rfl,rfl⟩)
 |some p=>
  go_enter Tryz.func94,Tryz.ntmps94
  go_wp2
  all_goals(go_ret;exact⟨rfl,rfl⟩)
def abS(xs:Rows) limit skip:im xs limit skip=(xs.drop (min skip xs.length).toNat).take (if 0≤limit∧limit<((xs.length- (min skip xs.length).toNat:Nat):Int)then limit.toNat else xs.length- (min skip xs.length).toNat):=by
 unfold im;rw[yt];split
 ·rfl
 ·rw[vm (by rw[yt];exact y7 _)]
theorem ObRel.part{g w}{xs:Rows}{b off c k m}(htk:g.tk 0=(some ⟨b,off,none⟩,c))(hO:ObRel En g w 0 ⟨0,.row,xs,some 0,true⟩)(hk:k≤xs.length)(hm:m≤xs.length- k):
 ObRel En {g with tk:=fun q=>if q=0 then(some ⟨b,if c=k then off else off+k,none⟩,c- k)else g.tk q} w 0 ⟨0,.row,(xs.drop k).take m,some 0,true⟩:=by
 obtain⟨⟨⟨hcap,hmax⟩,_⟩,hrow⟩:=hO;have hcap':xs.length≤c:=by rw[htk]at hcap;exact hcap
 have hmax':xs.length≤9223372036854775807:=hmax;have hlen:((xs.drop k).take m).length=m:=by rw[yn,yt];omega
 refine⟨⟨⟨by show((xs.drop k).take m).length≤c- k;omega,by show((xs.drop k).take m).length≤_;omega⟩,fun f hf=>by simp at hf;subst hf;exact yc _⟩,fun hc=>?_⟩;have hc':0<c- k:=hc;obtain⟨b',off',cv,hbase,hA⟩:=hrow (by rw[htk];show 0<c;omega);rw[htk]at hbase hA;have hbase':some (⟨b,off,none⟩:Addr)=some ⟨b',off',none⟩:=hbase;simp only[y8,Addr.mk.injEq,and_true]at hbase';obtain⟨rfl,rfl⟩:=hbase';refine⟨b,off+k,fun i j=>cv (k+i) j,by show(some (⟨b,if c=k then off else off+k,none⟩:Addr))=_;rw[if_neg<|by omega],⟨fun i j hi hj=>?_,fun i hi j d hd=>?_,fun hl x hx hx'=>?_⟩⟩
 ·have hi':i<((xs.drop k).take m).length:=hi;have:=hA.cell (k+i) j (show k+i<xs.length by omega) hj;have e:off+k+i*Un.sz Ty.row+j=off+(k+i)*Un.sz Ty.row+j:=by show off+k+i*1+j=off+(k+i)*1+j;omega
  show w.cell? ⟨b,off+k+i*Un.sz Ty.row+j,none⟩=_∧_;rw[e];exact⟨this.1,fun h=>absurd h<|cQ _,fun _=>this.2.2<|yc _⟩
 ·have hi':i<((xs.drop k).take m).length:=hi;refine hA.rel (k+i) (show k+i<xs.length by omega) j d ?_;have e:(xs[k+i]'(by omega))=((xs.drop k).take m)[i]'hi':=by simp
  rw[show((⟨0,Ty.row,xs,some 0,true⟩:Ob Un).xs[k+i]'(show k+i<xs.length by omega))=((xs.drop k).take m)[i]'hi' from e];exact hd
 ·have hx1:((xs.drop k).take m).length*1≤x:=hx;have hx2:x<(c- k)*1:=hx';have e:off+k+x=off+(k+x):=by omega
  rw[e];rcases yk (k+x) xs.length with g1|g1
  ·have hc:=hA.cell (k+x) 0 g1<|show(0:Nat)<1 from Nat.one_pos;have e:off+(k+x)*Un.sz Ty.row+0=off+(k+x):=by show off+(k+x)*1+0=_;omega
   rw[e]at hc;exact⟨(hc.2.2<|yc _).1,⟨_,hc.1⟩,(hc.2.2<|yc _).2⟩
  ·exact hA.spare rfl (k+x) (show xs.length*1≤k+x by omega)<|show k+x<c*1 by omega
def Q6:List Bool×fS Un:=([true],fun args bxs os=>match args,bxs,os with
 |[.c<|.ob 0 0,x1,x2],[],[o]=>(oM .row o).bind fun xs=>(aI .i64 x1).bind fun i=>(aI .i64 x2).bind fun j=>some ([xs.length≤100000000],[.c<|.ob 0 0],[],[⟨0,.row,im xs i j,some 0,true⟩])
 |_,_,_=>none)
def avl:iv 94 Q6:=by
 intro args bxs obs ob rs bxs' obs' h hob;unfold Q6 at h;dsimp only at h;split at h
 ·rename_i x1 x2 o;simp only[y6,y8,yi]at h;obtain⟨xs,e0,limit,e1,skip,e2,rfl,rfl,rfl,rfl⟩:=h;obtain rfl:=DT e0;obtain rfl:=zL e1;obtain rfl:=zL e2;have hlen:xs.length≤100000000:=hob _ (yl.2 rfl);refine⟨?_,zl Tryz.func94 (by kernel_rfl) (by kernel_rfl)⟩;intro w g vals hp hvals
  match vals,hvals with
  |[v0,v1,v2],⟨h0,h1,h2,_⟩=>
   obtain⟨_,o',ho',_,hv⟩:=h0;simp at ho';subst ho';have hv:v0=.slice (g.tk 0).1 xs.length (g.tk 0).2:=hv rfl;subst hv;have w1:WI limit:=by have:=h1.2;unfold bH at this;exact of_decide_eq_true this
   have w2:WI skip:=by have:=h2.2;unfold bH at this;exact of_decide_eq_true this
   obtain rfl:v1=.int .i64 limit:=h1.1;obtain rfl:v2=.int .i64 skip:=h2.1;obtain⟨hO,_⟩:=hp.obs 0 _ rfl;have hcap:xs.length≤(g.tk 0).2:=hO.1.1.1;have hnl:∀b o,LB b=true→¬g.mine b o:=fun b o hb ⟨y,hy,e⟩=>hy (hp.nlb b o y hb e);have hfx:FExt ⟨w,g.mine,g.St,0,g.β⟩ w:=⟨rfl,rfl,rfl,y7 _,fun _ _ _=>rfl,fun _ _ _ _=>rfl,fun _ _ _ _=>rfl,hp.laid,fun b hb=>hp.laid.lt b hb,hnl⟩;by_cases hc:(g.tk 0).2=0
   ·have hx:xs=[]:=yx (by omega);subst hx;have hn:im [] limit skip=[]:=by rw[abS];simp
    rw[hn,hc];refine(avk (g.tk 0).1 limit skip w w1 w2).mono ?_;rintro e w' ⟨rfl,rfl⟩;refine⟨_,rfl,g,hfx,hp,fun _ _=>rfl,fun b o x _ hx=>?_,?_⟩
    ·cases x with
     |st=>exact .inr ⟨rfl,hx⟩
     |box k=>exact .inl ⟨_,by simp,hx⟩
     |obj k=>exact .inl ⟨_,by simp,hx⟩
    ·exact⟨rfl,_,rfl,y7 _,fun _=>by rw[hc];rfl⟩
   ·obtain⟨b,off,cv,hbase,_⟩:=hO.2 (by omega);obtain⟨c,hcc⟩:∃c,c=(g.tk 0).2:=⟨_,rfl⟩;have htk:g.tk 0=(some ⟨b,off,none⟩,c):=by rw[hcc,←hbase]
    rw[←hcc]at hc hcap;rw[htk];obtain⟨k,hk⟩:∃k,k=(min skip xs.length).toNat:=⟨_,rfl⟩;obtain⟨m,hm⟩:∃m,m=(if 0≤limit∧limit<((xs.length- k:Nat):Int)then limit.toNat else xs.length- k):=⟨_,rfl⟩;have hkn:k≤xs.length:=by omega
    have hmn:m≤xs.length- k:=by rw[hm];split<;>omega
    have hnl2:im xs limit skip=(xs.drop k).take m:=by rw[abS,hm,hk]
    have hln:((xs.drop k).take m).length=m:=by rw[yn,yt];omega
    rw[hnl2];have hO2:=ObRel.part htk hO hkn hmn;refine(avj b off xs.length c k limit skip w hcap hlen hk w1 w2).mono ?_;rintro e w' ⟨rfl,rfl⟩;rw[←hm];obtain⟨g',hg'⟩:∃g':G,g'={g with tk:=fun q=>if q=0 then(some ⟨b,if c=k then off else off+k,none⟩,c- k)else g.tk q}:=⟨_,rfl⟩;rw[←hg']at hO2;have hω:g'.ω=g.ω:=by rw[hg']
    have hlb:g'.lb=g.lb:=by rw[hg']
    have hβ:g'.β=g.β:=by rw[hg']
    have ht0:g'.tk 0=(some ⟨b,if c=k then off else off+k,none⟩,c- k):=by rw[hg'];rfl
    refine⟨_,rfl,g',hfx,⟨fun k fz cells hk'=>by simp at hk',fun q hq=>hp.lbs q (by rw[←hlb];exact hq),fun q o ho=>?_,fun b' o x hx=>hp.own b' o x (by rw[←hω];exact hx),hp.laid,fun b' o x hl hx=>hp.nlb b' o x hl (by rw[←hω];exact hx)⟩,fun q _=>by rw[hβ],fun b' o x _ hx=>?_,?_⟩
    ·cases q with
     |zero=>simp at ho;subst ho;exact⟨hO2,rfl⟩
     |succ q=>simp at ho
    ·rw[hω]at hx;cases x with
     |st=>exact .inr ⟨rfl,hx⟩
     |box k=>exact .inl ⟨_,by simp,hx⟩
     |obj k=>exact .inl ⟨_,by simp,hx⟩
    ·refine⟨rfl,_,rfl,y7 _,fun _=>?_⟩;show Value.slice _ _ _=Value.slice (g'.tk 0).1 ((xs.drop k).take m).length (g'.tk 0).2;rw[ht0,hln]
 ·simp at h
end
end B
namespace B
open Go Go.RowKit
set_option linter.unusedVariables false
set_option maxRecDepth 100000
def avm{α:Type}{l:List α}{a d}(h:a<l.length):l[a]?=some (l.getD a d):=by rw[yf,ya h];rfl
def StB(St:Nat→Nat→Prop)(w W:World)(v:Value)(cs:List Value)(b o:Nat):Prop:=
 (b<w.heap.size∧St b o)∨(w.heap.size≤b∧b<W.heap.size∧v.ownBlock≠some b∧∀j u,cs[j*2+1]?=some u→u.ownBlock≠some b)
def sw(z:List Value):Nat×List Value:=(z.length,z)
structure BN(St:Nat→Nat→Prop)(w W:World)(v:Value)(cs:List Value)(bs:List Bunch)(zs:List (List Value)):Prop where
 ext:Ext w W
 len:zs.length=bs.length
 nest:Nest W w.heap.size 160 57 2 1 1 v cs (zs.map sw)
 key:∀j,j<bs.length→∃u,cs[j*2]?=some u∧VRel En (StB St w W v cs) W u (.dat (U:=Un) Ty.val (bs.getD j zu).key)
 row:∀j,j<bs.length→All2 (fun u x=>VRel En (StB St w W v cs) W u<|.dat (U:=Un) Ty.val x) (zs.getD j []) (bs.getD j zu).rows
section
variable {St:Nat→Nat→Prop} {w W W':World} {v:Value} {cs:List Value} {bs:List Bunch} {zs:List (List Value)}
def BN.start(hbd:∀b o,St b o→b<w.heap.size)(h:Ext w W):BN St w W (.slice none 0 0) [] [] []:=
 ⟨h,rfl,Nest.nil _ _ _ _ _ _ _,fun j hj=>absurd hj<|cQ _,fun j hj=>absurd hj<|cQ _⟩
def BN.low(h:BN St w W v cs bs zs):∀g,v.ownBlock=some g→w.heap.size≤g∧g<W.heap.size:=fun g hg=>h.nest.outer.lt g hg
def BN.inner(h:BN St w W v cs bs zs){j u}(hu:cs[j*2+1]?=some u):(∀g,u.ownBlock=some g→w.heap.size≤g∧g<W.heap.size)∧(u.ownBlock=none∨u.ownBlock≠v.ownBlock):=by
 have hl:(zs.map sw).length=zs.length:=by simp
 have hcl:cs.length=zs.length*2:=by have:=h.nest.outer.1;rw[hl]at this;exact this
 have hj:j<zs.length:=by have:=(ym.1 hu).1;omega
 obtain⟨x,h1,h2,h3⟩:=h.nest.inner j (zs[j]).length zs[j] (by rw[dn,ya hj];rfl);rw[hu]at h1;obtain rfl:=yg h1;exact⟨fun g hg=>h2.lt g hg,h3⟩
theorem StB.lt(hx:Ext w W){b o}(h:StB St w W v cs b o):b<W.heap.size:=by
 rcases h with⟨h1,_⟩|⟨_,h1,_⟩
 ·exact yu h1 hx.le
 ·exact h1
def StB.keep(h:Ext w W)(hx:Ext W W'):Keeps (StB St w W v cs) W (StB St w W' v cs) W':=fun b o hs=>by
 refine⟨?_,hx.cell (p:=⟨b,o,none⟩)<|StB.lt h hs⟩;rcases hs with hs|⟨h1,h2,h3⟩
 ·exact .inl hs
 ·exact .inr ⟨h1,yu h2 hx.le,h3⟩
theorem BN.step(h:BN St w W v cs bs zs)(hx:Ext W W'):BN St w W' v cs bs zs:=by
 have hk:Keeps (StB St w W v cs) W (StB St w W' v cs) W':=fun b o hs=>by
  refine⟨?_,hx.cell (p:=⟨b,o,none⟩)<|StB.lt h.ext hs⟩;rcases hs with hs|⟨h1,h2,h3⟩
  ·exact .inl hs
  ·exact .inr ⟨h1,yu h2 hx.le,h3⟩
 refine⟨h.ext.trans hx,h.len,h.nest.kept (N4 hx) fun b hb=>by simp at hb,fun j hj=>?_,fun j hj=>(h.row j hj).imp fun _ _ hv=>hv.mono hk⟩;obtain⟨u,h1,h2⟩:=h.key j hj;exact⟨u,h1,h2.mono hk⟩
def BN.push(h:BN St w W v cs bs zs){kv}{key:List Val}{g cap}(hk:VRel En (StB St w W v cs) W kv (.dat (U:=Un) Ty.val key))(ho:W'.ownsRow w.heap.size 160 2 (.slice (some ⟨g,0,none⟩) (bs.length+1) cap) (bs.length+1) (cs++[kv,.slice none 0 0]))(hg:W.grownBy W' v.ownBlock)(hat:v.ownBlock=some g∨W.heap.size≤g):
 BN St w W' (.slice (some ⟨g,0,none⟩) (bs.length+1) cap) (cs++[kv,.slice none 0 0]) (bs++[⟨key,[]⟩]) (zs++[[]]):=by
 have hcl:cs.length=bs.length*2:=by have:=h.nest.outer.1;rw[yy,h.len]at this;exact this
 have hy:(zs.map sw).length=bs.length:=by rw[yy,h.len]
 have hK:Keeps (StB St w W v cs) W (StB St w W' (.slice (some ⟨g,0,none⟩) (bs.length+1) cap)<|cs++[kv,.slice none 0 0]) W':=fun b o hs=>by
  rcases hs with⟨h1,h2⟩|⟨h1,h2,h3,h4⟩
  ·refine⟨.inl ⟨h1,h2⟩,World.cell?_of_block<|hg.block b (yu h1 h.ext.le) fun e=>?_⟩;have:=(h.low b e.symm).1;omega
  ·refine⟨.inr ⟨h1,yu h2 hg.size,fun e=>?_,fun j u hu=>?_⟩,World.cell?_of_block<|hg.block b h2 fun e=>h3 e.symm⟩
   ·have e2:g=b:=by simpa[Value.ownBlock]using e
    subst e2;rcases hat with e3|e3
    ·exact h3 e3
    ·omega
   ·rcases yk (j*2+1) cs.length with hl|hl
    ·rw[d7 hl]at hu;exact h4 j u hu
    ·rw[fC hl]at hu;have h5:=(ym.1 hu).1;simp only[yz,nN]at h5;have e6:j*2+1- cs.length=1:=by omega
     rw[e6]at hu;simp only[y4o,A7,y8]at hu;subst hu;simp[Value.ownBlock]
 refine⟨aaE h.ext hg fun b hb=>(h.low b hb).1,by simp[h.len],?_,fun j hj=>?_,fun j hj=>?_⟩
 ·have:=h.nest.push (w':=W') (v':=.slice (some ⟨g,0,none⟩) (bs.length+1) cap) [kv,.slice none 0 0] rfl rfl (World.ownsRow_nil _ _ _ _) (fun b hb=>by simp[Value.ownBlock]at hb) (by rw[hy];exact ho) hg<|hat.elim (fun e=>.inl (by rw[e];rfl)) fun e=>.inr ⟨g,rfl,e⟩;rw[Gn];exact this
 ·rcases yk j bs.length with hl|hl
  ·obtain⟨u,h1,h2⟩:=h.key j hl;refine⟨u,by rw[d7<|by omega];exact h1,?_⟩;rw[yf,d7 hl,←yf];exact h2.mono hK
  ·have hj':j=bs.length:=by rw[yb,yd]at hj;omega
   subst hj';refine⟨kv,by rw[fC<|by omega,hcl,Bf];rfl,?_⟩;rw[yf,fC<|y7 _,Bf];exact hk.mono hK
 ·rcases yk j bs.length with hl|hl
  ·rw[yf,d7 (by rw[h.len];exact hl),←yf,yf (l:=bs++_),d7 hl,←yf];exact(h.row j hl).imp fun _ _ hv=>hv.mono hK
  ·have hj':j=bs.length:=by rw[yb,yd]at hj;omega
   subst hj';rw[yf,fC (by rw[h.len];exact y7 _),h.len,Bf,yf (l:=bs++_),fC<|y7 _,Bf];trivial
theorem BN.at(h:BN St w W v cs bs zs){i}(hi:i<bs.length):∃g cap u,v=.slice (some ⟨g,0,none⟩) bs.length cap∧bs.length≤cap∧w.heap.size≤g∧g<W.heap.size∧cs[i*2+1]?=some u∧W.cell? ⟨g,i*2+1,none⟩=some u∧W.frozen? ⟨g,i*2+1,none⟩=false∧
 W.ownsRow w.heap.size 57 1 u (zs.getD i []).length (zs.getD i [])∧(u.ownBlock=none∨u.ownBlock≠some g):=by
 have hiz:i<zs.length:=by rw[h.len];exact hi
 have hy:(zs.map sw)[i]?=some ((zs.getD i []).length,zs.getD i []):=by
  rw[dn,ya hiz,yf,ya hiz];rfl
 obtain⟨g,cap,u,h1,h2,h3,h4,h5,h6,h7⟩:=h.nest.get (by omega) (by omega) hy;rw[yy,h.len]at h1;have hc:bs.length≤cap:=by
  have ho:=h.nest.outer;rw[yy,h.len,h1]at ho;obtain⟨_,⟨e,_⟩|⟨g2,cap2,cur,e,_,_,hcc,_⟩⟩:=ho
  ·simp at e
  ·simp only[Value.slice.injEq]at e;omega
 exact⟨g,cap,u,h1,hc,h2,vz h4,h3,h4,h5,h6,by rw[h1]at h7;exact h7⟩
def BN.app(h:BN St w W v cs bs zs){i}(hi:i<bs.length){g cap u u' xv}{x:List Val}{W5}(hv:v=.slice (some ⟨g,0,none⟩) bs.length cap)(hu:cs[i*2+1]?=some u)(ho:W5.ownsRow w.heap.size 57 1 u' ((zs.getD i []).length+1) (zs.getD i []++[xv]))(hg:W.grownBy W5 u.ownBlock)(hb:u'.ownBlock=u.ownBlock∨u'.ownBlock=some W.heap.size)(hx:VRel En (StB St w W v cs) W xv (.dat (U:=Un) Ty.val x)):
 BN St w (W5.setCell ⟨g,i*2+1,none⟩ u') v (cs.set (i*2+1) u') (bs.set i ⟨(bs.getD i zu).key,(bs.getD i zu).rows++[x]⟩) (zs.set i<|zs.getD i []++[xv]):=by
 have hiz:i<zs.length:=by rw[h.len];exact hi
 have hy:(zs.map sw)[i]?=some ((zs.getD i []).length,zs.getD i []):=by
  rw[dn,ya hiz,yf,ya hiz];rfl
 obtain⟨iu1,iu2⟩:=h.inner hu;have hvb:v.ownBlock=some g:=by rw[hv];rfl
 have hgl:=h.low g hvb;have hcl:cs.length=bs.length*2:=by have:=h.nest.outer.1;rw[yy,h.len]at this;exact this
 have hcell:∀b o,b<W.heap.size→u.ownBlock≠some b→b≠g→(W5.setCell ⟨g,i*2+1,none⟩ u').cell? ⟨b,o,none⟩=W.cell? ⟨b,o,none⟩:=fun b o h1 h2 h3=>by
  refine(World.cell?_setCell_other (w:=W5) (a:=⟨g,i*2+1,none⟩) (b:=⟨b,o,none⟩) (v:=u') fun e=>h3 (congrArg Addr.block e).symm).trans ?_;exact World.cell?_of_block<|hg.block b h1 fun e=>h2 e.symm
 have hsz:(W5.setCell ⟨g,i*2+1,none⟩ u').heap.size=W5.heap.size:=by simp
 have hK:Keeps (StB St w W v cs) W (StB St w (W5.setCell ⟨g,i*2+1,none⟩ u') v<|cs.set (i*2+1) u') (W5.setCell ⟨g,i*2+1,none⟩ u'):=fun b o hs=>by
  rcases hs with⟨h1,h2⟩|⟨h1,h2,h3,h4⟩
  ·refine⟨.inl ⟨h1,h2⟩,hcell b o (yu h1 h.ext.le) (fun e=>?_) fun e=>by omega⟩;have:=(iu1 b e).1;omega
  ·refine⟨.inr ⟨h1,by rw[hsz];exact yu h2 hg.size,h3,fun j y hy=>?_⟩,hcell b o h2 (h4 i u hu) fun e=>h3<|by rw[hvb,e]⟩;rw[j9]at hy;split at hy
   ·split at hy
    ·obtain rfl:=yg hy;rcases hb with e|e
     ·rw[e];exact h4 i u hu
     ·rw[e];intro e2;have:=yg e2;omega
    ·simp at hy
   ·exact h4 j y hy
 have hlen:(bs.set i ⟨(bs.getD i zu).key,(bs.getD i zu).rows++[x]⟩).length=bs.length:=iG;refine⟨(aaE h.ext hg fun b hb=>(iu1 b hb).1).setCell hgl.1 _,by rw[iG,hlen,h.len],?_,fun j hj=>?_,fun j hj=>?_⟩
 ·have:=h.nest.app (by omega) (by omega) hy (by rw[yy,h.len];exact hv) hu ho hg hb;rw[List.map_set];have e:sw (zs.getD i []++[xv])=((zs.getD i []).length+1,zs.getD i []++[xv]):=by simp[sw]
  rw[e];exact this
 ·rw[hlen]at hj;obtain⟨y,h1,h2⟩:=h.key j hj;refine⟨y,by rw[j9,if_neg<|by omega];exact h1,?_⟩;have e:((bs.set i ⟨(bs.getD i zu).key,(bs.getD i zu).rows++[x]⟩).getD j zu).key=(bs.getD j zu).key:=by
   rw[yf,j9];by_cases e:i=j
   ·subst e;rw[if_pos rfl,if_pos hi];rfl
   ·rw[if_neg e,←yf]
  rw[e];exact h2.mono hK
 ·rw[hlen]at hj;by_cases e:i=j
  ·subst e;have e1:(zs.set i<|zs.getD i []++[xv]).getD i []=zs.getD i []++[xv]:=by rw[yf,j9,if_pos rfl,if_pos hiz];rfl
   have e2:(bs.set i ⟨(bs.getD i zu).key,(bs.getD i zu).rows++[x]⟩).getD i zu=⟨(bs.getD i zu).key,(bs.getD i zu).rows++[x]⟩:=by rw[yf,j9,if_pos rfl,if_pos hi];rfl
   rw[e1,e2];exact All2.append ((h.row i hj).imp fun _ _ hv=>hv.mono hK) ⟨hx.mono hK,trivial⟩
  ·have e1:(zs.set i<|zs.getD i []++[xv]).getD j []=zs.getD j []:=by rw[yf,j9,if_neg e,←yf]
   have e2:(bs.set i ⟨(bs.getD i zu).key,(bs.getD i zu).rows++[x]⟩).getD j zu=bs.getD j zu:=by rw[yf,j9,if_neg e,←yf]
   rw[e1,e2];exact(h.row j hj).imp fun _ _ hv=>hv.mono hK
def BN.vrel(h:BN St w W v cs bs zs)(hbl:bs.length≤9223372036854775807)(hrl:∀j,j<bs.length→(bs.getD j zu).rows.length≤9223372036854775807):VRel En (m5 St w W .nilFunc) W v (.dat (U:=Un) Ty.bunch bs):=by
 have hS:∀b o,StB St w W v cs b o→m5 St w W .nilFunc b o:=fun b o hs=>by
  rcases hs with hs|⟨h1,h2,_⟩
  ·exact .inl hs
  ·exact .inr ⟨h1,h2,by simp[Value.ownBlock]⟩
 have hK:Keeps (StB St w W v cs) W (m5 St w W .nilFunc) W:=fun b o hs=>⟨hS b o hs,rfl⟩;by_cases h0:bs=[]
 ·subst h0;obtain⟨_,⟨e,_⟩|⟨g,cap,cur,e,_⟩⟩:=h.nest.outer
  ·rw[e];exact .nil _ _ _
  ·rw[e,yy,h.len];exact .nil _ _ _
 ·have hpos:0<bs.length:=y21.2 h0;obtain⟨g,cap,u0,hv,hcap,hge,hgl,_⟩:=h.at hpos;have hcl:cs.length=bs.length*2:=by have:=h.nest.outer.1;rw[yy,h.len]at this;exact this
  have ho:=h.nest.outer;rw[yy,h.len,hv]at ho;rw[hv];refine VRel.dat (U:=Un) Ty.bunch bs g 0 cap (fun i j=>cs.getD (i*2+j) undef) ⟨hcap,hbl⟩ (fun i j hi hj=>?_) fun i hi j d hd=>?_
  ·have hj':j<2:=hj;have hlt:i*2+j<bs.length*2:=by omega
   have e:0+i*Un.sz Ty.bunch+j=i*2+j:=by show 0+i*2+j=_;omega
   rw[e];refine⟨.inr ⟨hge,hgl,by simp[Value.ownBlock]⟩,?_⟩;rw[ho.cellAt _ hlt,yf,ya<|by omega];rfl
  ·have hb:bs.getD i zu=bs[i]:=by rw[yf,ya hi];rfl
   have hd':([.dat (U:=Un) Ty.val (bs[i]'hi).key,.dat (U:=Un) Ty.row (bs[i]'hi).rows]:List (V Un))[j]?=some d:=hd;cases j with
   |zero=>
    simp at hd';subst hd';obtain⟨u,h1,h2⟩:=h.key i hi;show VRel En _ W (cs.getD (i*2+0) undef) _;rw[iC,yf,h1];rw[hb]at h2;exact h2.mono hK
   |succ j=>
    cases j with
    |succ j=>simp at hd'
    |zero=>
     simp at hd';subst hd';obtain⟨g',cap',u,hv',_,_,_,h1,_,_,h4,h5⟩:=h.at hi;show VRel En _ W (cs.getD (i*2+1) undef) _;rw[yf,h1];show VRel En _ W u _;have hr:=h.row i hi;have hzl:=hr.length;have hrl':=hrl i hi;rw[hb]at hr hzl hrl';rcases hrr:(bs[i]'hi).rows with _|⟨x0,r0⟩
     ·rw[hrr,nN]at hzl;obtain⟨_,⟨e,_⟩|⟨g2,cap2,cur2,e,_⟩⟩:=h4
      ·rw[e];exact .nil _ _ _
      ·rw[e,hzl];exact .nil _ _ _
     ·rw[←hrr];have h4':=h4;obtain⟨hzc,⟨_,e⟩|⟨g2,cap2,cur2,e,hg2,_,hc2,_⟩⟩:=h4
      ·rw[hzl,hrr]at e;simp at e
      ·have hlt2:=(h4'.lt g2 (by rw[e];rfl)).2;rw[e]at h4' ⊢;rw[hzl]at h4' hc2 ⊢;refine VRel.dat (U:=Un) Ty.row (bs[i]'hi).rows g2 0 cap2 (fun a b=>(zs.getD i []).getD a undef) ⟨hc2,hrl'⟩ (fun a b ha hb=>?_) fun a ha b d hd=>?_
       ·have hb0:b=0:=by have:b<1:=hb;omega
        subst hb0;have e:0+a*Un.sz Ty.row+0=a:=by show 0+a*1+0=a;omega
        rw[e];refine⟨.inr ⟨hg2,hlt2,by simp[Value.ownBlock]⟩,?_⟩;rw[h4'.cellAt a<|by omega];exact avm<|by omega
       ·have hd':([.dat (U:=Un) Ty.val<|(bs[i]'hi).rows[a]'ha]:List (V Un))[b]?=some d:=hd;cases b with
        |succ b=>simp at hd'
        |zero=>
         simp at hd';subst hd';obtain⟨y,hy,hyr⟩:=All2.get a hr<|ya ha;show VRel En _ W ((zs.getD i []).getD a undef) _;rw[yf,hy];exact hyr.mono hK
end
end B
namespace B
open Go Go.RowKit
set_option maxRecDepth 100000
noncomputable section
attribute [local irreducible] aB bk zw br aK b9 aR bu bA
def fw(o:Bunch→Prop)(p:Bunch→Bool):FV Un:=fun args=>match args with
 |[x0]=>(dS .bunch<|.d x0).bind fun a0=>some ([o a0],[.v<|cb<|p a0])
 |_=>none
def nf(φ:FV Un):Bunch→Prop:=fun a0=>match φ [.agg<|enc Ty.bunch a0]with
 |some ([q],_)=>q
 |_=>False
def qQ(φ:FV Un):Bunch→Bool:=fun a0=>match φ [.agg<|enc Ty.bunch a0]with
 |some (_,[.v<|.s<|.bool b])=>b
 |_=>false
def zyf o p:qQ (fw o p)=p:=by
 funext a0;unfold qQ fw;simp only[ux,yj]<;>rfl
def Q7 o p:nf (fw o p)=o:=by
 funext a0;unfold nf fw;simp only[ux,yj]<;>rfl
def lR(s:List Bunch)(f_o:Bunch→Prop)(f:Bunch→Bool)(v0:Int):S Un:=(st 19 19 76 0 [(0,al .bunch s),(1,AV.one<|A.c<|C.fv<|fw f_o f),(4,ai (0:Int)),(7,ai (↑s.length:Int)),(8,ai v0)] [] [])
def Q8(s:List Bunch)(f_o:Bunch→Prop)(f:Bunch→Bool)(v0:Int)(v1:Int):S Un:=(st 19 19 76 0 [(0,al .bunch s),(1,AV.one<|A.c<|C.fv<|fw f_o f),(4,ai v1),(7,ai (↑s.length:Int)),(8,ai v0)] [] [])
def qR:S Un→Option (EX Un):=aC av kE Tryz.f183 [1,0,1,2,2] 2
def Jn:Exit→S Un→Option (RF Un):=aE av kE Tryz.f183 [1,0,1,2] [.d]
def abT(s:List Bunch)(f_o:Bunch→Prop)(f:Bunch→Bool):Option (RF Un):=aw av kE Tryz.f183 0 [.d] [.d<|.v<|.dat (U:=Un) Ty.bunch s,.fn<|fw f_o f]
def avn(s f_o f):abT s f_o f=(qR<|lR s f_o f (0:Int)).bind (zd Jn):=ah
def OK(s f_o f v0):qR (lR s f_o f v0)=af (decide<|v0<(↑s.length:Int)) (ae (0≤v0∧v0<(↑s.length:Int))<|ae (f_o<|s.getD v0.toNat zu)<|af (f<|s.getD v0.toNat zu) (some (.ret,(Q8 s f_o f v0 v0)))<|qR<|lR s f_o f<|IntKind.i64.wrap<|v0+1) (some (.exit 0,(lR s f_o f v0))):=aF
def avo(s f_o f v0 v1):Jn .ret (Q8 s f_o f v0 v1)=some (eD v1):=ah
def avp(s f_o f v0):Jn (.exit 0) (lR s f_o f v0)=some (eD<|(-1:Int)):=ah
def OL(o:Bunch→Prop)(s:List Bunch):Prop:=∀x∈s,o x
def AM(s:List Bunch)(_o:Bunch→Prop)(f:Bunch→Bool):Int:=match s.findIdx? f with|some i=>(i:Int)|none=>-1
def avq(s:List Bunch) o f(hs:WL .bunch s)(ho:OL o s):abT s o f=some (eD<|AM s o f):=by
 have key:∀(r:List Bunch)(i:Nat),s.drop i=r→i≤s.length→(qR<|lR s o f i).bind (zd Jn)=some (eD (match r.findIdx? f with|some k=>((i+k:Nat):Int)|none=>-1)):=by
  intro r
  induction r with
  |nil=>
   intro i hr hi;have:s.length≤i:=by rw[←y1o];exact hr
   have e:qR (lR s o f i)=some (.exit 0,lR s o f i):=by rw[OK,z8,if_neg (by simp;omega)]
   rw[zf e,avp];rfl
  |cons x r ih=>
   intro i hr hi;obtain⟨a1,a2,a3,hm⟩:=d9 hr;have hx:s.getD i zu=x:=a2 zu;by_cases hf:f x=true
   ·have e:qR (lR s o f i)=some (.ret,Q8 s o f i i):=by
     rw[OK,z8,if_pos (by simp;omega),z6<|by omega,y5,hx,z6<|ho x hm,z8,if_pos hf]
    rw[zf e,avo];simp[nQ,hf]
   ·have e:qR (lR s o f i)=qR (lR s o f ((i+1:Nat):Int)):=by
     rw[OK,z8,if_pos (by simp;omega),z6<|by omega,y5,hx,z6<|ho x hm,z8,if_neg hf,eW a1 hs.len]
    rw[e,ih (i+1) a3<|by omega];congr 2;simp only[nQ,hf];cases r.findIdx? f with
    |none=>rfl
    |some k=>simp;omega
 rw[avn];have:=key s 0 rfl<|yc _;refine Eq.trans this ?_;unfold AM;cases s.findIdx? f<;>simp
def FM:au Un:=fun args=>match args with
 |[x0,x1]=>(dL .bunch x0).bind fun s=>(dF x1).bind fun f=>some ([f=(fw (nf f)<|qQ f),OL (nf f) s],bh<|AM s (nf f)<|qQ f,bi<|AM s (nf f)<|qQ f)
 |_=>none
def avr:aj 183 FM:=by
 intro args ob rs os h hob;unfold FM at h;split at h
 ·simp only[y6,y8,yi]at h;obtain⟨s,e0,f,e1,rfl,rfl,rfl⟩:=h;obtain rfl:=zi e0;obtain rfl:=mv e1;have hfv0:=hob _<|y9 (i:=0) rfl;generalize qQ f=pp0 at*;generalize nf f=qq0 at*;subst hfv0;exact⟨dz (M:=av) rfl (cM (l1:=[]) (l2:=[]) (l3:=[]) (l4:=[]) (l5:=[]) trivial trivial trivial trivial trivial) Tryz.func183 (by kernel_rfl) kE 0 [.d] fun hwf=>(avq s qq0 pp0 (bj hwf (a:=.d<|.v<|.dat (U:=Un) Ty.bunch s)<|y9 (i:=0) rfl)<|hob _<|y9 (i:=1) rfl),zl Tryz.func183 (by kernel_rfl)<|by kernel_rfl⟩
 ·simp at h
def abU(b:Bunch)(q:List Val):Option (RF Un):=aw Fo aN Tryz.f184 0 [.d] [.d<|.agg<|enc Ty.bunch b,.box [.v<|.dat (U:=Un) Ty.val q]]
def avs(b q):abU b q=some (ak<|dA b.key q==0):=ah
def j7(b:Bunch)(q:List Val):Bool:=dA b.key q==0
def avt(b:Bunch)(q:List Val)(_hb:WS .bunch b)(_hq:WL .val q)(_h:True):abU b q=some (ak<|j7 b q):=by
 rw[avs];rfl
def FN:List (List<|DC Un)→Option (FV Un):=fun dl=>match dl with
 |[b0]=>(bL .val b0).bind fun q=>some<|fw (fun b=>True) fun b=>j7 b q
 |_=>none
def avu:kR 184 FN:=by
 refine⟨zl Tryz.func184 (by kernel_rfl)<|by kernel_rfl,fun dl φ args ob rs hF hφ hob=>?_⟩;unfold FN at hF;split at hF
 ·simp only[y6,y8]at hF;obtain⟨q,g0,hE⟩:=hF;subst hE;obtain rfl:=LJ g0;unfold fw at hφ;split at hφ
  ·simp only[y6,y8,yi]at hφ;obtain⟨b,e0,rfl,rfl⟩:=hφ;simp only[cL,jr,eT,yr];rw[zo e0];exact Contract.data<|dz (M:=Fo) rfl (cM (l1:=[(149,w7)]) (l2:=[]) (l3:=[]) (l4:=[]) (l5:=[]) ⟨QF,trivial⟩ trivial trivial trivial trivial) Tryz.func184 (by kernel_rfl) aN 0 [.d] fun hwf=>(avt b q (bj hwf (a:=.d<|.agg<|enc Ty.bunch b)<|y9 (i:=0) rfl) (bj hwf (a:=.box [.v<|.dat (U:=Un) Ty.val q])<|y9 (i:=1) rfl)<|hob _<|y9 (i:=0) rfl)
  ·simp at hφ
 ·simp at hF
end
end B
namespace B
open Go Go.RowKit
set_option maxRecDepth 1000000
set_option linter.unusedVariables false
noncomputable section
def Q9{St w v τ}{xs:List (Den τ)}(h:VRel En St w v (.dat (U:=Un) τ xs)):∃a c,v=.slice a xs.length c:=by
 rcases h.inv with⟨rfl,a,c,rfl⟩|⟨b,o,c,cv,rfl,_⟩
 ·exact⟨_,_,rfl⟩
 ·exact⟨_,_,rfl⟩
def BN.fresh{St St4 w W W2 v cs bs zs}(h:BN St w W v cs bs zs)(hx:Ext W W2)(hbd:∀b o,St b o→b<w.heap.size)(h4:∀b o,b<W.heap.size→St4 b o→St b o)(h5:∀b o,St4 b o→b<W2.heap.size){u d}(hv:VRel En St4 W2 u d):VRel En (StB St w W2 v cs) W2 u d:=by
 refine hv.mono fun b o hs=>⟨?_,rfl⟩;rcases yk b W.heap.size with h1|h1
 ·have:=h4 b o h1 hs;exact .inl ⟨hbd b o this,this⟩
 ·refine .inr ⟨gK h.ext.le h1,h5 b o hs,fun e=>?_,fun j y hy e=>?_⟩
  ·have:=(h.low b e).2;omega
  ·have:=((h.inner hy).1 b e).2;omega
def avv{wd:Wld}{x:List Val}{St W v0 v1}(hE:wd.env.length≤100000000)(hbd:∀b o,St b o→b<W.heap.size)(h0:D0Rel En St W v0 (.agg<|enc Ty.wld wd))(h1:VRel En St W v1 (.dat (U:=Un) Ty.val x))(hld:Laid W):
 Calls Tryz.prog 137 #[v0,v1] W fun e W'=>∃v,e=.returned v∧Kw En St W W' v [.agg<|enc Ty.wld<|zp wd x]:=by
 have hF:tD [.d<|.agg<|enc Ty.wld wd,.d<|.v<|.dat (U:=Un) Ty.val x]=some ([wd.env.length≤100000000],N3<|zp wd x,[]):=by
  unfold tD;simp only[zK,ux,yj];rfl
 have hC:=(Jd _ _ _ _ hF (fun p hp=>by rw[yl.1 hp];exact hE)).1;have hC0:sI Tryz.prog En 137 [.d<|.agg<|enc Ty.wld wd,.d<|.v<|.dat (U:=Un) Ty.val x] [] [.agg<|enc Ty.wld<|zp wd x]:=Contract.data hC;refine(hC0 W St [v0,v1] hbd ⟨h0,h1,trivial⟩ hld).mono ?_;rintro e W' ⟨v,rfl,hr,_⟩;exact⟨v,rfl,hr⟩
def avw{bs:List Bunch}{key:List Val}{St:Nat→Nat→Prop}{W:World}{v kv kb}(hbd:∀b o,St b o→b<W.heap.size)(hv:VRel En St W v (.dat (U:=Un) Ty.bunch bs))(hk:W.cell? ⟨kb,0,none⟩=some kv)(hkv:VRel En St W kv (.dat (U:=Un) Ty.val key))(hkb:St kb 0)(hld:Laid W):
 Calls Tryz.prog 183 #[v,.func (.func 184) #[] #[.pointer<|some ⟨kb,0,none⟩]] W fun e W'=>e=.returned (.int .i64 (match bs.findIdx? (fun b=>j7 b key)with|some i=>(i:Int)|none=>-1))∧Ext W W':=by
 obtain⟨hB,hL⟩:=avu;have hφ:FN [[.v<|.dat (U:=Un) Ty.val key]]=some (fw (fun _=>True) fun b=>j7 b key):=by
  unfold FN;rfl
 have hF:FM [.d<|.v<|.dat (U:=Un) Ty.bunch bs,.fn<|fw (fun _=>True) fun b=>j7 b key]=some ([fw (fun _=>True) (fun b=>j7 b key)=fw (nf<|fw (fun _=>True) fun b=>j7 b key) (qQ<|fw (fun _=>True) fun b=>j7 b key),OL (nf<|fw (fun _=>True) fun b=>j7 b key) bs],[.c<|.s<|.int .i64<|AM bs (nf<|fw (fun _=>True) fun b=>j7 b key)<|qQ<|fw (fun _=>True) fun b=>j7 b key],[]):=by
  unfold FM;simp only[zK,yj];rfl
 have hc:=asW avr hF (fun p hp=>by
  simp only[yh,pH,or_false]at hp;rcases hp with rfl|rfl
  ·rw[Q7,zyf]
  ·rw[Q7];exact fun _ _=>trivial) (w:=W) (St:=St) (vs:=[v,.func (.func 184) #[] #[.pointer (some ⟨kb,0,none⟩)]]) hbd ⟨hv,⟨_,_,rfl,hB,fun St' w' hkp hbd' hld' args ob rs hφ2 hob vs hvs=>by
   have:=hL _ _ args ob rs hφ hφ2 hob w' St' (vs++[.pointer (some ⟨kb,0,none⟩)]) hbd' (All2.append (by
    clear hφ2
    induction vs generalizing args with
    |nil=>cases args with|nil=>trivial|cons _ _=>exact hvs.elim
    |cons a vs ih=>cases args with|nil=>exact hvs.elim|cons d args=>exact⟨hvs.1,ih args hvs.2⟩) ⟨⟨kb,rfl,fun i c hc=>by
     cases i with
     |zero=>
      simp at hc;subst hc;exact⟨(hkp _ _ hkb).1,kv,by rw[(hkp _ _ hkb).2];exact hk,hkv.mono hkp⟩
     |succ i=>simp at hc⟩,trivial⟩) hld'
   simpa using this⟩,trivial⟩ hld
 rw[Q7,zyf]at hc;exact hc
structure RB(St:Nat→Nat→Prop)(w1:World)(rows:List (List Val))(f:List Val→Option (List Val))(fin:List Bunch)(i:Nat)(v:Value)(cs:List Value)(bs:List Bunch)(zs:List (List Value))(wr:World):Prop where
 bn:BN St w1 wr v cs bs zs
 fin:eZ f (rows.drop i) bs=some fin
 len:bs.length≤i+1
 rows:∀j,j<bs.length→(bs.getD j zu).rows.length≤i
def avx(wd:Wld)(rows:List (List Val))(terms:List Term)(fin:List Bunch)(St:Nat→Nat→Prop)(ev dv tv:Value)(a:Option Addr)(b off cap tc:Nat)(ta':Option Addr)(kv:Nat→Value)(w:World)(hlen:rows.length≤100000000)(htl:terms.length≤100000000)(hE:wd.env.length≤100000000)
 (hbd:∀b o,St b o→b<w.heap.size)(hld:Laid w)(hw:D0Rel En St w (.agg #[ev,dv]) (.agg (enc Ty.wld wd)))
 (ha:rows≠[]→a=some ⟨b,off,none⟩∧rows.length≤cap)
 (hc:∀i,i<rows.length→St b (off+i)∧w.cell? ⟨b,off+i,none⟩=some (kv i)∧VRel En St w (kv i) (.dat (U:=Un) Ty.val (rows.getD i [])))
 (ht:∀(i:Nat)(key:List Val),i<rows.length→b8 terms (zp wd (rows.getD i []))=some key→∀(W:World)(v2:Value)(St2:Nat→Nat→Prop),Ext w W→(∀b o,b<w.heap.size→St2 b o→St b o)→(∀b o,St2 b o→b<W.heap.size)→D0Rel En St2 W v2 (.agg (enc Ty.wld (zp wd (rows.getD i []))))→Laid W→
  Calls Tryz.prog 121 #[v2,tv] W fun e W'=>∃kv,e=.returned kv∧Ext W W'∧∃St4:Nat→Nat→Prop,(∀b o,b<W.heap.size→St4 b o→St b o∨St2 b o)∧(∀b o,St4 b o→b<W'.heap.size)∧VRel En St4 W' kv (.dat (U:=Un) Ty.val key))
 (htv:tv=.slice ta' terms.length tc)
 (hfin:eZ (fun x=>b8 terms (zp wd x)) rows (if terms.length=0 then[⟨[],[]⟩]else[])=some fin):
 Calls Tryz.prog 139 #[.agg #[ev,dv],.slice a rows.length cap,tv] w fun e w'=>∃v cs zs w1,e=.returned v∧Ext w w1∧BN St w1 w' v cs fin zs:=by
 have mixed:Tryz.prog.follows .mixedOrders=true:=by kernel_rfl
 subst htv;have HT:=Lib.hid ht;have HC:=Lib.hid hc;have HW:=Lib.hid hw;have HF:=Lib.hid hfin;have HB:=Lib.hid hbd;have HL:=Lib.hid hld;clear ht hc hw hfin hbd hld
 go_enter Tryz.func139,Tryz.ntmps139
 have b0:(w.alloc (Obj.cells #[ev,dv] 85)).cell? ⟨w.heap.size,0,none⟩=some ev:=by
  have h:=heap_alloc_new w (Obj.cells #[ev,dv] 85);unfold World.cell?;simp only[h];rfl
 have b1:(w.alloc (Obj.cells #[ev,dv] 85)).cell? ⟨w.heap.size,1,none⟩=some dv:=by
  have h:=heap_alloc_new w (Obj.cells #[ev,dv] 85);unfold World.cell?;simp only[h];rfl
 have BX0:=Lib.hid b0;have BX1:=Lib.hid b1;clear b0 b1;by_cases h0:terms.length=0
 all_goals go_wp2_with fail
 have hh:(w.alloc (Obj.cells #[ev,dv] 85)).heap.size=w.heap.size+1:=by simp
 have S0:RB St (w.alloc (Obj.cells #[ev,dv] 85)) rows (fun x=>b8 terms (zp wd x)) fin 0 (.slice (some ⟨w.heap.size+1,0,none⟩) ([⟨[],[]⟩]:List Bunch).length 1) ([]++[.slice none 0 0,.slice none 0 0]) ([]++[⟨[],[]⟩]) ([]++[[]]) ((w.alloc (Obj.cells #[ev,dv] 85)).alloc (Obj.cells #[Value.slice none 0 0,Value.slice none 0 0] 160)):=by
  refine⟨BN.push (BN.start (fun b o hs=>by rw[hh];have:=HB.out b o hs;omega) (Ext.refl _)) (.nil _ _ _) ?_ (World.grownBy_alloc _ _ _) (.inr (by rw[hh];exact y7 _)),by have:=HF.out;rw[if_pos h0]at this;exact this,by simp,fun j hj=>?_⟩
  ·have h2:(w.alloc (Obj.cells #[ev,dv] 85)).heap.size=w.heap.size+1:=hh;have h3:=heap_alloc_new (w.alloc (Obj.cells #[ev,dv] 85)) (Obj.cells #[Value.slice none 0 0,Value.slice none 0 0] 160);rw[h2]at h3;exact⟨rfl,.inr ⟨w.heap.size+1,1,#[Value.slice none 0 0,Value.slice none 0 0],rfl,by rw[h2];exact y7 _,h3,y7 _,by decide,rfl,rfl⟩⟩
  ·have:j=0:=by simpa using hj
   subst this;exact yc _
 clear h0
 rotate_left
 have hte:((terms.length:Int)==0)=false:=by simpa using h0
 simp only[hte];clear hte;have hh:(w.alloc (Obj.cells #[ev,dv] 85)).heap.size=w.heap.size+1:=by simp
 have S0:RB St (w.alloc (Obj.cells #[ev,dv] 85)) rows (fun x=>b8 terms (zp wd x)) fin 0 (.slice none ([]:List Bunch).length 0) [] [] [] (w.alloc (Obj.cells #[ev,dv] 85)):=
  ⟨BN.start (fun b o hs=>by rw[hh];have:=HB.out b o hs;omega) (Ext.refl _),by have:=HF.out;rw[if_neg h0]at this;exact this,yc _,fun j hj=>absurd hj (cQ _)⟩
 clear h0
 all_goals
  go_loopw [7,19] (fun s7 s19 wr=>∃(i cp:Nat)(g:Option Addr)(cs:List Value)(bs:List Bunch)(zs:List (List Value)),i≤rows.length∧s7=.slice g bs.length cp∧s19=.int .i64 i∧RB St (w.alloc (Obj.cells #[ev,dv] 85)) rows (fun x=>b8 terms (zp wd x)) fin i (.slice g bs.length cp) cs bs zs wr) (fun _ s19 _=>rows.length- (intOf s19).toNat)
  case atStart=>exact⟨0,_,_,_,_,_,yc _,rfl,rfl,S0⟩
  case round=>
   clear S0;obtain⟨i,cp,g,cs,bs,zs,hi,rfl,rfl,hr⟩:=hrel;by_cases hlt:i<rows.length
   ·obtain⟨rfl,hcap⟩:=ha (fun e=>by rw[e]at hlt;simp at hlt);obtain⟨x,hxd⟩:∃x,x=rows.getD i []:=⟨_,rfl⟩;obtain⟨c1,c2,c3⟩:=HC.out i hlt;have HT2:=HT.out i;rw[←hxd]at c3 HT2;obtain⟨xa,xc,hxv⟩:=Q9 c3;rw[hxv]at c2 c3;clear hxv;obtain⟨key,hkey,hfin2⟩:∃key,b8 terms (zp wd x)=some key∧eZ (fun x=>b8 terms (zp wd x)) (rows.drop (i+1)) (dE bs key x)=some fin:=by
     have h1:=hr.fin;rw[fR hlt]at h1;simp only[eZ,y6]at h1;obtain⟨key,h2,h3⟩:=h1;have e:rows[i]=x:=by rw[hxd,yf,ya hlt];rfl
     rw[e]at h2 h3;exact⟨key,h2,h3⟩
    have X0:Ext w wr:=((Ext.refl w).alloc _).trans hr.bn.ext;have hbd1:∀b o,St b o→b<wr.heap.size:=fun b o hs=>yu (HB.out b o hs) X0.le;have hA:=avv (wd:=wd) (x:=x) (v0:=.agg #[ev,dv]) (v1:=.slice xa x.length xc) hE hbd1 (HW.out.mono (aaF X0 HB.out)) (c3.mono (aaF X0 HB.out)) (HL.out.ext X0);have d1:=X0.keeps c2;have d2:wr.cell? ⟨w.heap.size,0,none⟩=some ev:=hr.bn.ext.keeps BX0.out;have d3:wr.cell? ⟨w.heap.size,1,none⟩=some dv:=hr.bn.ext.keeps BX1.out;have HA:=Lib.hid hA;have HR:=Lib.hid hr;have HK:=Lib.hid hkey;have HX:=Lib.hid X0;have HC3:=Lib.hid c3;have HF2:=Lib.hid hfin2;have HXD:=Lib.hid hxd;have HB1:=Lib.hid hbd1;have HT3:=Lib.hid HT2;clear hA hr hkey X0 c1 c2 c3 hfin2 hbd1 HT2 hxd;have k0:(i:Int)<(rows.length:Int):=by omega
    go_upto_region 8 with(first
     |(go_at_call 137;refine HA.out.mono ?_;rintro e W1 ⟨v2,rfl,hx1,St2,s21,s22,hr2⟩;have HX1:=Lib.hid hx1;have HS1:=Lib.hid s21;have HS2:=Lib.hid s22;have HR2:=Lib.hid hr2;clear hx1 s21 s22 hr2)
     |(go_at_call 121;refine(HT3.out key hlt HK.out W1 v2 St2 (HX.out.trans HX1.out) (fun b o hb hs=>HS1.out b o (yu hb HX.out.le) hs) HS2.out HR2.out (HL.out.ext (HX.out.trans HX1.out))).mono ?_;rintro e W2 ⟨kk,rfl,hx2,St4,s41,s42,hk4⟩;obtain⟨ka,kc,rfl⟩:=Q9 hk4;have HX2:=Lib.hid hx2;have HS41:=Lib.hid s41;have HS42:=Lib.hid s42;have HK4:=Lib.hid hk4;clear hx2 s41 s42 hk4))
    have hw1:∀b o,St b o→b<(w.alloc (Obj.cells #[ev,dv] 85)).heap.size:=fun b o hs=>by have:=HB.out b o hs;simp;omega
    have x12:Ext wr W2:=HX1.out.trans HX2.out;have kf:=BN.fresh HR.out.bn x12 hw1 (fun b o hb hs=>(HS41.out b o (yu hb HX1.out.le) hs).elim id fun h=>HS1.out b o hb h) HS42.out HK4.out;have b2:=HR.out.bn.step x12;have x3:Ext W2 (W2.alloc (Obj.cells #[Value.slice ka key.length kc] 57)):=(Ext.refl _).alloc _;have b3:=b2.step x3;have k3:VRel En (m5 St (w.alloc (Obj.cells #[ev,dv] 85)) (W2.alloc (Obj.cells #[Value.slice ka key.length kc] 57)) .nilFunc) (W2.alloc (Obj.cells #[Value.slice ka key.length kc] 57)) (.slice ka key.length kc) (.dat (U:=Un) Ty.val key):=kf.mono fun b o hs=>by
     refine⟨?_,x3.cell (p:=⟨b,o,none⟩) (StB.lt b2.ext hs)⟩;rcases hs with hs|⟨h1,h2,_⟩
     ·exact .inl hs
     ·exact .inr ⟨h1,yu h2 x3.le,by simp[Value.ownBlock]⟩
    have c0:(W2.alloc (Obj.cells #[Value.slice ka key.length kc] 57)).cell? ⟨W2.heap.size,0,none⟩=some (.slice ka key.length kc):=by
     have h:=heap_alloc_new W2 (Obj.cells #[Value.slice ka key.length kc] 57);unfold World.cell?;simp only[h];rfl
    have hi2:=avw (bs:=bs) (key:=key) (kb:=W2.heap.size) (St:=m5 St (w.alloc (Obj.cells #[ev,dv] 85)) (W2.alloc (Obj.cells #[Value.slice ka key.length kc] 57)) .nilFunc) (fun b o hs=>by
     rcases hs with⟨h1,_⟩|⟨_,h1,_⟩
     ·exact yu h1 b3.ext.le
     ·exact h1) (b3.vrel (by have:=HR.out.len;omega) (fun j hj=>by have:=HR.out.rows j hj;omega)) c0 k3 (.inr ⟨by have:=b2.ext.le;exact this,by simp,by simp[Value.ownBlock]⟩) (HL.out.ext (HX.out.trans (x12.trans x3)))
    have HI:=Lib.hid hi2;have HX12:=Lib.hid x12;have HX3:=Lib.hid x3;have HB3:=Lib.hid b3;have HKF:=Lib.hid kf;have HC0:=Lib.hid c0;clear hi2 x12 x3 b3 b2 k3 kf c0 hw1
    go_upto_region 9 with(first
     |(go_at_call 183;refine HI.out.mono ?_;rintro e W4 ⟨rfl,hx4⟩;have HX4:=Lib.hid hx4;clear hx4))
    have b4:=HB3.out.step HX4.out;have c4:=HX4.out.keeps HC0.out;cases hq:List.findIdx? (fun b=>j7 b key) bs with
    |some k=>
     have hkl:k<bs.length:=(y27.1 hq).1;have hrows:=HR.out.rows k hkl;have hbl:=HR.out.len;obtain⟨gb0,rfl⟩:∃gb0,g=some ⟨gb0,0,none⟩:=by
      obtain⟨gb,cp2,u,n1,_⟩:=b4.at hkl;simp only[Value.slice.injEq]at n1;exact⟨gb,n1.1⟩
     have HKB:=Lib.hid hkl;have HLEN:=Lib.hid HR.out.len;have HROW:=Lib.hid HR.out.rows;have hadd:dE bs key x=bs.set k ⟨(bs.getD k zu).key,(bs.getD k zu).rows++[x]⟩:=by
      have e:bs.findIdx? (fun b=>dA b.key key==0)=some k:=hq;unfold dE;rw[e]
     have HADD:=Lib.hid hadd;clear hadd;obtain⟨gb,cp2,u,n1,n2,n3,n4,n5,n6,n7,n8,n9⟩:=b4.at (show k<bs.length by first|exact hkl|simp);have hz:(zs.getD k []).length≤i:=by
      have h1:=(b4.row k (show k<bs.length by first|exact hkl|simp)).length;rw[h1];exact hrows
     have x5:Ext W4 (W4.alloc (Obj.cells #[Value.slice xa x.length xc] 57)):=(Ext.refl _).alloc _;have b5:=b4.step x5;have c5:=x5.keeps n6;have f5:(W4.alloc (Obj.cells #[Value.slice xa x.length xc] 57)).frozen? ⟨gb,k*2+1,none⟩=false:=(x5.frozen (p:=⟨gb,k*2+1,none⟩) n4).trans n7;have o5:=n8.kept (N4 x5) (by cases u.ownBlock<;>simp);obtain⟨bytes,iI,zI,hby,hbp,_,und,hi0,hi1,hi2,hi3,hi4⟩:=sg (t:=27) (e:=57) (τ:=.row) (by kernel_rfl);have ne5:some gb≠u.ownBlock:=by
      rcases n9 with e|e
      ·rw[e];simp
      ·exact fun e2=>e e2.symm
     have vx:VRel En (StB St (w.alloc (Obj.cells #[ev,dv] 85)) (W4.alloc (Obj.cells #[Value.slice xa x.length xc] 57)) (.slice (some ⟨gb0,0,none⟩) bs.length cp) cs) (W4.alloc (Obj.cells #[Value.slice xa x.length xc] 57)) (.slice xa x.length xc) (.dat (U:=Un) Ty.val x):=by
      have xx:Ext w (W4.alloc (Obj.cells #[Value.slice xa x.length xc] 57)):=((Ext.refl w).alloc _).trans b5.ext;refine HC3.out.mono fun b o hs=>⟨.inl ⟨by have:=HB.out b o hs;simp;omega,hs⟩,xx.cell (p:=⟨b,o,none⟩) (HB.out b o hs)⟩
     have B5:=Lib.hid b5;have C5:=Lib.hid c5;have F5:=Lib.hid f5;have O5:=Lib.hid o5;have N5:=Lib.hid n5;have VX:=Lib.hid vx;have HZ:=Lib.hid hz;have hsz5:(w.alloc (Obj.cells #[ev,dv] 85)).heap.size≤(W4.alloc (Obj.cells #[Value.slice xa x.length xc] 57)).heap.size:=b5.ext.le;have HSZ:=Lib.hid hsz5;have hgl:gb<(W4.alloc (Obj.cells #[Value.slice xa x.length xc] 57)).heap.size:=yu n4 x5.le;have HGL:=Lib.hid hgl;clear b5 c5 f5 o5 n5 n7 n8 n9 vx hz x5 hsz5 hgl;simp only[Value.slice.injEq,y8,Addr.mk.injEq,and_true,true_and]at n1;obtain⟨rfl,rfl⟩:=n1;have HQ:=Lib.hid hq;have kk0:(k:Int)<(bs.length:Int):=by omega
     clear hq b4 c4
     go_wp2_with (first
      |(at_builtin;refine wpList_append_lies _ rfl _ _ _ rfl (w.alloc (Obj.cells #[ev,dv] 85)).heap.size 57 iI zI 1 bytes und hi0 hi3 hi1 hi2 hi4 (by omega) _ _ _ rfl O5.out ⟨W4.heap.size,0,none⟩ 1 1 [.slice xa x.length xc] rfl rfl (cell_one_new _ _ _) (by simp[Value.oneCell']) (by omega) (by have:=HZ.out;unfold maxLen;omega) (gK (ld (show(zs.getD k []).length+1≤100000001 by have:=HZ.out;omega) hby) (by decide)) HSZ.out _ rfl ?_;intro g5 cap5 w5 hown5 hgrow hat hlt5;have s1:=(hgrow.cell_far ⟨gb0,k*2+1,none⟩ HGL.out ne5).trans C5.out;have s2:=(hgrow.frozen_far ⟨gb0,k*2+1,none⟩ HGL.out ne5).trans F5.out;have HO5:=Lib.hid hown5;have HG5:=Lib.hid hgrow;have HA5:=Lib.hid hat;clear hown5 hgrow hat))
     go_roundw
     case rel=>
      have hkb:=HKB.out;have ha5:u.ownBlock=some g5∨g5=_:=HA5.out;have b7:=B5.out.app hkb rfl N5.out HO5.out HG5.out (ha5.imp (fun e=>e.symm) (fun e=>congrArg some e)) VX.out;have hfin:=HF2.out;rw[HADD.out]at hfin;refine⟨i+1,cp,some ⟨gb0,0,none⟩,cs.set (k*2+1) (.slice (some ⟨g5,0,none⟩) ((zs.getD k []).length+1) cap5),_,zs.set k (zs.getD k []++[.slice xa x.length xc]),by omega,?_,by go_num,⟨?_,hfin,?_,?_⟩⟩
      ·first|rfl|(rw[iG];done)|(rw[iG];rfl)|(rw[iG,yb];rfl)
      ·rw[iG];first|exact b7|(rw[yb];exact b7)
      ·rw[iG];have:=HLEN.out;omega
      ·intro j hj;rw[iG]at hj;rw[yf,j9];by_cases e:k=j
       ·subst e;rw[if_pos rfl,if_pos hkb];show(_++[x]).length≤i+1;rw[yb,yd];have:=HROW.out k hkb;omega
       ·rw[if_neg e,←yf];have:=HROW.out j hj;omega
     case measure=>simp[intOf];omega
    |none=>
     have hbl:=HR.out.len;have o4:=b4.nest.outer;rw[yy,b4.len]at o4;obtain⟨bO,iO,zO,hbO,_,_,undO,ho0,ho1,ho2,ho3,ho4⟩:=sg (t:=157) (e:=160) (τ:=.bunch) (by kernel_rfl);have hadd:dE bs key x=(bs++[(⟨key,[]⟩:Bunch)]).set bs.length ⟨((bs++[(⟨key,[]⟩:Bunch)]).getD bs.length zu).key,((bs++[(⟨key,[]⟩:Bunch)]).getD bs.length zu).rows++[x]⟩:=by
      have e:bs.findIdx? (fun b=>dA b.key key==0)=none:=hq;unfold dE;rw[e];simp
     have HADD:=Lib.hid hadd;have x4:Ext W4 (W4.alloc (Obj.cells #[Value.slice ka key.length kc,Value.slice none 0 0] 160)):=(Ext.refl _).alloc _;have hsz4:(w.alloc (Obj.cells #[ev,dv] 85)).heap.size≤(W4.alloc (Obj.cells #[Value.slice ka key.length kc,Value.slice none 0 0] 160)).heap.size:=(b4.step x4).ext.le;have O4:=Lib.hid o4;have HSZ4:=Lib.hid hsz4;have B4:=Lib.hid b4;have HX44:=Lib.hid x4;have HBL:=Lib.hid hbl;clear hadd o4 hsz4 b4 x4 hq hbl
     go_upto_region 12 with(first
      |(at_builtin;refine wpList_append_lies _ rfl _ _ _ rfl (w.alloc (Obj.cells #[ev,dv] 85)).heap.size 160 iO zO 2 bO undO ho0 ho3 ho1 ho2 ho4 (by omega) _ _ _ rfl (O4.out.alloc _) ⟨W4.heap.size,0,none⟩ 1 1 [.slice ka key.length kc,.slice none 0 0] rfl rfl (World.news_of_block (heap_alloc_new _ _)) (by simp[Value.oneCell']) (by omega) (by have:=HBL.out;unfold maxLen;omega) (gK (ld (show bs.length+1≤100000002 by have:=HBL.out;omega) hbO) (by decide)) HSZ4.out _ rfl ?_;intro g6 cap6 w6 hown6 hgrow6 hat6 hlt6;have HO6:=Lib.hid hown6;have HG6:=Lib.hid hgrow6;have HA6:=Lib.hid hat6;clear hown6 hgrow6 hat6))
     have kf4:=HKF.out.mono (StB.keep (HR.out.bn.step HX12.out).ext (HX3.out.trans (HX4.out.trans HX44.out)));have b6:=(B4.out.step HX44.out).push kf4 HO6.out HG6.out (HA6.out.imp id fun e=>by rw[e];exact y7 _);obtain⟨gb0,hgb0⟩:∃gb0,gb0=g6:=⟨_,rfl⟩;rw[←hgb0]at b6 ⊢;obtain⟨nb,hnb⟩:∃nb,nb=bs.length+1:=⟨_,rfl⟩;rw[←hnb]at b6 ⊢;have HNB:=Lib.hid hnb;have kk0:(bs.length:Int)<(nb:Int):=by omega
     have hkl:bs.length<(bs++[(⟨key,[]⟩:Bunch)]).length:=by simp
     have HKB:=Lib.hid hkl;have hrows:((bs++[(⟨key,[]⟩:Bunch)]).getD bs.length zu).rows.length≤i:=by simp
     have hlen2:(bs++[(⟨key,[]⟩:Bunch)]).length≤i+2:=by have:=HBL.out;simp;omega
     have HLEN:=Lib.hid hlen2;have hrow2:∀j,j<(bs++[(⟨key,[]⟩:Bunch)]).length→((bs++[(⟨key,[]⟩:Bunch)]).getD j zu).rows.length≤i:=fun j hj=>by
      rcases yk j bs.length with hl|hl
      ·rw[yf,d7 hl,←yf];exact HR.out.rows j hl
      ·have:j=bs.length:=by rw[yb,yd]at hj;omega
       subst this;exact hrows
     have HROW:=Lib.hid hrow2;clear kf4 hkl hlen2 hrow2 hgb0 hnb;obtain⟨gb,cp2,u,n1,n2,n3,n4,n5,n6,n7,n8,n9⟩:=b6.at (show bs.length<(bs++[(⟨key,[]⟩:Bunch)]).length by simp);have hz:((zs++[[]]).getD bs.length []).length≤i:=by
      have h1:=(b6.row bs.length (show bs.length<(bs++[(⟨key,[]⟩:Bunch)]).length by simp)).length;rw[h1];exact hrows
     have x5:Ext w6 (w6.alloc (Obj.cells #[Value.slice xa x.length xc] 57)):=(Ext.refl _).alloc _;have b5:=b6.step x5;have c5:=x5.keeps n6;have f5:(w6.alloc (Obj.cells #[Value.slice xa x.length xc] 57)).frozen? ⟨gb,bs.length*2+1,none⟩=false:=(x5.frozen (p:=⟨gb,bs.length*2+1,none⟩) n4).trans n7;have o5:=n8.kept (N4 x5) (by cases u.ownBlock<;>simp);obtain⟨bytes,iI,zI,hby,hbp,_,und,hi0,hi1,hi2,hi3,hi4⟩:=sg (t:=27) (e:=57) (τ:=.row) (by kernel_rfl);have ne5:some gb≠u.ownBlock:=by
      rcases n9 with e|e
      ·rw[e];simp
      ·exact fun e2=>e e2.symm
     have vx:VRel En (StB St (w.alloc (Obj.cells #[ev,dv] 85)) (w6.alloc (Obj.cells #[Value.slice xa x.length xc] 57)) (.slice (some ⟨gb0,0,none⟩) nb cap6) (cs++[.slice ka key.length kc,.slice none 0 0])) (w6.alloc (Obj.cells #[Value.slice xa x.length xc] 57)) (.slice xa x.length xc) (.dat (U:=Un) Ty.val x):=by
      have xx:Ext w (w6.alloc (Obj.cells #[Value.slice xa x.length xc] 57)):=((Ext.refl w).alloc _).trans b5.ext;refine HC3.out.mono fun b o hs=>⟨.inl ⟨by have:=HB.out b o hs;simp;omega,hs⟩,xx.cell (p:=⟨b,o,none⟩) (HB.out b o hs)⟩
     have B5:=Lib.hid b5;have C5:=Lib.hid c5;have F5:=Lib.hid f5;have O5:=Lib.hid o5;have N5:=Lib.hid n5;have VX:=Lib.hid vx;have HZ:=Lib.hid hz;have hsz5:(w.alloc (Obj.cells #[ev,dv] 85)).heap.size≤(w6.alloc (Obj.cells #[Value.slice xa x.length xc] 57)).heap.size:=b5.ext.le;have HSZ:=Lib.hid hsz5;have hgl:gb<(w6.alloc (Obj.cells #[Value.slice xa x.length xc] 57)).heap.size:=yu n4 x5.le;have HGL:=Lib.hid hgl;clear b5 c5 f5 o5 n5 n7 n8 n9 vx hz x5 hsz5 hgl;simp only[Value.slice.injEq,y8,Addr.mk.injEq,and_true,true_and]at n1;obtain⟨rfl,hn1,rfl⟩:=n1;clear hn1;clear b6
     go_wp2_with (first
      |(at_builtin;refine wpList_append_lies _ rfl _ _ _ rfl (w.alloc (Obj.cells #[ev,dv] 85)).heap.size 57 iI zI 1 bytes und hi0 hi3 hi1 hi2 hi4 (by omega) _ _ _ rfl O5.out ⟨w6.heap.size,0,none⟩ 1 1 [.slice xa x.length xc] rfl rfl (cell_one_new _ _ _) (by simp[Value.oneCell']) (by omega) (by have:=HZ.out;unfold maxLen;omega) (gK (ld (show((zs++[[]]).getD bs.length []).length+1≤100000001 by have:=HZ.out;omega) hby) (by decide)) HSZ.out _ rfl ?_;intro g5 cap5 w5 hown5 hgrow hat hlt5;have s1:=(hgrow.cell_far ⟨gb0,bs.length*2+1,none⟩ HGL.out ne5).trans C5.out;have s2:=(hgrow.frozen_far ⟨gb0,bs.length*2+1,none⟩ HGL.out ne5).trans F5.out;have HO5:=Lib.hid hown5;have HG5:=Lib.hid hgrow;have HA5:=Lib.hid hat;clear hown5 hgrow hat))
     go_roundw
     case rel=>
      have hkb:=HKB.out;have ha5:u.ownBlock=some g5∨g5=_:=HA5.out;have b7:=B5.out.app hkb (by rw[HNB.out,yb];rfl) N5.out HO5.out HG5.out (ha5.imp (fun e=>e.symm) (fun e=>congrArg some e)) VX.out;have hfin:=HF2.out;rw[HADD.out]at hfin;refine⟨i+1,cap6,some ⟨gb0,0,none⟩,(cs++[Value.slice ka key.length kc,Value.slice none 0 0]).set (bs.length*2+1) (Value.slice (some ⟨g5,0,none⟩) (((zs++[[]]).getD bs.length []).length+1) cap5),_,(zs++[[]]).set bs.length ((zs++[[]]).getD bs.length []++[Value.slice xa x.length xc]),by omega,?_,by go_num,⟨?_,hfin,?_,?_⟩⟩
      ·rw[HNB.out,iG,yb];rfl
      ·rw[iG,show(bs++[(⟨key,[]⟩:Bunch)]).length=nb by rw[HNB.out];simp];exact b7
      ·rw[iG];have:=HLEN.out;omega
      ·intro j hj;rw[iG]at hj;rw[yf,j9];by_cases e:bs.length=j
       ·subst e;rw[if_pos rfl,if_pos hkb];show(_++[x]).length≤i+1;rw[yb,yd];have:=HROW.out bs.length hkb;omega
       ·rw[if_neg e,←yf];have:=HROW.out j hj;omega
     case measure=>simp[intOf];omega
   ·have hie:i=rows.length:=by omega
    subst hie;have h1:=hr.fin;rw[sC]at h1;simp only[eZ,y8]at h1;have HR:=Lib.hid hr;have HF1:=Lib.hid h1;clear hr h1
    go_wp2_with fail
    go_ret;have h2:=HR.out.bn;have h3:=HF1.out;subst h3;exact⟨_,_,_,_,rfl,(Ext.refl w).alloc _,h2⟩
def avy wd(rows:List (List Val)) terms fin(hfin:j6 (fun w=>b8 terms w) terms.length wd rows=some fin)(hT:∀(x:List Val)(key:List Val),b8 terms (zp wd x)=some key→sI Tryz.prog En 121 [.d<|.agg<|enc Ty.wld<|zp wd x,.d<|.v<|.dat (U:=Un) Ty.term terms] [] [.v<|.dat (U:=Un) Ty.val key]):
 Contract Tryz.prog En 139 [.d<|.agg<|enc Ty.wld wd,.d<|.v<|.dat (U:=Un) Ty.row rows,.d<|.v<|.dat (U:=Un) Ty.term terms] [.c<|.sl (U:=Un) Ty.bunch fin false] []:=by
 have hfin0:=hfin;unfold j6 at hfin;split at hfin
 ·rename_i hc;obtain⟨hE,htl,hlen⟩:=hc;intro w St vs hbd hvs hld
  match vs,hvs with
  |[v0,v1,v2],⟨h0,h1,h2,_⟩=>
   have h0':D0Rel En St w v0 (.agg<|enc Ty.wld wd):=h0;obtain⟨arr,rfl,ha2⟩:=h0;obtain⟨a,b,off,cap,kv,rfl,ha,hc⟩:=asX h1;obtain⟨ta',tc,rfl⟩:=Q9 h2;obtain⟨ev,dv,rfl⟩:∃ev dv,arr=#[ev,dv]:=by
    have hl:=ha2.length;obtain⟨l⟩:=arr
    match l,hl with
    |[x,y],_=>exact⟨x,y,rfl⟩
   refine(avx wd rows terms fin St ev dv (.slice ta' terms.length tc) a b off cap tc ta' kv w hlen htl hE hbd hld h0' ha (fun i hi=>hc i hi) (fun i key hi hk W v2 St2 hx hs1 hs2 hd hld2=>?_) rfl hfin).mono ?_
   ·have hS:∀b o,(St b o∨St2 b o)→b<W.heap.size:=fun b o hs=>hs.elim (fun h=>yu (hbd b o h) hx.le)<|hs2 b o;refine(hT _ _ hk W (fun b o=>St b o∨St2 b o) [v2,.slice ta' terms.length tc] hS ⟨D0Rel.mono (St':=fun b o=>St b o∨St2 b o) (fun b o h=>⟨Or.inr h,rfl⟩) hd,VRel.mono (St':=fun b o=>St b o∨St2 b o) h2 fun b o h=>⟨Or.inl h,hx.cell (p:=⟨b,o,none⟩)<|hbd b o h⟩,trivial⟩ hld2).mono ?_;rintro e W' ⟨kv2,rfl,⟨hx2,St4,h41,h42,hr⟩,_⟩;exact⟨kv2,rfl,hx2,St4,h41,h42,hr⟩
   ·rintro e w' ⟨v,cs,zs,w1,rfl,hx1,hB⟩;have hx:Ext w w':=hx1.trans hB.ext;have hkk:=Ou hfin0;refine⟨v,rfl,asV hx hbd ?_⟩;have hv:=hB.vrel (by have:=hkk.2.2;omega) (fun j hj=>by have:=(hB.row j hj).length;exact gK (atC hfin0 j hj)<|by omega)
    exact hv.mono fun b o hs=>⟨by
     rcases hs with⟨_,h⟩|⟨h1,h2,h3⟩
     ·exact .inl ⟨hbd b o h,h⟩
     ·exact .inr ⟨gK hx1.le h1,h2,h3⟩,rfl⟩
 ·simp at hfin
end
end B
end Go.Proofs.YtjfpbchdcbhfgaaGreat
