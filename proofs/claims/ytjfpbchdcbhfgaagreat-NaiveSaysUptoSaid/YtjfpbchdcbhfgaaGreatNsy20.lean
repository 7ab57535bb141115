/- Part 20 of the proof: Sr17 Sr17b Sref19 Lnset. -/
import Derived.Test.YtjfpbchdcbhfgaaGreatNsy19
set_option linter.unusedVariables false
set_option linter.unusedSimpArgs false
set_option linter.defProp false
namespace Go.Proofs.YtjfpbchdcbhfgaaGreat
namespace B
open Go Go.RowKit
set_option maxRecDepth 100000
noncomputable section
attribute [local irreducible] aB bk zw br aK b9 aR bu bA
def adq(k:List Val):Option (RF Un):=aw av aV Tryz.f177 0 [.d] [.d<|.v<|.dat (U:=Un) Ty.val k]
def axU(k):adq k=af ((↑k.length:Int)==(2:Int)) (ae ((0:Int)≤(0:Int)∧(0:Int)<(↑k.length:Int))<|af ((k.getD 0 z7).kind ==2) (ae ((0:Int)≤(1:Int)∧(1:Int)<(↑k.length:Int))<|some<|ak<|(k.getD 1 z7).kind ==2)<|some<|ak false) (some<|ak false):=ah
def AU(k:List Val):Bool:=decide (k.length=2)&&((k.getD 0 z7).kind ==2)&&((k.getD 1 z7).kind ==2)
def adr{R:Bool→RF Un}(k:List Val) n:af ((k.length:Int)==(2:Int)) (ae ((0:Int)≤(0:Int)∧(0:Int)<(k.length:Int))<|af ((k.getD 0 z7).kind ==n) (ae ((0:Int)≤(1:Int)∧(1:Int)<(k.length:Int))<|some<|R<|(k.getD 1 z7).kind ==n)<|some<|R false) (some<|R false)=some (R<|decide (k.length=2)&&((k.getD 0 z7).kind ==n)&&((k.getD 1 z7).kind ==n)):=by
 by_cases c:k.length=2
 ·rw[beq_iff_eq.2<|show(k.length:Int)=2 by omega,af,z6<|by omega,z6<|by omega,decide_eq_true c];cases(k.getD 0 z7).kind ==n<;>rfl
 ·rw[beq_eq_false_iff_ne.2<|show(k.length:Int)≠2 by omega,decide_eq_false c];rfl
def axV(k:List Val)(_hk:WL .val k):adq k=some (ak<|AU k):=by
 rw[axU];exact adr k 2
def ads:au Un:=aQ (dL .val) fun k=>([],ak<|AU k)
def axW:aj 177 ads:=aU zi (M:=av) rfl trivial Tryz.func177 fun k=>GiF.r fun w _=>axV k<|am w 0
def adt(k:List Val):Option (RF Un):=aw av aV Tryz.f179 0 [.d] [.d<|.v<|.dat (U:=Un) Ty.val k]
def axX(k):adt k=af ((↑k.length:Int)==(2:Int)) (ae ((0:Int)≤(0:Int)∧(0:Int)<(↑k.length:Int))<|af ((k.getD 0 z7).kind ==3) (ae ((0:Int)≤(1:Int)∧(1:Int)<(↑k.length:Int))<|some<|ak<|(k.getD 1 z7).kind ==3)<|some<|ak false) (some<|ak false):=ah
def xX(k:List Val):Bool:=decide (k.length=2)&&((k.getD 0 z7).kind ==3)&&((k.getD 1 z7).kind ==3)
def axY(k:List Val)(_hk:WL .val k):adt k=some (ak<|xX k):=by
 rw[axX];exact adr k 3
def adu:au Un:=aQ (dL .val) fun k=>([],ak<|xX k)
def axZ:aj 179 adu:=aU zi (M:=av) rfl trivial Tryz.func179 fun k=>GiF.r fun w _=>axY k<|am w 0
def adv:Mc Un:=az [(174,BG)] [] [] [] []
def adw(n:Int)(ok:Bool):Option (RF Un):=aw adv aV Tryz.f172 0 [.d] [.d<|.v<|.s<|.int .i64 n,.d<|.v<|cb ok]
def ax0(n ok):adw n ok=af (!ok) (some<|aq z7) (some<|aq<|zk n):=ah
def ni(n:Int)(ok:Bool):Val:=gp n ok
def ax1 n ok(_hn:WI n):adw n ok=some (aq<|ni n ok):=by
 rw[ax0];cases ok<;>rfl
def FW:au Un:=aD (dI .i64) dB fun n ok=>([],aq<|ni n ok)
def Pf:aj 172 FW:=aJ zn mu (M:=adv) rfl ⟨D9,trivial⟩ Tryz.func172 fun n ok=>GiF.r fun w _=>ax1 n ok<|am w 0
def adx:Mc Un:=az [(214,ac1),(172,FW),(215,ac3),(216,ac6),(217,ac8),(218,ada)] [] [] [] []
def ady(op:Int)(a:Int)(b:Int):Option (RF Un):=aw adx aV Tryz.f178 0 [.d] [.d<|.v<|.s<|.int .i64 op,.d<|.v<|.s<|.int .i64 a,.d<|.v<|.s<|.int .i64 b]
def ax2(op a b):ady op a b=af (op==5) (some<|aq<|ni (AP a b).fst (AP a b).snd) (af (op==6) (some<|aq<|ni (AQ a b).fst (AQ a b).snd)<|af (op==7) (some<|aq<|ni (AR a b).fst (AR a b).snd)<|af (op==8) (some<|aq<|ni (AS a b).fst (AS a b).snd)<|some<|aq<|ni (AT a b).fst (AT a b).snd):=ah
def FX(op a b:Int):Val:=gp (jZ op a b).1 (jZ op a b).2
def ax3 op a b(_ho:WI op)(_ha:WI a)(_hb:WI b):ady op a b=some (aq<|FX op a b):=by
 rw[ax2];unfold FX jZ;simp only[z8,beq_iff_eq];by_cases c1:op=5
 ·rw[if_pos c1,if_pos c1];rfl
 by_cases c2:op=6
 ·rw[if_neg c1,if_neg c1,if_pos c2,if_pos c2];rfl
 by_cases c3:op=7
 ·rw[if_neg c1,if_neg c1,if_neg c2,if_neg c2,if_pos c3,if_pos c3];rfl
 by_cases c4:op=8
 ·rw[if_neg c1,if_neg c1,if_neg c2,if_neg c2,if_neg c3,if_neg c3,if_pos c4,if_pos c4];rfl
 ·rw[if_neg c1,if_neg c1,if_neg c2,if_neg c2,if_neg c3,if_neg c3,if_neg c4,if_neg c4];rfl
def adz:au Un:=dW (dI .i64) (dI .i64) (dI .i64) fun op a b=>([],aq<|FX op a b)
def ax4:aj 178 adz:=jl zn zn zn (M:=adx) rfl ⟨axk,Pf,axn,axq,axu,axy,trivial⟩ Tryz.func178 fun op a b=>GiF.r fun w _=>ax3 op a b (am w 0) (am w 1)<|am w 2
def adA:Mc Un:=az [(122,JC),(69,CX)] [] [] [] []
def adB(op:Int)(a:Val)(b:Val):Option (RF Un):=aw adA aV Tryz.f129 0 [.d] [.d<|.v<|.s<|.int .i64 op,.d<|.agg<|enc Ty.val a,.d<|.agg<|enc Ty.val b]
def ax5(op a b):adB op a b=af (!(cj a b).snd) (some<|aq z7) (af (op==11) (some<|aq<|cE<|(cj a b).fst ==0)<|af (op==12) (some<|aq<|cE<|(cj a b).fst !=0)<|af (op==13) (some<|aq<|cE<|decide<|(cj a b).fst<0)<|af (op==14) (some<|aq<|cE<|decide<|(cj a b).fst≤0)<|af (op==15) (some<|aq<|cE<|decide<|(cj a b).fst >0)<|some<|aq<|cE<|decide<|(cj a b).fst≥0):=ah
def tU(op:Int)(a b:Val):Val:=dO op a b
theorem adC x y: -1≤cK x y∧cK x y≤1:=by grind[cK]
def adD:∀(a b:List UInt8),-1≤bF a b∧bF a b≤1
 |[],[]=>by simp[bF]
 |[],_::_=>by simp[bF]
 |_::_,[]=>by simp[bF]
 |a::l,b::r=>by
  rw[bF];split
  ·exact adD l r
  simp[adC]
def ax6 a b: -1≤(dX a b).1∧(dX a b).1≤1:=by
 unfold dX
 repeat' split
 all_goals first|exact adD _ _|exact adC _ _|simp
def ax7 op(a b:Val)(_ho:WI op)(_ha:WS .val a)(_hb:WS .val b)(h:11≤op∧op≤16):adB op a b=some (aq<|tU op a b):=by
 rw[ax5];unfold tU dO cj;obtain⟨b1,b2⟩:=ax6 a b;cases(dX a b).2
 ·rfl
 simp only[O0];have key:∀x y:Bool,(x=true↔y=true)→some (aq<|fK x)=some (aq<|fK y):=fun x y h=>by grind
 rcases(show op=11∨op=12∨op=13∨op=14∨op=15∨op=16 by omega)with rfl|rfl|rfl|rfl|rfl|rfl<;>refine key _ _ ?_<;>unfold ie<;>simp<;>omega
def JF:au Un:=dW (dI .i64) (dS .val) (dS .val) fun op a b=>([11≤op∧op≤16],aq<|tU op a b)
def Rn:aj 129 JF:=jl zn zo zo (M:=adA) rfl ⟨Rl,JB,trivial⟩ Tryz.func129 fun op a b=>GiF.r fun w o=>ax7 op a b (am w 0) (am w 1) (am w 2)<|aA o 0
def JG:Mc Un:=az [(129,JF),(99,rd),(123,FT),(125,xT)] [] [] [] []
def Pg:Nat→NS:=aO [(3,{ts:=bl 24 118,bs:=bl 24 20,nm:=[],cs:=true})] true
def xY(v:Val)(l:List Val)(v0:Int)(v1:Int):S Un:=(st 24 24 96 0 [(1,al .val l),(2,ax 2),(4,ax 4),(5,ai v0),(6,ai v1)] [(2,bg .val v),(4,bg .val z7)] [])
def JH:S Un→Option (EX Un):=aC JG Pg Tryz.f127 [1,1,0,1,2,2] 3
def adE:Exit→S Un→Option (RF Un):=aE JG Pg Tryz.f127 [1,1,0,1,2] [.d]
def adF(v:Val)(l:List Val):Option (RF Un):=aw JG Pg Tryz.f127 0 [.d] [.d<|.agg<|enc Ty.val v,.d<|.v<|.dat (U:=Un) Ty.val l]
def ax8(v l):adF v l=(JH<|xY v l (0:Int) (0:Int)).bind (zd adE):=ah
def adG(v l v0 v1):JH (xY v l v0 v1)=af (decide<|v1<(↑l.length:Int)) (ae (0≤v1∧v1<(↑l.length:Int))<|ae ((11:Int)≤(11:Int)∧(11:Int)≤(16:Int))<|JH<|xY v l (sx v0<|ir<|tU (11:Int) v<|l.getD v1.toNat z7)<|IntKind.i64.wrap<|v1+1) (some (.exit 0,(xY v l v0 v1))):=aF
def ax9(v l v0 v1):adE (.exit 0) (xY v l v0 v1)=some (aq<|pg v0):=ah
def FY(v:Val)(l:List Val):Val:=tt v l
def aya(v:Val)(l:List Val)(_hv:WS .val v)(hl:WL .val l):adF v l=some (aq<|FY v l):=by
 obtain⟨lp,_⟩:=zy (e:=.exit 0) (L:=JH) (st:=fun(m:Int) i=>xY v l m i) (l:=l) (d:=z7) (g:=fun m x=>eL m<|dN<|dO 11 v x) (fun _ _=>True) hl.len
  (fun m i x hi hx _=>by
   refine⟨trivial,?_⟩;rw[adG];simp only[z8,hi,decide_true,if_true,and_true,y5,hx]
   rw[z6 (by omega),z6 (by omega)];rfl)
  (fun m _=>by rw[adG];simp[z8]) 0 trivial
 rw[ax8];refine(zf lp).trans ?_;rw[ax9];unfold FY tt Aq;rw[P5];rfl
def adH:au Un:=aD (dS .val) (dL .val) fun v l=>([],aq<|FY v l)
def ayb:aj 127 adH:=aJ zo zi (M:=JG) rfl ⟨Rn,xU,O3,CZ,trivial⟩ Tryz.func127 fun v l=>GiF.r fun w _=>aya v l (am w 0)<|am w 1
def JI:Mc Un:=az [(99,rd)] [] [] [] []
def Ph:Nat→NS:=aO [(2,{ts:=bl 33 13,bs:=bl 33 4,nm:=[],gb:=[2],cs:=true})] true
def gD(k:List Val)(b2:Val)(v0:Int):S Un:=(st 33 33 132 0 [(0,al .val k),(2,ax 2),(3,ai v0)] [(2,bg .val b2)] [])
def pi:S Un→Option (EX Un):=aC JI Ph Tryz.f128 [1,0,1,2,2] 2
def JJ:Exit→S Un→Option (RF Un):=aE JI Ph Tryz.f128 [1,0,1,2] [.d]
def adI(k:List Val):Option (RF Un):=aw JI Ph Tryz.f128 0 [.d] [.d<|.v<|.dat (U:=Un) Ty.val k]
def ayc(k):adI k=(pi<|gD k z7 (0:Int)).bind (zd JJ):=ah
def JK(k b2 v0):pi (gD k b2 v0)=af (decide<|IntKind.i64.wrap (v0+1)<(↑k.length:Int)) (ae (0≤v0∧v0<(↑k.length:Int))<|af (ir (k.getD v0.toNat z7)==2) (ae (0≤IntKind.i64.wrap (v0+1)∧IntKind.i64.wrap (v0+1)<(↑k.length:Int))<|some (.ret,(gD k (k.getD (IntKind.i64.wrap<|v0+1).toNat z7) v0)))<|pi<|gD k b2<|IntKind.i64.wrap<|v0+2) (some (.exit 0,(gD k b2 v0))):=aF
def ayd(k b2 v0):JJ .ret (gD k b2 v0)=some (aq b2):=ah
def adJ(k b2 v0):JJ (.exit 0) (gD k b2 v0)=ae (¬(2:Int)=(0:Int)) (af ((↑k.length:Int).tmod (2:Int)==(1:Int)) (ae (0≤IntKind.i64.wrap ((↑k.length:Int)- (1:Int))∧IntKind.i64.wrap ((↑k.length:Int)- (1:Int))<(↑k.length:Int))<|some<|aq<|k.getD (IntKind.i64.wrap<|(↑k.length:Int)- (1:Int)).toNat z7)<|some<|aq z7):=ah
def Pi(k:List Val):Val:=mX k
def aye(k:List Val)(_hk:WL .val k):adI k=some (aq<|Pi k):=by
 rw[ayc];have hl:=_hk.len;have hm:((k.length:Int)).tmod 2=((k.length % 2:Nat):Int):=rfl;have key:∀(n j:Nat),k.length- 2*j≤n→2*j≤k.length→(pi<|gD k z7 ((2*j:Nat):Int)).bind (zd JJ)=some (aq<|mX<|k.drop<|2*j):=by
  intro n
  induction n with
  |zero=>
   intro j h1 h2;have w1:IntKind.i64.wrap (((2*j:Nat):Int)+1)=((2*j+1:Nat):Int):=by grind[Nat.lt_or_ge,zm]
   have e:pi (gD k z7 ((2*j:Nat):Int))=some (.exit 0,gD k z7 ((2*j:Nat):Int)):=by rw[JK,w1,z8,if_neg<|by grind]
   rw[zf e,adJ,z6<|by omega,hm,z8,if_neg<|by grind,fA<|by omega];rfl
  |succ n ih=>
   intro j h1 h2;have w1:IntKind.i64.wrap (((2*j:Nat):Int)+1)=((2*j+1:Nat):Int):=by rw[zm<|by omega];rfl
   rcases yk (2*j+1) k.length with hj|hj
   ·have w2:IntKind.i64.wrap (((2*j:Nat):Int)+2)=((2*(j+1):Nat):Int):=by rw[zm<|by omega];rfl
    rw[mV z7<|show 2*j<k.length by omega,mV z7 hj,show 2*j+1+1=2*(j+1) by rfl];simp only[mX];by_cases c:dN (k.getD (2*j) z7)=2
    ·have e:pi (gD k z7 ((2*j:Nat):Int))=some (.ret,gD k (k.getD (2*j+1) z7) ((2*j:Nat):Int)):=by
      rw[JK,w1,z8,if_pos<|by grind,z6<|by omega,y5,z8,if_pos<|show(ir (k.getD (2*j) z7)==2)=true from beq_iff_eq.2 c,z6<|by omega,y5]
     rw[zf e,ayd,if_pos c]
    ·have e:pi (gD k z7 ((2*j:Nat):Int))=pi (gD k z7 ((2*(j+1):Nat):Int)):=by
      rw[JK,w1,z8,if_pos<|by grind,z6<|by omega,y5,z8,if_neg<|show¬(ir (k.getD (2*j) z7)==2)=true from fun e=>c<|beq_iff_eq.1 e,w2]
     rw[e,if_neg c];exact ih (j+1) (by omega)<|by omega
   ·have e:pi (gD k z7 ((2*j:Nat):Int))=some (.exit 0,gD k z7 ((2*j:Nat):Int)):=by rw[JK,w1,z8,if_neg<|by grind]
    rw[zf e,adJ,z6<|by omega,hm,z8];by_cases hq:k.length=2*j
    ·rw[if_neg<|by grind,fA<|by omega];rfl
    ·have w3:IntKind.i64.wrap ((k.length:Int)- 1)=((2*j:Nat):Int):=by rw[zm<|by omega];omega
     rw[if_pos<|by grind,w3,z6<|by omega,y5,mV z7<|show 2*j<k.length by omega,fA<|by omega];rfl
 exact key k.length 0 (by omega)<|by omega
def adK:au Un:=aQ (dL .val) fun k=>([],aq<|Pi k)
def ayf:aj 128 adK:=aU zi (M:=JI) rfl ⟨xU,trivial⟩ Tryz.func128 fun k=>GiF.r fun w _=>aye k<|am w 0
def JL:Mc Un:=az [(122,JC),(173,O7),(172,FW),(73,lj),(174,BG),(175,Pe)] [] [] [] []
def Pj:Nat→NS:=aO [(3,{ts:=bl 119 50,bs:=bl 119 16,nm:=[],gb:=[4],cs:=true})] true
def pj(k:List Val)(b4:Val)(v0:Int):S Un:=(st 119 119 476 0 [(1,al .val k),(4,ax 4),(5,ai v0)] [(4,bg .val b4)] [])
def JM:S Un→Option (EX Un):=aC JL Pj Tryz.f126 [1,0,1,3,0,1,2,2] 3
def JN:Exit→S Un→Option (RF Un):=aE JL Pj Tryz.f126 [1,0,1,3,0,1,2] [.d]
def adL(name:ByteArray)(k:List Val):Option (RF Un):=aw JL Pj Tryz.f126 0 [.d] [.d<|.v<|cs name,.d<|.v<|.dat (U:=Un) Ty.val k]
def JO(name:ByteArray)(k:List Val):Option (RF Un):=ae ((0:Int)≤(0:Int)∧(0:Int)<(↑k.length:Int))<|af ((k.getD 0 z7).kind !=3) (some<|aq z7)<|af (name.toList==(ByteArray.mk #[108,101,110,103,116,104]).toList) (ae ((0:Int)≤(0:Int)∧(0:Int)<(↑k.length:Int))<|some<|aq<|zk (↑(k.getD 0 z7).s.size:Int))<|af (name.toList==(ByteArray.mk #[108,111,119,101,114]).toList) (ae ((0:Int)≤(0:Int)∧(0:Int)<(↑k.length:Int))<|ae ((k.getD 0 z7).s.size≤(2000000:Nat))<|some<|aq<|Pd (k.getD 0 z7).s (65:Int) (97:Int))<|af (name.toList==(ByteArray.mk #[117,112,112,101,114]).toList) (ae ((0:Int)≤(0:Int)∧(0:Int)<(↑k.length:Int))<|ae ((k.getD 0 z7).s.size≤(2000000:Nat))<|some<|aq<|Pd (k.getD 0 z7).s (97:Int) (65:Int))<|some<|aq z7
def JP(name:ByteArray)(k:List Val):Option (RF Un):=af ((↑k.length:Int) !=(1:Int)) (some<|aq z7)<|af (name.toList==(ByteArray.mk #[97,98,115]).toList) (ae ((0:Int)≤(0:Int)∧(0:Int)<(↑k.length:Int))<|af ((k.getD 0 z7).kind ==2) (ae ((0:Int)≤(0:Int)∧(0:Int)<(↑k.length:Int))<|af (decide<|(k.getD 0 z7).n<0) (ae ((0:Int)≤(0:Int)∧(0:Int)<(↑k.length:Int))<|some<|aq<|ni (tT (k.getD 0 z7).n).fst (tT (k.getD 0 z7).n).snd)<|ae ((0:Int)≤(0:Int)∧(0:Int)<(↑k.length:Int))<|ae ((0:Int)≤(0:Int)∧(0:Int)<(↑k.length:Int))<|some<|aq<|ni (k.getD 0 z7).n<|bf (k.getD 0 z7).n)<|JO name k)<|JO name k
def ayg(name k):adL name k=af (name.toList==(ByteArray.mk #[99,111,97,108,101,115,99,101]).toList) ((JM<|pj k z7 (0:Int)).bind<|zd JN) (af (name.toList==(ByteArray.mk #[110,117,108,108,105,102]).toList) (af ((↑k.length:Int)==(2:Int)) (ae ((0:Int)≤(0:Int)∧(0:Int)<(↑k.length:Int))<|ae ((0:Int)≤(1:Int)∧(1:Int)<(↑k.length:Int))<|af ((cj (k.getD 0 z7)<|k.getD 1 z7).snd) (af ((cj (k.getD 0 z7)<|k.getD 1 z7).fst ==0) (some<|aq z7)<|ae ((0:Int)≤(0:Int)∧(0:Int)<(↑k.length:Int))<|some<|aq<|k.getD 0 z7)<|ae ((0:Int)≤(0:Int)∧(0:Int)<(↑k.length:Int))<|some<|aq<|k.getD 0 z7)<|JP name k)<|JP name k):=ah
def adM(k b4 v0):JM (pj k b4 v0)=af (decide<|v0<(↑k.length:Int)) (ae (0≤v0∧v0<(↑k.length:Int))<|af ((k.getD v0.toNat z7).kind !=0) (ae (0≤v0∧v0<(↑k.length:Int))<|some (.ret,(pj k (k.getD v0.toNat z7) v0)))<|JM<|pj k b4<|IntKind.i64.wrap<|v0+1) (some (.exit 0,(pj k b4 v0))):=aF
theorem ayh(k b4 v0):JN .ret (pj k b4 v0)=some (aq b4):=ah
def ayi(k b4 v0):JN (.exit 0) (pj k b4 v0)=some (aq z7):=ah
def FZ(name:ByteArray)(k:List Val):Val:=oT name k
def ayj{α β:Type}{L:S Un→Option (EX Un)}{st er:Int→S Un}{C:Exit→S Un→Option β}(R:Int→Option β){l:List α}{d e}(p:α→Bool)(hl:l.length≤9223372036854775807)(step:∀(i:Nat)(x:α),(i:Int)<(l.length:Int)→l.getD i d=x→L (st i)=if p x=true then some (.ret,er i)else L (st (IntKind.i64.wrap ((i:Int)+1))))(stop:L (st (l.length:Int))=some (e,st (l.length:Int)))(r1:∀i:Nat,C .ret (er (i:Int))=R i)(r2:C e (st (l.length:Int))=R (-1)):(L (st 0)).bind (zd C)=R (match l.findIdx? p with|some i=>(i:Int)|none=>-1):=by
 have key:∀(k i:Nat),i+k=l.length→(L (st i)).bind (zd C)=R (match(l.drop i).findIdx? p with|some j=>((i+j:Nat):Int)|none=>-1):=by
  intro k
  induction k with
  |zero=>
   intro i hi;obtain rfl:i=l.length:=by omega
   rw[stop,sC];exact r2
  |succ k ih=>
   intro i hi;have hlt:i<l.length:=by omega
   rw[step i l[i] (by omega) (by grind),fR hlt,nQ];cases hq:p l[i]
   ·rw[if_neg (by simp),if_neg (by simp),zm (by omega)];refine(ih (i+1) (by omega)).trans ?_;cases(l.drop (i+1)).findIdx? p with
    |none=>rfl
    |some j=>grind
   ·exact r1 i
 have:=key l.length 0 (by omega);grind
def ayk name(k:List Val)(_hn:cm name)(_hk:WL .val k)(h:dY k):adL name k=some (aq (FZ name k)):=by
 have ht:∀i,i<k.length→(k.getD i z7).s.size≤2000000:=fun i hi=>h.2 _ (by grind);rw[ayg];unfold FZ oT gu;simp only[z8];by_cases c1:(name.toList==(ByteArray.mk #[99,111,97,108,101,115,99,101]).toList)=true
 ·rw[if_pos c1,if_pos c1]
  refine(ayj (L:=JM) (st:=fun i=>pj k z7 i) (er:=fun i=>pj k (k.getD i.toNat z7) i) (C:=JN) (e:=.exit 0) (fun j=>some (aq (if 0≤j then k.getD j.toNat z7 else z7))) (l:=k) (d:=z7) lI _hk.len
   (fun i x hi hx=>by
    rw[adM];simp only[z8,hi,decide_true,if_true,and_true,y5,hx]
    rw[z6 (by omega),z6 (by omega)];rfl)
   (by rw[adM];simp[z8]) (fun i=>by simp[ayh,if_pos]) (by rw[ayi];rfl)).trans ?_
  rfl
 have t1:k.length=1→JO name k=some (aq (uT name (k.getD 0 z7))):=fun hc=>by
  unfold JO uT gu;simp only[z8,bne_iff_ne,ne_eq];rw[z6 (by omega)];by_cases d1:(k.getD 0 z7).kind=3
  ·rw[if_neg (not_not_intro d1),if_neg (not_not_intro d1),z6 (by omega),z6 (by omega),z6 (ht 0 (by omega)),z6 (by omega),z6 (ht 0 (by omega))];split
   ·rfl
   ·split
    ·rfl
    ·split<;>rfl
  grind
 have t2:JP name k=some (aq (uU name k)):=by
  unfold JP uU gu;simp only[z8,bne_iff_ne,ne_eq,beq_iff_eq,decide_eq_true_eq];by_cases hc:k.length=1
  ·rw[if_neg (by omega),if_neg (not_not_intro hc),t1 hc]
   repeat rw[z6 (by omega)]
   by_cases d1:name.toList=(ByteArray.mk #[97,98,115]).toList
   ·rw[if_pos d1];by_cases d2:(k.getD 0 z7).kind=2
    ·have d:=And.intro d1 d2;rw[if_pos d2,if_pos d];split<;>rfl
    grind
   grind
  grind
 by_cases c2:(name.toList==(ByteArray.mk #[110,117,108,108,105,102]).toList)=true
 ·by_cases c3:k.length=2
  ·repeat rw[z6 (by omega)]
   unfold cj;grind
  grind
 grind
def adN:au Un:=aD cB (dL .val) fun name k=>([dY k],aq<|FZ name k)
def ayl:aj 126 adN:=aJ cN zi (M:=JL) rfl ⟨Rl,adc,Pf,vM,D9,axT,trivial⟩ Tryz.func126 fun name k=>GiF.r fun w o=>ayk name k (am w 0) (am w 1)<|aA o 0
def adO:Mc Un:=az [(173,O7),(172,FW),(99,rd),(176,acO),(125,xT),(69,CX)] [] [] [] []
def adP(op:Int)(a:Val):Option (RF Un):=aw adO aV Tryz.f131 0 [.d] [.d<|.v<|.s<|.int .i64 op,.d<|.agg<|enc Ty.val a]
def aym(op a):adP op a=af (op==3) (af (a.kind==2) (some<|aq<|ni (tT a.n).fst (tT a.n).snd)<|some<|aq z7) (af (op==4) (some<|aq<|pg<|FS<|ir a)<|af (op==19) (some<|aq<|cE<|a.kind==0)<|some<|aq z7):=ah
def ri(op:Int)(a:Val):Val:=if op=3∨op=4∨op=19 then ik op ⟨#[]⟩ [a]else z7
def ayn op(a:Val)(_ho:WI op)(_ha:WS .val a):adP op a=some (aq<|ri op a):=by
 rw[aym];unfold ri ik;simp only[z8,beq_iff_eq];by_cases c1:op=3
 ·subst c1;simp;have e:eM [a] 2=(a.kind==2):=by simp[eM]
  rw[e];cases c:a.kind==2
  ·grind
  ·rw[if_pos<|by grind];rfl
 by_cases c2:op=4
 ·subst c2;rfl
 by_cases c3:op=19
 all_goals simp_all[O0,IQ,if_neg]
def adQ:au Un:=aD (dI .i64) (dS .val) fun op a=>([],aq<|ri op a)
def ayo:aj 131 adQ:=aJ zn zo (M:=adO) rfl ⟨adc,Pf,xU,aw2,CZ,JB,trivial⟩ Tryz.func131 fun op a=>GiF.r fun w _=>ayn op a (am w 0)<|am w 1
def adR:Mc Un:=az [(177,ads),(178,adz),(179,adu),(180,CY),(129,JF),(99,rd),(130,O2),(125,xT),(123,FT),(181,adp),(69,CX)] [] [] [] []
def adS(op:Int)(k:List Val):Option (RF Un):=aw adR aV Tryz.f132 0 [.d] [.d<|.v<|.s<|.int .i64 op,.d<|.v<|.dat (U:=Un) Ty.val k]
def xZ(op:Int)(k:List Val):Option (RF Un):=af (AU k) (ae ((0:Int)≤(0:Int)∧(0:Int)<(↑k.length:Int))<|ae ((0:Int)≤(1:Int)∧(1:Int)<(↑k.length:Int))<|some<|aq<|FX op (k.getD 0 z7).n (k.getD 1 z7).n)<|some<|aq z7
def tV(op:Int)(k:List Val):Option (RF Un):=ae ((0:Int)≤(0:Int)∧(0:Int)<(↑k.length:Int))<|ae ((0:Int)≤(1:Int)∧(1:Int)<(↑k.length:Int))<|ae (11≤op∧op≤16)<|some<|aq<|tU op (k.getD 0 z7)<|k.getD 1 z7
def ayp(op k):adS op k=af (op==5) (xZ op k) (af (op==6) (xZ op k)<|af (op==7) (xZ op k)<|af (op==8) (xZ op k)<|af (op==9) (xZ op k)<|af (op==10) (af (xX k) (ae ((0:Int)≤(0:Int)∧(0:Int)<(↑k.length:Int))<|ae ((0:Int)≤(1:Int)∧(1:Int)<(↑k.length:Int))<|af (decide<|IntKind.i64.wrap ((↑(k.getD 0 z7).s.size:Int)+(↑(k.getD 1 z7).s.size:Int))≤100) (ae ((0:Int)≤(0:Int)∧(0:Int)<(↑k.length:Int))<|ae ((0:Int)≤(1:Int)∧(1:Int)<(↑k.length:Int))<|ae ((k.getD 0 z7).s.size+(k.getD 1 z7).s.size≤(9223372036854775807:Nat))<|some<|aq<|fL<|(k.getD 0 z7).s++(k.getD 1 z7).s)<|some<|aq z7)<|some<|aq z7)<|af (op==11) (tV op k)<|af (op==12) (tV op k)<|af (op==13) (tV op k)<|af (op==14) (tV op k)<|af (op==15) (tV op k)<|af (op==16) (tV op k)<|af (op==17) (ae ((0:Int)≤(0:Int)∧(0:Int)<(↑k.length:Int))<|ae ((0:Int)≤(1:Int)∧(1:Int)<(↑k.length:Int))<|some<|aq<|pg<|AO (ir<|k.getD 0 z7)<|ir<|k.getD 1 z7)<|af (op==18) (ae ((0:Int)≤(0:Int)∧(0:Int)<(↑k.length:Int))<|ae ((0:Int)≤(1:Int)∧(1:Int)<(↑k.length:Int))<|some<|aq<|pg<|sx (ir<|k.getD 0 z7)<|ir<|k.getD 1 z7)<|af (op==20) (af (xX k) (ae ((0:Int)≤(0:Int)∧(0:Int)<(↑k.length:Int))<|ae ((0:Int)≤(1:Int)∧(1:Int)<(↑k.length:Int))<|ae ((k.getD 0 z7).s.size≤(2000000:Nat))<|ae ((k.getD 1 z7).s.size≤(2000000:Nat))<|some<|aq<|cE<|C3 (k.getD 0 z7).s (k.getD 1 z7).s)<|some<|aq z7)<|some<|aq z7):=ah
def jf(op:Int)(k:List Val):Val:=if(5≤op∧op≤18)∨op=20 then ik op ⟨#[]⟩ k else z7
def ayq op(k:List Val)(_ho:WI op)(_hk:WL .val k)(h2:k.length=2)(h:dY k):adS op k=some (aq (jf op k)):=by
 have t0:=h.2 (k.getD 0 z7) (by grind);have t1:=h.2 (k.getD 1 z7) (by grind);obtain⟨a,b,rfl⟩:∃a b,k=[a,b]:=by
  match k,h2 with
  |[a,b],_=>simp
 have hi:AU [a,b]=eM [a,b] 2:=by unfold AU eM;simp
 have hx:xX [a,b]=eM [a,b] 3:=by unfold xX eM;simp
 have hl:(([a,b]:List Val).length:Int)=2:=rfl;rw[ayp];unfold xZ tV;rw[hi,hx,hl];simp only[z8,beq_iff_eq];by_cases c5:op=5∨op=6∨op=7∨op=8∨op=9
 ·have e:∀X Y:Option (RF Un),(if op=5 then X else if op=6 then X else if op=7 then X else if op=8 then X else if op=9 then X else Y)=X:=fun X Y=>by grind
  have hr:jf op [a,b]=if eM [a,b] 2=true then gp (jZ op a.n b.n).1 (jZ op a.n b.n).2 else z7:=by
   unfold jf ik;grind
  rw[e,z6 (by omega),z6 (by omega),hr];split<;>rfl
 rw[if_neg (by omega),if_neg (by omega),if_neg (by omega),if_neg (by omega),if_neg (by omega)];by_cases c10:op=10
 ·have hr:jf op [a,b]=if eM [a,b] 3=true then(if a.s.size+b.s.size≤100 then fL (a.s++b.s)else z7)else z7:=by
   subst c10;rfl
  rw[if_pos c10,hr];by_cases hk:eM [a,b] 3=true
  ·rw[if_pos hk,if_pos hk,z6 (by omega),z6 (by omega),zm (by omega)];by_cases hs:a.s.size+b.s.size≤100
   ·rw[if_pos (by grind),if_pos hs,z6 (by omega),z6 (by omega),z6 (by omega)];rfl
   grind
  grind
 rw[if_neg c10];by_cases c11:op=11∨op=12∨op=13∨op=14∨op=15∨op=16
 ·have e:∀X Y:Option (RF Un),(if op=11 then X else if op=12 then X else if op=13 then X else if op=14 then X else if op=15 then X else if op=16 then X else Y)=X:=fun X Y=>by grind
  have hr:jf op [a,b]=dO op a b:=by
   unfold jf ik;grind
  rw[e,hr,z6 (by omega),z6 (by omega),z6 (by omega)];rfl
 rw[if_neg (by omega),if_neg (by omega),if_neg (by omega),if_neg (by omega),if_neg (by omega),if_neg (by omega)];by_cases c17:op=17
 ·subst c17;rw[if_pos rfl,z6 (by omega),z6 (by omega)];rfl
 rw[if_neg c17];by_cases c18:op=18
 ·subst c18;rw[if_pos rfl,z6 (by omega),z6 (by omega)];rfl
 rw[if_neg c18];by_cases c20:op=20
 ·have hr:jf op [a,b]=if eM [a,b] 3=true then cE (tr a.s b.s)else z7:=by
   subst c20;rfl
  rw[if_pos c20,hr,z6 (by omega),z6 (by omega),z6 t0,z6 t1];split<;>rfl
 ·have hr:jf op [a,b]=z7:=by unfold jf;grind
  grind
def adT:au Un:=aD (dI .i64) (dL .val) fun op k=>([k.length=2,dY k],aq<|jf op k)
def ayr:aj 132 adT:=aJ zn zi (M:=adR) rfl ⟨axW,ax4,axZ,acG,Rn,xU,acQ,CZ,O3,axQ,JB,trivial⟩ Tryz.func132 fun op k=>GiF.r fun w o=>ayq op k (am w 0) (am w 1) (aA o 0)<|aA o 1
def adU:Mc Un:=az [(126,adN),(127,adH),(128,adK),(129,JF),(99,rd),(130,O2),(125,xT),(131,adQ),(132,adT)] [] [] [] []
def adV(op:Int)(name:ByteArray)(kids:List Val):Option (RF Un):=aw adU aV Tryz.f72 0 [.d] [.d<|.v<|.s<|.int .i64 op,.d<|.v<|cs name,.d<|.v<|.dat (U:=Un) Ty.val kids]
def JQ(op:Int)(kids:List Val):Option (RF Un):=af ((↑kids.length:Int)==(1:Int)) (ae ((0:Int)≤(0:Int)∧(0:Int)<(↑kids.length:Int))<|some<|aq<|ri op<|kids.getD 0 z7)<|af ((↑kids.length:Int)==(2:Int)) (ae (kids.length=(2:Nat))<|ae (dY kids)<|some<|aq<|jf op kids)<|some<|aq z7
def JR(op:Int)(kids:List Val):Option (RF Un):=af (op==22) (af ((↑kids.length:Int)==(3:Int)) (ae ((0:Int)≤(0:Int)∧(0:Int)<(↑kids.length:Int))<|ae ((0:Int)≤(1:Int)∧(1:Int)<(↑kids.length:Int))<|ae ((11:Int)≤(16:Int)∧(16:Int)≤(16:Int))<|ae ((0:Int)≤(0:Int)∧(0:Int)<(↑kids.length:Int))<|ae ((0:Int)≤(2:Int)∧(2:Int)<(↑kids.length:Int))<|ae ((11:Int)≤(14:Int)∧(14:Int)≤(16:Int))<|some<|aq<|pg<|AO (ir<|tU (16:Int) (kids.getD 0 z7)<|kids.getD 1 z7)<|ir<|tU (14:Int) (kids.getD 0 z7)<|kids.getD 2 z7)<|JQ op kids)<|JQ op kids
def JS(op:Int)(kids:List Val):Option (RF Un):=af (op==23) (af (decide<|(↑kids.length:Int)>(1:Int)) (some<|aq<|Pi kids)<|JR op kids)<|JR op kids
def ays(op name kids):adV op name kids=af (op==24) (ae (dY kids)<|some<|aq<|FZ name kids) (af (op==21) (af (decide<|(↑kids.length:Int)>(1:Int)) (ae ((0:Int)≤(0:Int)∧(0:Int)<(↑kids.length:Int))<|ae ((0:Int)≤(1:Int)∧(1:Int)≤(↑kids.length:Int))<|some<|aq<|FY (kids.getD 0 z7)<|List.drop 1 kids)<|JS op kids)<|JS op kids):=ah
def C4(op:Int)(name:ByteArray)(kids:List Val):Val:=cJ op name kids
def ayt op name(kids:List Val)(_ho:WI op)(_hn:cm name)(_hk:WL .val kids)(h:dY kids):adV op name kids=some (aq<|C4 op name kids):=by
 have hlen:=h.1;have nm:∀n2,op≠24→ik op n2 kids=ik op name kids:=fun n2 h=>by unfold ik;simp[*]
 have off:¬(3≤op∧op≤24)→ik op name kids=z7:=fun h=>by
  unfold ik;rw[if_neg<|by omega,if_neg<|by omega,if_neg<|by omega,if_neg<|by omega,if_neg<|by omega,if_neg<|by omega,if_neg<|by omega,if_neg<|by omega,if_neg<|by omega,if_neg<|by omega,if_neg<|by omega,if_neg<|by omega,if_neg<|by omega]
 have hz:(kids.length:Int)<(bS op).1∨(bS op).2=false∧(kids.length:Int)>(bS op).1→cJ op name kids=z7:=fun h=>by unfold cJ;grind
 have hb:¬((kids.length:Int)<(bS op).1∨(bS op).2=false∧(kids.length:Int)>(bS op).1)→cJ op name kids=ik op name kids:=fun h=>by unfold cJ;grind
 show _=some (aq<|cJ op name kids);rw[ays];simp only[z8,beq_iff_eq,decide_eq_true_eq];by_cases c24:op=24
 ·have e:bS op=(0,true):=by rw[c24];rfl
  rw[if_pos c24,z6 h,hb<|by grind,c24];rfl
 rw[if_neg c24];have t1:op≠22∨kids.length≠3→op≠23∨kids.length≤1→op≠21∨kids.length≤1→JQ op kids=some (aq<|cJ op name kids):=fun g22 g23 g21=>by
  unfold JQ;simp only[z8,beq_iff_eq];have e1:op=3∨op=4∨op=19→bS op=(1,false):=fun c=>by unfold bS;grind
  have e2:op=21∨op=23→bS op=(2,true):=fun c=>by unfold bS;grind
  have e3:op=22→bS op=(3,false):=fun c=>by rw[c];rfl
  have e4:¬(op=3∨op=4∨op=19)→¬(op=21∨op=23)→op≠22→bS op=(2,false):=fun c d f=>by simp_all[bS,if_neg]
  by_cases c:op=3∨op=4∨op=19
  ·have e:=e1 c;by_cases l1:kids.length=1
   ·rw[if_pos<|by omega,z6<|by omega,hb<|by grind,←nm ⟨#[]⟩ c24];obtain⟨a,rfl⟩:∃a,kids=[a]:=by
     match kids,l1 with
     |[a],_=>simp
    simp_all[ri,if_pos]
   ·rw[if_neg<|by omega,hz<|by grind];by_cases l2:kids.length=2
    ·rw[if_pos<|by omega,z6 l2,z6 h];unfold jf;grind
    grind
  by_cases d:op=21∨op=23
  ·have e:=e2 d;rw[hz<|by grind];by_cases l1:kids.length=1
   ·simp_all[if_pos,z6,ri,if_neg]
   grind
  by_cases f:op=22
  ·by_cases l1:kids.length=1
   ·simp_all[if_pos,z6,ri,if_neg]
   ·by_cases l2:kids.length=2
    ·simp_all[if_pos,z6,jf,if_neg]
    grind
  by_cases l1:kids.length=1
  ·simp_all[if_pos,z6,ri,if_neg]
  ·rw[if_neg<|by omega];by_cases l2:kids.length=2
   ·rw[if_pos<|by omega,z6 l2,z6 h,hb<|by grind];unfold jf;grind
   grind
 have t2:op≠23∨kids.length≤1→op≠21∨kids.length≤1→JR op kids=some (aq<|cJ op name kids):=fun g23 g21=>by
  unfold JR;simp only[z8,beq_iff_eq];by_cases c22:op=22
  ·rw[if_pos c22];by_cases l3:kids.length=3
   ·have e:bS op=(3,false):=by rw[c22];rfl
    rw[if_pos<|by omega,hb<|by grind]
    repeat rw[z6<|by omega]
    rw[c22];rfl
   grind
  grind
 have t3:op≠21∨kids.length≤1→JS op kids=some (aq<|cJ op name kids):=fun g21=>by
  unfold JS;simp only[z8,beq_iff_eq,decide_eq_true_eq];by_cases c23:op=23
  ·by_cases l:(kids.length:Int)>1
   ·have e:bS op=(2,true):=by rw[c23];rfl
    rw[if_pos l,hb<|by grind,c23];rfl
   grind
  grind
 by_cases c:op=21
 ·by_cases l:(kids.length:Int)>1
  ·have e:bS op=(2,true):=by rw[c];rfl
   rw[if_pos l,z6<|by omega,z6<|by omega,hb<|by grind,c];rfl
  grind
 grind
def Pk:au Un:=dW (dI .i64) cB (dL .val) fun op name kids=>([dY kids],aq<|C4 op name kids)
def adW:aj 72 Pk:=jl zn cN zi (M:=adU) rfl ⟨ayl,ayb,ayf,Rn,xU,acQ,CZ,ayo,ayr,trivial⟩ Tryz.func72 fun op name kids=>GiF.r fun w o=>ayt op name kids (am w 0) (am w 1) (am w 2)<|aA o 0
def rj(t:Term)(env:List (List Val)):Val:=il t env
def Pl(m:Nat):au Un:=aD (dS .term) (dL .row) fun t env=>bB t.ht m ([t.sz≤2000000,dZ t,cT env],aq<|rj t env)
def F2(m:Nat):Mc Un:=az [(71,Pl m),(72,Pk)] [] [] [] []
def Pm:Nat→NS:=aO [(14,{ts:=bl 80 118,bs:=bl 80 20,nm:=[(.sl 5,320)],cs:=true})] true
def tW(t:Term)(env:List (List Val))(v0:Int)(v1:List Val):S Un:=(st 80 80 321 0 [(1,al .row env),(2,ax 2),(4,ax 4),(5,ao 320),(6,ai v0)] [(2,bg .term t),(4,bg .val z7)] [(320,some ⟨(0:Nat),Ty.val,v1,some (0:Nat),true⟩)])
def C6(m:Nat):S Un→Option (EX Un):=aC (F2 m) Pm Tryz.f71 [1,1,1,0,1,2,2] 14
def Pn(m:Nat):Exit→S Un→Option (RF Un):=aE (F2 m) Pm Tryz.f71 [1,1,1,0,1,2] [.d]
def adX(m:Nat)(t:Term)(env:List (List Val)):Option (RF Un):=aw (F2 m) Pm Tryz.f71 1 [.d] [.d<|.agg<|enc Ty.term t,.d<|.v<|.dat (U:=Un) Ty.row env]
def ayu(m t env):adX m t env=af (t.op==1) (some<|aq t.v) (af (t.op==2) (af (decide<|t.depth<0) (some<|aq z7)<|af (decide<|t.depth≥(↑env.length:Int)) (some<|aq z7)<|af (decide<|t.at_<0) (some<|aq z7)<|ae (0≤t.depth∧t.depth<(↑env.length:Int))<|af (decide<|t.at_≥(↑(List.length<|env.getD t.depth.toNat []):Int)) (some<|aq z7)<|ae (0≤t.depth∧t.depth<(↑env.length:Int))<|ae (0≤t.at_∧t.at_<(↑(List.length<|env.getD t.depth.toNat []):Int))<|some<|aq<|List.getD (env.getD t.depth.toNat []) t.at_.toNat z7)<|af (t.op==26) (some<|aq z7)<|af (t.op==27) (some<|aq z7)<|af (t.op==28) (some<|aq z7)<|(C6 m<|tW t env (0:Int)<|[]).bind<|zd<|Pn m):=ah
def adY(m t env v0 v1):C6 m (tW t env v0 v1)=af (decide<|v0<(↑t.kids.length:Int)) (ae (0≤v0∧v0<(↑t.kids.length:Int))<|ae ((Term.ids<|t.kids.getD v0.toNat zb).ht<m)<|ae ((Term.ids<|t.kids.getD v0.toNat zb).sz≤(2000000:Nat))<|ae (dZ<|Term.ids<|t.kids.getD v0.toNat zb)<|ae (cT env)<|ae ((v1.length+[(rj (Term.ids<|t.kids.getD v0.toNat zb) env)].length)*(32:Nat)≤ze)<|C6 m<|tW t env (IntKind.i64.wrap<|v0+1)<|v1++[(rj (Term.ids<|t.kids.getD v0.toNat zb) env)]) (some (.exit 1,(tW t env v0 v1))):=aF
def ayv(m t env v0 v1):Pn m (.exit 1) (tW t env v0 v1)=ae (dY v1) (some<|aq<|C4 t.op t.name v1):=ah
def ayw m(t:Term)(env:List (List Val))(ht:WS .term t)(_he:WL .row env)(hm:t.ht<m+1)(h1:t.sz≤2000000)(h2:dZ t)(h3:cT env):adX m t env=some (aq<|rj t env):=by
 have hlen:=fG t.kids;have hsz:=t.sz_eq;have hk:WL .term t.kids:=ht.term_kids;have hst:=(E6 t).1 h2
 obtain⟨lp,_⟩:=zy (e:=.exit 1) (L:=C6 m) (st:=fun(o:List Val) i=>tW t env i o) (l:=t.kids) (d:=zb) (g:=fun o x=>o++[il x env]) (fun i o=>o.length=i) hk.len
  (fun o i x hi hx hI=>by
   have hmem:x∈t.kids:=by grind
   refine⟨by grind,?_⟩;have hht:=Term.ht_kid hmem;have hxs:=p4 hmem;rw[adY];simp only[z8,hi,decide_true,if_true,and_true,y5,hx,Term.ids_eq]
   rw[z6 (by omega),z6 (by omega),z6 (by omega),z6 (strTs_mem.1 hst.2 x hmem),z6 h3,z6 (by grind[ze,List.length_singleton])];rfl)
  (fun o _=>by rw[adY];simp[z8]) [] rfl
 rw[ij,yr]at lp;have he:t.kids.map (fun x=>il x env)=kF cJ env t.kids:=(E5 _ _ _).symm;rw[he]at lp;have hx:(C6 m<|tW t env (0:Int) []).bind (zd<|Pn m)=some (aq<|C4 t.op t.name<|kF cJ env t.kids):=by
  refine(zf lp).trans ?_;rw[ayv,z6 ⟨by grind,I2 h3 t.kids hst.2⟩]
 rw[ayu,hx];have e:rj t env=nH cJ env t:=rfl;rw[e,Zn];simp only[z8,beq_iff_eq,decide_eq_true_eq];by_cases c1:t.op=1
 ·grind
 rw[if_neg c1,if_neg c1];by_cases c2:t.op=2
 ·unfold uV;by_cases d1:t.depth<0
  ·grind
  by_cases d2:t.depth≥(env.length:Int)
  ·grind
  by_cases d3:t.at_<0
  ·grind
  by_cases d4:t.at_≥((env.getD t.depth.toNat []).length:Int)
  all_goals simp_all[if_pos,if_neg,z6]
 rw[if_neg c2,if_neg c2];by_cases c3:t.op=26∨t.op=27∨t.op=28
 ·grind
 ·rw[if_neg<|by omega,if_neg<|by omega,if_neg<|by omega,if_neg c3];rfl
abbrev adZ(m:Nat):Prop:=aj 71<|Pl m
def ayx(m:Nat)(hG:adZ m):aj 71 (Pl<|m+1):=aJ zo zi (M:=(F2 m)) rfl ⟨hG,adW,trivial⟩ Tryz.func71 fun t env=>GiF.r fun w o=>ayw m t env (am w 0) (am w 1) (aA o 0) (aA o 1) (aA o 2)<|aA o 3
def ad0:∀m,adZ m
 |0=>ew
 |m+1=>ayx m<|ad0 m
def ad1:au Un:=aD (dS .term) (dL .row) fun t env=>([t.sz≤2000000,dZ t,cT env],aq<|rj t env)
def ayy:aj 71 ad1:=rP fun m=>(ad0 m)
def ad2(a:Agg):Option (RF Un):=aw av aN Tryz.f230 0 [.d] [.d<|.agg<|enc Ty.agg a]
theorem ayz(a):ad2 a=af (a.name.toList==(ByteArray.mk #[99,111,117,110,116]).toList) (some<|ak<|(↑a.t.length:Int)==(0:Int)) (some<|ak false):=ah
def x7(a:Agg):Bool:=
 if(a.name.toList==(ByteArray.mk #[(99:UInt8),(111:UInt8),(117:UInt8),(110:UInt8),(116:UInt8)]).toList)=true then
  ((↑a.t.length:Int)==(0:Int))
 else
  (false)
def ayA a:ad2 a=some (ak<|x7 a):=by grind[ayz,x7,z8]
def ad3:au Un:=aQ (dS .agg) fun a=>([],ak<|x7 a)
def ayB:aj 230 ad3:=aU zo (M:=av) rfl trivial Tryz.func230 fun a=>GiF.r fun _ _=>ayA a
open Classical in
def jg(a:Agg):Bool:=decide<|a.name=eX∧a.t=[]
def ayC a:x7 a=jg a:=by
 unfold x7 jg;simp only[Fb,Ay,decide_eq_true_eq];grind[eX,List.eq_nil_of_length_eq_zero]
open Classical in
def AW(a:Agg)(out:List Val)(v:Val):List Val:=if iw a.name v=true∧(a.distinct=true→¬v∈out)then out++[v]else out
def eF(a:Agg)(l:List Val):List Val:=if jg a=true then l else l.foldl (AW a) []
def x8:Mc Un:=az [(230,ad3),(38,zU),(82,BD)] [] [] [] []
def lV(r:List Val):RF Un:=([.c<|.sl (U:=Un) Ty.val r false],[])
def rk:Nat→NS:=aO [(5,{ts:=bl 76 102,bs:=bl 76 4,nm:=[(.sl 5,304)]}),(9,{ts:=bl 76 486,bs:=bl 76 4,nm:=[(.sl 5,305)]})] false
def rm(a:Agg)(l:List Val)(v0:Int)(v1:List Val):S Un:=(st 76 76 306 0 [(1,al .val l),(2,ax 2),(5,ao 304),(6,ai v0)] [(2,bg .agg a)] [(304,some ⟨(0:Nat),Ty.val,v1,some (0:Nat),true⟩)])
def jh(a:Agg)(l:List Val)(v0:Int)(v1:List Val)(v2:Bool)(v3:Int):S Un:=(st 76 76 306 0 [(1,al .val l),(2,ax 2),(5,ao 305),(6,ai v0),(7,ab v2),(8,ai v3)] [(2,bg .agg a)] [(305,some ⟨(0:Nat),Ty.val,v1,some (0:Nat),true⟩)])
def tX:S Un→Option (EX Un):=aC x8 rk Tryz.f196 [1,1,1,0,1,2,2] 5
noncomputable def ad4:Code:=sub (sub (zh Tryz.f196) [1,1,1,0,1,2,2]) [1,0,2,1,0,1,2,2]
def nj:S Un→Option (EX Un):=bA (rk 9) fun s Q=>aR x8 rk ad4 s Q
def ad5:Exit→S Un→Option (RF Un):=aE x8 rk Tryz.f196 [1,1,1,0,1,2] [.d]
def x9:Exit→S Un→Option (EX Un):=bu x8 rk (sub (zh Tryz.f196) [1,1,1,0,1,2,2]) [1,0,2,1,0,1,2]<|eV (rk 5) tX
def ad6(a:Agg)(l:List Val):Option (RF Un):=aw x8 rk Tryz.f196 2 [.d] [.d<|.agg<|enc Ty.agg a,.d<|.v<|.dat (U:=Un) Ty.val l]
def ayD(a l):ad6 a l=af (x7<|Agg.ids a) (some<|lV l) ((tX<|rm a l (0:Int)<|[]).bind<|zd ad5):=ah
def ad7(a l v0 v1):tX (rm a l v0 v1)=af (decide<|v0<(↑l.length:Int)) (ae (0≤v0∧v0<(↑l.length:Int))<|af (jA<|l.getD v0.toNat z7) (ae (0≤v0∧v0<(↑l.length:Int))<|af ((l.getD v0.toNat z7).kind !=0) (af (!a.name.toList==(ByteArray.mk #[115,117,109]).toList) ((nj<|jh a l v0 v1 true (0:Int)).bind<|zd x9)<|ae (0≤v0∧v0<(↑l.length:Int))<|(nj<|jh a l v0 v1 ((l.getD v0.toNat z7).kind ==2) (0:Int)).bind<|zd x9)<|(nj<|jh a l v0 v1 false (0:Int)).bind<|zd x9)<|(nj<|jh a l v0 v1 false (0:Int)).bind<|zd x9) (some (.exit 0,(rm a l v0 v1))):=aF
def ayE(a l v0 v1):ad5 (.exit 0) (rm a l v0 v1)=some (lV v1):=ah
def Ro a l v0 v1 v2 v3:nj (jh a l v0 v1 v2 v3)=af (decide<|v3<(↑v1.length:Int)) (af a.distinct (af v2 (ae (0≤v3∧v3<(↑v1.length:Int))<|ae (0≤v0∧v0<(↑l.length:Int))<|nj<|jh a l v0 v1 (cO (v1.getD v3.toNat z7) (l.getD v0.toNat z7) !=0)<|IntKind.i64.wrap<|v3+1)<|nj<|jh a l v0 v1 false<|IntKind.i64.wrap<|v3+1)<|some (.exit 2,(jh a l v0 v1 v2 v3))) (some (.exit 2,(jh a l v0 v1 v2 v3))):=(fU (rk 9) ad4 _).trans<|by kernel_rfl
def ayF(a l v0 v1 v2 v3):x9 (.exit 2) (jh a l v0 v1 v2 v3)=af v2 (ae (0≤v0∧v0<(↑l.length:Int))<|ae ((v1.length+[(l.getD v0.toNat z7)].length)*(32:Nat)≤ze)<|tX<|rm a l (IntKind.i64.wrap<|v0+1)<|v1++[(l.getD v0.toNat z7)]) (tX<|rm a l (IntKind.i64.wrap<|v0+1) v1):=ah
def f8(a:Agg)(l:List Val):List Val:=eF a l
@[simp] theorem ad8 a l:f8 a l=eF a l:=by rfl
open Classical in
def ayG(a:Agg)(l out:List Val)(i:Nat)(ok:Bool)(hi:i<l.length)(hl:out.length≤9223372036854775807):
 ∃j,nj (jh a l i out ok (0:Int))=some (.exit 2,jh a l i out (decide<|ok=true∧(a.distinct=true→¬l.getD i z7∈out)) j):=by
 obtain⟨v,hv⟩:∃v,v=l.getD i z7:=⟨_,rfl⟩;by_cases hd:a.distinct=true
 ·obtain⟨h,_⟩:=zy (e:=.exit 2) (L:=nj) (st:=fun b k=>jh a l i out b k) (l:=out) (d:=z7) (g:=fun b x=>if b=true then ordV x v !=0 else false) (fun _ _=>True) hl
   (fun b k x hk hx _=>⟨trivial,by
    rw[Ro];simp only[z8,hk,hd,decide_true,if_true,and_true,y5,hx,←hv,vO];cases b
    all_goals simp_all[if_true,z6]⟩)
   (fun b _=>by rw[Ro];simp[z8]) ok trivial
  have key:∀(r:List Val)(b:Bool),r.foldl (fun b x=>if b=true then ordV x v !=0 else false) b=decide (b=true∧¬v∈r):=by
   intro r
   induction r with
   |nil=>simp
   |cons x r ih=>
    intro b;rw[yq,ih];grind[ordV,ordV_zero,CB]
  grind
 ·refine⟨0,?_⟩;rw[Ro];simp only[z8,hd,if_false,mf,false_imp_iff,and_true,Bool.decide_eq_true,ite_self]
open Classical in
def ayH(a:Agg)(l:List Val)(_ha:WS .agg a)(_hl:WL .val l)(h:l.length≤1000000):ad6 a l=some (lV (f8 a l)):=by
 rw[ayD,Agg.ids_eq,z8,ayC];unfold f8 eF;by_cases hr:jg a=true
 ·grind
 ·rw[if_neg hr,if_neg hr]
  obtain⟨hl,_⟩:=zy (e:=.exit 0) (L:=tX) (st:=fun out i=>rm a l i out) (l:=l) (d:=z7) (g:=AW a) (fun i out=>out.length≤i) (by omega)
   (fun out i v hi hv hI=>by
    have hil:i<l.length:=by omega
    rw[ad7];have key:∀b,(nj (jh a l i out b (0:Int))).bind (zd x9)=tX (rm a l (IntKind.i64.wrap ((i:Int)+1)) (if b=true∧(a.distinct=true→¬v∈out)then out++[v]else out)):=by
     intro b;obtain⟨j,hj⟩:=ayG a l out i b hil (by omega);rw[zf hj,ayF];simp only[z8,hi,and_true,y5,hv,decide_eq_true_eq];grind[ze,z6]
    simp only[z8,hi,decide_true,if_true,and_true,y5,hv,LY,uW,Ay,key]
    grind[z6,AW,iw,fV,nmSum])
   (fun out _=>by rw[ad7];simp[z8]) [] (y7 _)
  rw[zf hl,ayE]
def ad9:au Un:=aD (dS .agg) (dL .val) fun a l=>([l.length≤1000000],lV<|f8 a l)
def ayI:aj 196 ad9:=aJ zo zi (M:=x8) rfl ⟨ayB,LZ,GP,trivial⟩ Tryz.func196 fun a l=>GiF.r fun w o=>ayH a l (am w 0) (am w 1)<|aA o 0
def jT:Nat→NS:=aO [(3,{ts:=bl 34 113,bs:=bl 34 0,nm:=[]}),(6,{ts:=bl 34 113,bs:=bl 34 0,nm:=[]}),(9,{ts:=bl 34 113,bs:=bl 34 0,nm:=[]})] false
def tY(l:List Val)(v0:Int)(v1:Int)(v2:Int):S Un:=(st 34 34 136 0 [(0,al .val l),(4,ai v0),(5,ai v1),(6,ai v2)] [] [])
def nk(l:List Val)(v0:Int)(v1:Int)(v2:Int)(v3:Int):S Un:=(st 34 34 136 0 [(0,al .val l),(4,ai v0),(5,ai v3),(6,ai v2)] [] [])
def tZ(l:List Val)(v0:Int)(v3:Int)(v2:Int):S Un:=(st 34 34 136 0 [(0,al .val l),(4,ai v0),(5,ai v3),(6,ai v2)] [] [])
def t6:S Un→Option (EX Un):=aC av jT Tryz.f231 [1,1,0,1,2,2] 3
noncomputable def aea:Code:=sub (sub (zh Tryz.f231) [1,1,0,1,2,2]) [1,0,2,1,0,2,2]
def yA:S Un→Option (EX Un):=bA (jT 6) fun s Q=>aR av jT aea s Q
noncomputable def aeb:Code:=sub (sub (zh Tryz.f231) [1,1,0,1,2,2]) [1,0,2,1,1,2,2]
def F3:S Un→Option (EX Un):=bA (jT 9) fun s Q=>aR av jT aeb s Q
def aec:Exit→S Un→Option (RF Un):=aE av jT Tryz.f231 [1,1,0,1,2] [.d,.d]
def Po:Exit→S Un→Option (EX Un):=bu av jT (sub (zh Tryz.f231) [1,1,0,1,2,2]) [1,0,2,1,0,2]<|eV (jT 3) t6
def aed:Exit→S Un→Option (EX Un):=bu av jT (sub (zh Tryz.f231) [1,1,0,1,2,2]) [1,0,2,1,1,2]<|eV (jT 3) t6
def aee(l:List Val):Option (RF Un):=aw av jT Tryz.f231 0 [.d,.d] [.d<|.v<|.dat (U:=Un) Ty.val l]
theorem ayJ(l):aee l=(t6<|tY l (0:Int) (0:Int) (0:Int)).bind (zd aec):=ah
def aef(l v0 v1 v2):t6 (tY l v0 v1 v2)=af (decide<|v2<(↑l.length:Int)) (ae (0≤v2∧v2<(↑l.length:Int))<|(yA<|nk l v0 default v2<|IntKind.i64.wrap<|v1+(l.getD v2.toNat z7).n).bind<|zd Po) (some (.exit 0,(tY l v0 v1 v2))):=aF
theorem ayK(l v0 v1 v2):aec (.exit 0) (tY l v0 v1 v2)=some (aS (v0,v1)):=ah
def Pp l v0 v1 v2 v3:yA (nk l v0 v1 v2 v3)=af (decide<|v3<0) (yA<|nk l (IntKind.i64.wrap<|v0- 1) default v2<|IntKind.i64.wrap<|v3+1000000000000000) (some (.exit 2,(nk l v0 default v2 v3))):=(fU (jT 6) aea _).trans<|by kernel_rfl
theorem aeg(l v0 v1 v2 v3):Po (.exit 2) (nk l v0 v1 v2 v3)=(F3<|tZ l v0 v3 v2).bind (zd aed):=ah
def aeh l v0 v3 v2:F3 (tZ l v0 v3 v2)=af (decide<|v3≥1000000000000000) (F3<|tZ l (IntKind.i64.wrap<|v0+1) (IntKind.i64.wrap<|v3- 1000000000000000) v2) (some (.exit 4,(tZ l v0 v3 v2))):=(fU (jT 9) aeb _).trans<|by kernel_rfl
theorem aei(l v0 v3 v2):aed (.exit 4) (tZ l v0 v3 v2)=t6 (tY l v0 v3<|IntKind.i64.wrap<|v2+1):=ah
def vh(l:List Val):Prop:=l.length≤1000000∧∀v∈l,-bigM≤v.n∧v.n≤bigM
def nl(l:List Val):Int×Int:=(di l/bigM,di l % bigM)
def vi(s:Int×Int)(v:Val):Int×Int:=(s.1+(s.2+v.n)/bigM,(s.2+v.n) % bigM)
theorem ayL:∀(l:List Val)(s:Int×Int),l.foldl vi s=(s.1+(s.2+di l)/bigM- s.2/bigM,(s.2+di l) % bigM)∨¬(0≤s.2∧s.2<bigM):=by
 intro l
 induction l with
 |nil=>
  intro s;by_cases h:0≤s.2∧s.2<bigM
  ·have e:di []=0:=rfl;have hb:bigM=1000000000000000:=rfl;grind
  omega
 |cons v l ih=>
  intro s;by_cases h:0≤s.2∧s.2<bigM
  ·have hb:bigM=1000000000000000:=rfl;have e:di (v::l)=v.n+di l:=rfl;rw[yq,e];rcases ih (vi s v)with g|g
   ·rw[g];unfold vi;grind
   grind[vi]
  omega
def ayM(l:List Val)(_hl:WL .val l)(h:vh l):aee l=some (aS (nl l)):=by
 obtain⟨h1,h2⟩:=h;have hb:bigM=1000000000000000:=rfl
 obtain⟨hl,_⟩:=zy (e:=.exit 0) (L:=t6) (st:=fun(s:Int×Int) i=>tY l s.1 s.2 i) (l:=l) (d:=z7) (g:=vi) (fun i s=>(-(i:Int)≤s.1∧s.1≤i)∧0≤s.2∧s.2<bigM) (by omega)
  (fun s i v hi hv hI=>by
   obtain⟨p,q⟩:=s
   have hv2:=h2 v (by
    grind)
   unfold vi;rw[aef];simp only[z8,hi,decide_true,if_true,and_true,y5,hv];rw[z6 (by omega),zm (n:=q+v.n) (by omega)];have k9:∀(p0 x:Int),(-2000000≤p0∧p0≤2000000)→0≤x→x<2000000000000000→F3 (tZ l p0 x i)=some (.exit 4,tZ l (p0+x/1000000000000000) (x % 1000000000000000) i):=by
    intro p0 x hp hx0 hx1;rw[aeh,z8];by_cases hx:x≥1000000000000000
    ·rw[if_pos (by grind),zm (n:=p0+1) (by omega),zm (n:=x- 1000000000000000) (by omega),aeh,z8,if_neg (by grind)];grind
    grind
   have k6:∀(p0 x:Int),(-1000001≤p0∧p0≤1000001)→-1000000000000000≤x→x<2000000000000000→(yA (nk l p0 default i x)).bind (zd Po)=t6 (tY l (p0+x/1000000000000000) (x % 1000000000000000) (IntKind.i64.wrap ((i:Int)+1))):=by
    intro p0 x hp hx0 hx1;by_cases hx:x<0
    ·have e:yA (nk l p0 default i x)=some (.exit 2,nk l (p0- 1) default i (x+1000000000000000)):=by
      rw[Pp,z8,if_pos (by grind),zm (n:=p0- 1) (by omega),zm (n:=x+1000000000000000) (by omega),Pp,z8,if_neg (by grind)]
     rw[zf e,aeg,zf (k9 _ _ (by omega) (by omega) (by omega)),aei];grind
    ·have e:yA (nk l p0 default i x)=some (.exit 2,nk l p0 default i x):=by
      rw[Pp,z8,if_neg (by grind)]
     grind[zf,aeg,aei]
   grind)
  (fun s _=>by rw[aef];simp[z8]) (0,0) ⟨by simp,by omega⟩
 grind[ayJ,zf,ayK,nl,ayL,bigM]
def aej:au Un:=aQ (dL .val) fun l=>([vh l],aS<|nl l)
def ayN:aj 231 aej:=aU zi (M:=av) rfl trivial Tryz.func231 fun l=>GiF.r fun w o=>ayM l (am w 0)<|aA o 0
def aek:Mc Un:=az [(231,aej),(73,lj),(174,BG)] [] [] [] []
def ael(l:List Val):Option (RF Un):=aw aek aN Tryz.f197 0 [.d] [.d<|.v<|.dat (U:=Un) Ty.val l]
def ayO(l):ael l=ae (vh l) (af (decide<|(nl l).fst<(-2:Int)) (some<|aq z7)<|af (decide<|(nl l).fst >1) (some<|aq z7)<|af (!bf (IntKind.i64.wrap<|IntKind.i64.wrap ((nl l).fst*1000000000000000)+(nl l).snd)) (some<|aq z7)<|some<|aq<|zk<|IntKind.i64.wrap<|IntKind.i64.wrap ((nl l).fst*1000000000000000)+(nl l).snd):=ah
def F4(l:List Val):Val:=Fa<|di l
def ayP(l:List Val)(_hl:WL .val l)(h:vh l):ael l=some (aq<|F4 l):=by
 have hb:bigM=1000000000000000:=rfl;rw[ayO,z6 h];unfold F4 nl Fa;simp only[hb,z8,decide_eq_true_eq,fH,Fd];generalize di l=n at*;have hw:IntKind.i64.wrap (IntKind.i64.wrap (n/1000000000000000*1000000000000000)+n % 1000000000000000)=n∨(n/1000000000000000< -2∨n/1000000000000000>1):=by
  grind[zm]
 by_cases h1:n/1000000000000000< -2
 ·rw[if_pos h1,if_neg<|by grind[cR]]
 ·by_cases h2:n/1000000000000000>1
  ·rw[if_neg h1,if_pos h2,if_neg<|by grind[cR]]
  grind
def aem:au Un:=aQ (dL .val) fun l=>([vh l],aq<|F4 l)
def ayQ:aj 197 aem:=aU zi (M:=aek) rfl ⟨ayN,vM,D9,trivial⟩ Tryz.func197 fun l=>GiF.r fun w o=>ayP l (am w 0)<|aA o 0
def F6:Mc Un:=az [(196,ad9),(174,BG),(197,aem),(82,BD)] [] [] [] []
def Pq:Nat→NS:=aO [(12,{ts:=bl 72 244,bs:=bl 72 84,nm:=[],gb:=[6]})] false
def pk(a:Agg)(l:List Val)(b6:Val)(v0:Int):S Un:=(st 72 72 288 0 [(2,ax 2),(4,ax 4),(5,al .val<|f8 (Agg.ids a) l),(6,ax 6),(7,ai v0)] [(2,bg .agg a),(4,bg .val z7),(6,bg .val b6)] [])
def t7:S Un→Option (EX Un):=aC F6 Pq Tryz.f151 [1,1,1,1,1,1,1,0,1,2,2] 12
def Pr:Exit→S Un→Option (RF Un):=aE F6 Pq Tryz.f151 [1,1,1,1,1,1,1,0,1,2] [.d]
def aen(a:Agg)(l:List Val):Option (RF Un):=aw F6 Pq Tryz.f151 0 [.d] [.d<|.agg<|enc Ty.agg a,.d<|.v<|.dat (U:=Un) Ty.val l]
def Ps(a:Agg)(l:List Val):Option (RF Un):=ae ((0:Int)≤(0:Int)∧(0:Int)<(↑(f8 (Agg.ids a) l).length:Int))<|(t7<|pk a l ((f8 (Agg.ids a) l).getD 0 z7) (0:Int)).bind<|zd Pr
def ayR(a l):aen a l=ae (l.length≤(1000000:Nat)) (af (a.name.toList==(ByteArray.mk #[99,111,117,110,116]).toList) (some<|aq<|zk (↑(f8 (Agg.ids a) l).length:Int))<|af ((↑(f8 (Agg.ids a) l).length:Int)==(0:Int)) (some<|aq z7)<|af (a.name.toList==(ByteArray.mk #[115,117,109]).toList) (ae (vh<|f8 (Agg.ids a) l)<|some<|aq<|F4<|f8 (Agg.ids a) l)<|af (!a.name.toList==(ByteArray.mk #[109,105,110]).toList) (af (!a.name.toList==(ByteArray.mk #[109,97,120]).toList) (some<|aq z7)<|Ps a l)<|Ps a l):=ah
def Pt(a:Agg)(l:List Val)(v0:Int):Option (EX Un):=ae (0≤v0∧v0<(↑(f8 (Agg.ids a) l).length:Int))<|t7<|pk a l ((f8 (Agg.ids a) l).getD v0.toNat z7)<|IntKind.i64.wrap<|v0+1
def Pu(a:Agg)(l:List Val)(b6:Val)(v0:Int):Option (EX Un):=af (a.name.toList==(ByteArray.mk #[109,97,120]).toList) (af (decide<|cO ((f8 (Agg.ids a) l).getD v0.toNat z7) b6>0) (Pt a l v0)<|t7<|pk a l b6<|IntKind.i64.wrap<|v0+1)<|t7<|pk a l b6<|IntKind.i64.wrap<|v0+1
def aeo(a l b6 v0):t7 (pk a l b6 v0)=af (decide<|v0<(↑(f8 (Agg.ids a) l).length:Int)) (ae (0≤v0∧v0<(↑(f8 (Agg.ids a) l).length:Int))<|af (a.name.toList==(ByteArray.mk #[109,105,110]).toList) (af (decide<|cO ((f8 (Agg.ids a) l).getD v0.toNat z7) b6<0) (Pt a l v0)<|Pu a l b6 v0)<|Pu a l b6 v0) (some (.exit 0,(pk a l b6 v0))):=aF
def ayS(a l b6 v0):Pr (.exit 0) (pk a l b6 v0)=some (aq b6):=ah
open Classical in
theorem ayT(a:Agg):∀(l out:List Val),l.foldl (AW a) out=if a.distinct=true then(l.filter<|iw a.name).foldl j0 out else out++l.filter (iw a.name):=by
 intro l
 induction l with
 |nil=>simp
 |cons v l ih=>
  intro out;rw[yq,ih];unfold AW;by_cases h1:iw a.name v=true
  ·simp_all[List.filter_cons_of_pos,if_pos,yq,j0,if_neg]
  grind
theorem Pv{a}(h:jg a=false) l:eF a l=if a.distinct=true then oV (l.filter<|iw a.name)else l.filter (iw a.name):=by
 simp_all[eF,if_neg,ayT,oV]
theorem aep{a}(h:jg a=true) l:eF a l=l:=by unfold eF;grind
theorem aeq{a}(h:a.name≠eX):jg a=false:=by simp_all[jg,decide_eq_false]
theorem ayU{a nm}(h:(cn a).name=nm)(hr:nm≠fu) l:sf a l=l.filter (iw nm):=by
 unfold sf;congr 1;unfold gw;grind
theorem F7{a}(h:(cn a).name=a.name)(hd:(cn a).distinct=a.distinct)(hr:a.name≠fu)(hro:jg a=false) l:pB a l=iZ a.name (eF a l):=by
 simp_all[NJ,ayU,Pv,Fc]
theorem JT{a}(h:a.name=nmSum∨a.name=dV∨a.name=en∨(a.name=eX∧a.t≠[])):(cn a).name=a.name∧(cn a).distinct=a.distinct∧a.name≠fu∧jg a=false:=by
 have n:=nm_ne;unfold cn;rcases h with h|h|h|⟨h,ht⟩
 all_goals simp_all[aeq,Ne.symm,if_neg,if_pos,jg,decide_eq_false]
theorem ayV{a}(h:a.name=eX)(ht:a.t=[]) l:pB a l=sd l.length:=by
 rw[NJ];have e:(cn a).name=fu∧(cn a).distinct=false:=by unfold cn;rw[if_pos h,if_pos ht];exact⟨rfl,rfl⟩
 have g:sf a l=l:=by
  unfold sf;rw[y4v];intro v _;unfold gw;rw[e.1,decide_eq_true rfl,Bool.true_or]
 simp_all[Fc,iZ]
theorem ayW{a}(h1:a.name≠eX)(h2:a.name≠nmSum)(h3:a.name≠dV)(h4:a.name≠en) l:pB a l=z7:=by
 have n:=nm_ne;rw[NJ];have e:(cn a).name=oU:=by simp_all[cn,if_neg]
 unfold Fc iZ;grind
def ayX a l:(eF a l).length≤l.length:=by
 cases h:jg a with
 |true=>rw[aep h];simp
 |false=>
  grind[Pv,List.length_filter_le,iw,arl]
def ayY{a}(h:jg a=false) l:∀v∈eF a l,iw a.name v=true:=by
 intro v hv;rw[Pv h]at hv;split at hv
 ·rw[ZL]at hv;exact(y2u.1 hv).2
 ·exact(y2u.1 hv).2
def aer a l(g:Val→Val→Val)(hn:(eF a l).length≤1000000)(hg:(a.name=dV∧g=fun b v=>if ordV v b<0 then v else b)∨(a.name=en∧g=fun b v=>if ordV v b>0 then v else b)) b0:
 (t7 (pk a l b0 (0:Int))).bind (zd Pr)=some (aq ((eF a l).foldl g b0)):=by
 have hmm:¬dV=en:=nm_ne.2.2.2.2.2.2.2.1
 obtain⟨hl,_⟩:=zy (e:=.exit 0) (L:=t7) (st:=fun b i=>pk a l b i) (l:=eF a l) (d:=z7) (g:=g) (fun _ _=>True) (by omega)
  (fun b i v hi hv _=>⟨trivial,by
   rw[aeo];simp only[Pt,Pu,Agg.ids_eq,ad8,z8,hi,decide_true,if_true,and_true,y5,hv,Av,Aw,Ay,vO,decide_eq_true_eq];rcases hg with⟨hm,rfl⟩|⟨hm,rfl⟩
   ·by_cases ho:ordV v b<0
    all_goals simp_all[if_pos,z6,if_neg]
   ·rw[if_neg (by grind),if_pos hm];by_cases ho:ordV v b>0
    all_goals simp_all[if_pos,z6,if_neg]⟩)
  (fun b _=>by rw[aeo];simp[z8,Agg.ids_eq]) b0 trivial
 rw[zf hl,ayS]
def ayZ(a:Agg)(l:List Val)(_ha:WS .agg a)(_hl:WL .val l)(h:l.length≤1000000):aen a l=some (aq<|gx a l):=by
 have n:=nm_ne;have hcl:=ayX a l;rw[ayR];unfold gx Ps;simp only[z6 h,Agg.ids_eq,ad8,z8,Fb,uW,Av,Aw,Ay,decide_eq_true_eq,Fd,beq_iff_eq,jq,decide_eq_false_iff_not];by_cases h1:a.name=eX
 ·by_cases ht:a.t=[]
  ·simp_all[ayV,aep,jg,decide_eq_true]
  simp_all[JT,F7,iZ,if_pos]
 ·rw[if_neg h1];have hro:=aeq h1;have hcount:∀nm,a.name=nm→nm≠fu→¬(a.name=eX∨a.name=fu):=fun nm e1 e2=>by
   grind
  by_cases hs:a.name=nmSum
  ·obtain⟨e1,e2,e3,e4⟩:=JT (a:=a)<|.inl hs;rw[F7 e1 e2 e3 e4];unfold iZ;rw[if_neg<|hcount _ hs n.2.2.2.2.2.2.1];by_cases hc:eF a l=[]
   ·grind
   ·rw[if_neg fun e=>hc<|yx<|by omega,if_neg hc,if_pos hs,if_pos hs];exact z6 ⟨by omega,fun v hv=>by have:=ayY hro l v hv;simp_all[ZE]⟩
  ·by_cases hm:a.name=dV
   ·obtain⟨e1,e2,e3,e4⟩:=JT (a:=a)<|.inr<|.inl hm;rw[F7 e1 e2 e3 e4];unfold iZ;rw[if_neg<|hcount _ hm n.2.2.2.2.2.2.2.2.1];by_cases hc:eF a l=[]
    ·grind
    ·have hpos:0<(eF a l).length:=y21.2 hc;rw[if_neg fun e=>hc<|yx<|by omega,if_neg hc,if_neg hs,if_neg hs,if_neg fun h=>h hm,if_pos hm,z6<|by omega,aer a l _ (by omega)<|.inl ⟨hm,rfl⟩];cases hcc:eF a l with
     |nil=>rfl
     |cons v r=>rfl
   ·by_cases hx:a.name=en
    ·obtain⟨e1,e2,e3,e4⟩:=JT (a:=a)<|.inr<|.inr<|.inl hx;rw[F7 e1 e2 e3 e4];unfold iZ;rw[if_neg<|hcount _ hx n.2.2.2.2.2.2.2.2.2.1];by_cases hc:eF a l=[]
     ·grind
     ·have hpos:0<(eF a l).length:=y21.2 hc;rw[if_neg fun e=>hc<|yx<|by omega,if_neg hc,if_neg hs,if_neg hs,if_pos hm,if_neg fun h=>h hx,if_neg hm,if_pos hx,z6<|by omega,aer a l _ (by omega)<|.inr ⟨hx,rfl⟩];cases hcc:eF a l with
      |nil=>rfl
      |cons v r=>rfl
    simp_all[ayW,eF,if_pos,if_neg]
def Pw:au Un:=aD (dS .agg) (dL .val) fun a l=>([l.length≤1000000],aq<|gx a l)
def ay0:aj 151 Pw:=aJ zo zi (M:=F6) rfl ⟨ayI,D9,ayQ,GP,trivial⟩ Tryz.func151 fun a l=>GiF.r fun w o=>ayZ a l (am w 0) (am w 1)<|aA o 0
end
end B
namespace B
open Go Go.RowKit
open Classical in
def ay1(l:Rows)(x:List Val):(0≤zj l x↔x∈l)∧(x∈l→l.Perm (x::l.eraseIdx (zj l x).toNat)):=by
 unfold zj;have hp:∀y,fP y x=true↔y=x:=fun y=>by
  show(cC y x==0)=true↔y=x;rw[beq_iff_eq,ordR_zero]
 cases h:l.findIdx? (fun y=>fP y x)with
 |none=>
  grind
 |some i=>
  obtain⟨hi,h1,_⟩:=y27.1 h;grind[List.getElem_mem,Int.toNat_natCast,List.take_append_drop,List.drop_eq_getElem_cons,List.eraseIdx_eq_take_drop_succ,List.perm_middle]
def aes(l:Rows) x:zj l x<0↔x ∉l:=by
 rw[←(ay1 l x).1];omega
def aet:∀(l o:Rows),o.Nodup→(l.foldl (fun o x=>if zj o x<0 then o++[x]else o) o).Nodup
 |[],o,h=>h
 |y::l,o,h=>by
  rw[yq];refine aet l _ ?_;split
  ·rename_i c;have hn:=(aes o y).1 c;grind
  omega
def ay2(l:Rows):(bV l).Nodup:=aet l [] List.nodup_nil
def aeu:∀(l o:Rows)(x:List Val),x∈l.foldl (fun o x=>if zj o x<0 then o++[x]else o) o↔x∈o∨x∈l
 |[],o,x=>by simp
 |y::l,o,x=>by
  rw[yq,aeu l];by_cases c:zj o y<0
  ·grind
  ·have hy:y∈o:=Classical.not_not.1 fun h=>c<|(aes o y).2 h;grind
end B
end Go.Proofs.YtjfpbchdcbhfgaaGreat
