/- Part 14 of the proof: Snaive1 Snaive2 Snaive3 Lnest Lret Lstabd Lstx0 Lstx1 Lstx2 Lstx3 Lstabp Lstabq Lstabr. -/
import Derived.Maps.AppendAt
import Derived.OneCell
import Derived.Laws.OwnMore
import Derived.Sort.Defs
import Derived.Sort.Statements
import Derived.Shelf.SlSortCmp.Kit1
import Derived.WalkKit
import Derived.Lib.QuietBelow
import Derived.Deep.LoopGhost
import Derived.Sort.WalkB2
import Derived.Sort.WalkB12
import Derived.Test.YtjfpbchdcbhfgaaGreatNgr13
set_option linter.unusedVariables false
set_option linter.unusedSimpArgs false
namespace Go.Proofs.YtjfpbchdcbhfgaaGreat
namespace B
open Go Go.RowKit
set_option maxRecDepth 100000
noncomputable section
attribute [local irreducible] awp ctxK zx z1f retQ z1l awf ctxF z1k
def z4u(s:List (List Val))(f_o:(List Val)→Prop)(f:(List Val)→Bool)(v0:Int):S Un:=(st 19 19 76 0 [(0,al .row s),(1,AV.one (A.c (C.fv (z2g f_o f)))),(4,ai (0:Int)),(7,ai (↑s.length:Int)),(8,ai v0)] [] [])
def zjf(s:List (List Val))(f_o:(List Val)→Prop)(f:(List Val)→Bool)(v0:Int)(v1:Int):S Un:=(st 19 19 76 0 [(0,al .row s),(1,AV.one (A.c (C.fv (z2g f_o f)))),(4,ai v1),(7,ai (↑s.length:Int)),(8,ai v0)] [] [])
def z80:S Un→Option (EX Un):=lpF_ z1bz zos Tryz.f188 [1,0,1,2,2] 2
def zm5:Exit→S Un→Option (RF Un):=cxF_ z1bz zos Tryz.f188 [1,0,1,2] [.d]
def z18w(s:List (List Val))(f_o:(List Val)→Prop)(f:(List Val)→Bool):Option (RF Un):=fnF_ z1bz zos Tryz.f188 0 [.d] [.d (.v (.dat (U:=Un) Ty.row s)),.fn (z2g f_o f)]
theorem z21e(s:List (List Val))(f_o:(List Val)→Prop)(f:(List Val)→Bool):z18w s f_o f=(z80 (z4u s f_o f (0:Int))).bind (ze zm5):=by kernel_rfl
theorem zue(s:List (List Val))(f_o:(List Val)→Prop)(f:(List Val)→Bool)(v0:Int):z80 (z4u s f_o f v0)=cndO (decide (v0<(↑s.length:Int))) (obO (0≤v0∧v0<(↑s.length:Int)) (obO (f_o (s.getD v0.toNat [])) (cndO (f (s.getD v0.toNat [])) (some (.ret,(zjf s f_o f v0 v0))) (z80 (z4u s f_o f (IntKind.i64.wrap (v0+1))))))) (some (.exit 0,(z4u s f_o f v0))):=lpQ_ (by kernel_rfl)
theorem z1h8(s:List (List Val))(f_o:(List Val)→Prop)(f:(List Val)→Bool)(v0:Int)(v1:Int):zm5 .ret (zjf s f_o f v0 v1)=some (z17t (v1)):=by kernel_rfl
theorem z1n3(s:List (List Val))(f_o:(List Val)→Prop)(f:(List Val)→Bool)(v0:Int):zm5 (.exit 0) (z4u s f_o f v0)=some (z17t ((-1:Int))):=by kernel_rfl
def zwd(o:List Val→Prop)(s:List (List Val)):Prop:=∀x∈s,o x
def zq1(s:List (List Val))(_o:List Val→Prop)(f:List Val→Bool):Int:=match s.findIdx? f with|some i=>(i:Int)|none=>-1
theorem z1r3(s:List (List Val))(o:List Val→Prop)(f:List Val→Bool)(hs:WL .row s)(ho:zwd o s):z18w s o f=some (z17t (zq1 s o f)):=by
 have key:∀(r:List (List Val))(i:Nat),s.drop i=r→i≤s.length→(z80 (z4u s o f i)).bind (ze zm5)=some (z17t (match r.findIdx? f with|some k=>((i+k:Nat):Int)|none=>-1)):=by
  intro r
  induction r with
  |nil=>
   intro i hr hi;have:s.length≤i:=by rw[←y1n];exact hr
   have e:z80 (z4u s o f i)=some (.exit 0,z4u s o f i):=by rw[zue,z8,if_neg (by simp;omega)]
   rw[zg e,z1n3];rfl
  |cons x r ih=>
   intro i hr hi;obtain⟨a1,a2,a3,hm⟩:=z55 hr;have hx:s.getD i []=x:=a2 [];by_cases hf:f x=true
   ·have e:z80 (z4u s o f i)=some (.ret,zjf s o f i i):=by
     rw[zue,z8,if_pos (by simp;omega),z6 (by omega),y5,hx,z6 (ho x hm),z8,if_pos hf]
    rw[zg e,z1h8];simp[y2k,hf]
   ·have e:z80 (z4u s o f i)=z80 (z4u s o f ((i+1:Nat):Int)):=by
     rw[zue,z8,if_pos (by simp;omega),z6 (by omega),y5,hx,z6 (ho x hm),z8,if_neg hf,z3s a1 hs.len]
    rw[e,ih (i+1) a3 (by omega)];congr 2;simp only[y2k,hf];cases r.findIdx? f with
    |none=>rfl
    |some k=>simp;omega
 rw[z21e];have:=key s 0 rfl (ya _);refine Eq.trans this ?_;unfold zq1;cases s.findIdx? f<;>simp
def zy3:FnC Un:=fun args=>match args with
 |[x0,x1]=>(dL .row x0).bind fun s=>(dF x1).bind fun f=>some ([f=(z2g (z5h f) (z8e f)),zwd (z5h f) s],zac (zq1 s (z5h f) (z8e f)),zad (zq1 s (z5h f) (z8e f)))
 |_=>none
theorem z21f:FnOK 188 zy3:=by
 intro args ob rs os h hob;unfold zy3 at h;split at h
 ·simp only[y7,y8,ym]at h;obtain⟨s,e0,f,e1,rfl,rfl,rfl⟩:=h;obtain rfl:=z11 e0;obtain rfl:=znm e1;have hfv0:=hob _ (ye (i:=0) rfl);generalize z8e f=pp0 at*;generalize z5h f=qq0 at*;subst hfv0;exact⟨z2f (M:=z1bz) rfl (z4o (l1:=[]) (l2:=[]) (l3:=[]) (l4:=[]) (l5:=[]) trivial trivial trivial trivial trivial) Tryz.func188 (by kernel_rfl) zos 0 [.d] (fun hwf=>(z1r3 s qq0 pp0 (z42 hwf (a:=.d (.v (.dat (U:=Un) Ty.row s))) (ye (i:=0) rfl)) (hob _ (ye (i:=1) rfl)))),zj Tryz.func188 (by kernel_rfl) (by kernel_rfl)⟩
 ·simp at h
def z2d6:Mc Un:=mcF_ [(149,z77)] [] [] [] []
def z26i(x:List Val)(r:List Val):Option (RF Un):=fnF_ z2d6 z23b Tryz.f189 0 [.d] [.d (.v (.dat (U:=Un) Ty.val x)),.box [.v (.dat (U:=Un) Ty.val r)]]
theorem z2i3(x:List Val)(r:List Val):z26i x r=some (z8z (z2n x r==0)):=by kernel_rfl
def plc1(x r:List Val):Bool:=z2n x r==0
theorem z2d9(x r:List Val)(_hx:WL .val x)(_hr:WL .val r)(_h:True):z26i x r=some (z8z (plc1 x r)):=by
 rw[z2i3];rfl
def z21g:List (List (DC Un))→Option (FV Un):=fun dl=>match dl with
 |[b0]=>(bL .val b0).bind fun r=>some (z2g (fun x=>True) (fun x=>plc1 x r))
 |_=>none
theorem z2fr:ClOK 189 z21g:=by
 refine⟨zj Tryz.func189 (by kernel_rfl) (by kernel_rfl),fun dl φ args ob rs hF hφ hob=>?_⟩;unfold z21g at hF;split at hF
 ·simp only[y7,y8]at hF;obtain⟨r,g0,hE⟩:=hF;subst hE;obtain rfl:=z27h g0;unfold z2g at hφ;split at hφ
  ·simp only[y7,y8,ym]at hφ;obtain⟨x,e0,rfl,rfl⟩:=hφ;simp only[yr,y1m,y16,yz];rw[z11 e0];exact Contract.data (z2f (M:=z2d6) rfl (z4o (l1:=[(149,z77)]) (l2:=[]) (l3:=[]) (l4:=[]) (l5:=[]) ⟨zlq,trivial⟩ trivial trivial trivial trivial) Tryz.func189 (by kernel_rfl) z23b 0 [.d] (fun hwf=>(z2d9 x r (z42 hwf (a:=.d (.v (.dat (U:=Un) Ty.val x))) (ye (i:=0) rfl)) (z42 hwf (a:=.box [.v (.dat (U:=Un) Ty.val r)]) (ye (i:=1) rfl)) (hob _ (ye (i:=0) rfl)))))
  ·simp at hφ
 ·simp at hF
def z149:Mc Un:=mcF_ [(188,zy3)] [] [(189,z21g)] [] []
def z103(l:List (List Val))(r:List Val):Option (RF Un):=fnF_ z149 z23b Tryz.f142 0 [.d] [.d (.v (.dat (U:=Un) Ty.row l)),.d (.v (.dat (U:=Un) Ty.val r))]
theorem z1r4(l:List (List Val))(r:List Val):z103 l r=obO ((z2g (fun x=>True) fun x=>plc1 x r)=z2g (z5h (z2g (fun x=>True) fun x=>plc1 x r)) (z8e (z2g (fun x=>True) fun x=>plc1 x r))) (obO (zwd (z5h (z2g (fun x=>True) fun x=>plc1 x r)) l) (some (z2e (zq1 l (z5h (z2g (fun x=>True) fun x=>plc1 x r)) (z8e (z2g (fun x=>True) fun x=>plc1 x r)))))):=by kernel_rfl
def zp(l:List (List Val))(r:List Val):Int:=match l.findIdx? (fun x=>plc1 x r)with|some i=>(i:Int)|none=>-1
theorem z1h9(l:List (List Val))(r:List Val)(_hl:WL .row l)(_hr:WL .val r):z103 l r=some (z2e (zp l r)):=by
 rw[z1r4];simp only[z1fe,z1fd];rw[z6 trivial,z6 (show zwd (fun _=>True) l from fun _ _=>trivial)];rfl
def zqz:FnC Un:=fnF2 (dL .row) (dL .val) fun l r=>([],z2e (zp l r))
theorem z104:FnOK 142 zqz:=fnK2 z11 z11 (M:=z149) rfl ⟨z21f,trivial⟩ trivial ⟨z2fr,trivial⟩ trivial trivial Tryz.func142 fun l r=>GiF.r fun w _=>z1h9 l r (wfA_ w 0) (wfA_ w 1)
def z14a(r:List Val)(at_:Int):Option (RF Un):=fnF_ z1bz z23b Tryz.f148 0 [.d] [.d (.v (.dat (U:=Un) Ty.val r)),.d (.v (.s (.int .i64 at_)))]
theorem z1wk(r:List Val)(at_:Int):z14a r at_=cndO (decide (at_<0)) (some (zx1 (z7))) (cndO (decide (at_≥(↑r.length:Int))) (some (zx1 (z7))) (obO (0≤at_∧at_<(↑r.length:Int)) (some (zx1 (r.getD at_.toNat z7))))):=by kernel_rfl
def z16(r:List Val)(k:Int):Val:=if 0≤k then r.getD k.toNat z7 else z7
theorem z1n4(r:List Val)(k:Int)(_hr:WL .val r)(_hk:WI k):z14a r k=some (zx1 (z16 r k)):=by
 rw[z1wk];unfold z16;simp only[z8,decide_eq_true_eq];by_cases h0:k<0
 ·rw[if_pos h0,if_neg (by omega)]
 ·rw[if_neg h0];have h2:0≤k:=by omega
  by_cases h1:k≥(r.length:Int)
  ·rw[if_pos h1,if_pos h2,yd,y4t (by omega)];rfl
  ·rw[if_neg h1,if_pos h2,z6 (by omega)]
def zuf:FnC Un:=fnF2 (dL .val) (dI .i64) fun r at_=>([],zx1 (z16 r at_))
theorem z1wl:FnOK 148 zuf:=fnK2 z11 z1a (M:=z1bz) rfl trivial trivial trivial trivial trivial Tryz.func148 fun r at_=>GiF.r fun w _=>z1n4 r at_ (wfA_ w 0) (wfA_ w 1)
def zm6:Mc Un:=mcF_ [(142,zqz)] [] [] [] []
def zug(r:List (List Val)):RF Un:=([.c (.ob 0 0)],[⟨0,Ty.row,r,some 0,true⟩])
def zuh:Nat→NS:=nsF_ [(3,{ts:=bl 22 456,bs:=bl 22 0,nm:=[(.sl 3,88)]})] false
def z8i(l:List (List Val))(v0:Int)(v1:List (List Val)):S Un:=(st 22 22 89 0 [(3,ao 88),(6,al .row l),(7,ai (↑l.length:Int)),(8,ai v0)] [] [(88,some ⟨(0:Nat),Ty.row,v1,some (0:Nat),true⟩)])
def zdx:S Un→Option (EX Un):=lpF_ zm6 zuh Tryz.f90 [1,1,0,1,2,2] 3
def z14b:Exit→S Un→Option (RF Un):=cxF_ zm6 zuh Tryz.f90 [1,1,0,1,2] [.m]
def z14c(l:List (List Val)):Option (RF Un):=fnF_ zm6 zuh Tryz.f90 1 [.m] [.d (.v (.dat (U:=Un) Ty.row l))]
theorem z1wm(l:List (List Val)):z14c l=(zdx (z8i l (0:Int) ([]))).bind (ze z14b):=by kernel_rfl
theorem z14d(l:List (List Val))(v0:Int)(v1:List (List Val)):zdx (z8i l v0 v1)=cndO (decide (v0<(↑l.length:Int))) (obO (0≤v0∧v0<(↑l.length:Int)) (cndO (decide (zp v1 (l.getD v0.toNat [])<0)) (obO ((v1.length+[l.getD v0.toNat []].length)*(24:Nat)≤zi) (zdx (z8i l (IntKind.i64.wrap (v0+1)) (v1++[l.getD v0.toNat []])))) (zdx (z8i l (IntKind.i64.wrap (v0+1)) v1)))) (some (.exit 0,(z8i l v0 v1))):=lpQ_ (by kernel_rfl)
theorem z1ha(l:List (List Val))(v0:Int)(v1:List (List Val)):z14b (.exit 0) (z8i l v0 v1)=some (zug (v1)):=by kernel_rfl
def z1d(l:List (List Val)):List (List Val):=l.foldl (fun o x=>if zp o x<0 then o++[x]else o) []
theorem z1n5(l:List (List Val))(hl:WL .row l)(h:l.length≤100000000):z14c l=some (zug (z1d l)):=by
 rw[z1wm]
 obtain⟨lp,_⟩:=z1p (e:=.exit 0) (L:=zdx) (st:=fun(o:List (List Val)) i=>z8i l i o) (l:=l) (d:=[]) (g:=fun o x=>if zp o x<0 then o++[x]else o) (fun i o=>o.length≤i) hl.len
  (fun o i x hi hx hI=>by
   have hI':o.length≤i:=hI;rw[z14d];simp only[z8,hi,decide_true,if_true,and_true,y5,hx,decide_eq_true_eq];rw[z6 (by omega)];by_cases hp:zp o x<0
   ·rw[if_pos hp,if_pos hp,z6 (by unfold zi;rw[yg];omega)];exact⟨by show(o++[x]).length≤i+1;rw[yb,yg];omega,rfl⟩
   ·rw[if_neg hp,if_neg hp]
    exact⟨by show o.length≤i+1;omega,rfl⟩)
  (fun o _=>by rw[z14d];simp[z8]) [] (y6 _)
 refine(zg lp).trans ?_;rw[z1ha];rfl
def zui:FnC Un:=fnF1 (dL .row) fun l=>([l.length≤100000000],zug (z1d l))
theorem z14e:FnOK 90 zui:=fnK1 z11 (M:=zm6) rfl ⟨z104,trivial⟩ trivial trivial trivial trivial Tryz.func90 fun l=>GiF.r fun w o=>z1n5 l (wfA_ w 0) (obA_ o 0)
def ziu:Mc Un:=mcF_ [(152,z89),(154,z1gs),(153,zn1),(155,zeb)] [] [] [] []
def zr1:Nat→NS:=nsF_ [(3,{ts:=bl 38 7220,bs:=bl 38 20,nm:=[]})] false
def z63(v:Val)(l:List (List Val))(v0:Int)(v1:Int):S Un:=(st 38 38 152 0 [(2,ax 2),(4,ax 4),(5,ai v1),(10,al .row l),(11,ai (↑l.length:Int)),(12,ai v0)] [(2,bg .val v),(4,bg .val z7)] [])
def z9r:S Un→Option (EX Un):=lpF_ ziu zr1 Tryz.f119 [1,1,0,1,2,2] 3
def z105:Exit→S Un→Option (RF Un):=cxF_ ziu zr1 Tryz.f119 [1,1,0,1,2] [.d]
def z106(v:Val)(l:List (List Val)):Option (RF Un):=fnF_ ziu zr1 Tryz.f119 0 [.d] [.d (.agg (enc Ty.val v)),.d (.v (.dat (U:=Un) Ty.row l))]
theorem z1r5(v:Val)(l:List (List Val)):z106 v l=(z9r (z63 v l (0:Int) (0:Int))).bind (ze z105):=by kernel_rfl
theorem z107(v:Val)(l:List (List Val))(v0:Int)(v1:Int):z9r (z63 v l v0 v1)=cndO (decide (v0<(↑l.length:Int))) (obO (0≤v0∧v0<(↑l.length:Int)) (cndO ((↑(List.length (l.getD v0.toNat [])):Int)==(0:Int)) (z9r (z63 v l (IntKind.i64.wrap (v0+1)) v1)) (obO ((0:Int)≤(0:Int)∧(0:Int)<(↑(List.length (l.getD v0.toNat [])):Int)) (cndO ((z1t v (List.getD (l.getD v0.toNat []) 0 z7)).snd) (z9r (z63 v l (IntKind.i64.wrap (v0+1)) (z8p v1 (zpu ((z1t v (List.getD (l.getD v0.toNat []) 0 z7)).fst ==0))))) (z9r (z63 v l (IntKind.i64.wrap (v0+1)) (z8p v1 (1:Int)))))))) (some (.exit 0,(z63 v l v0 v1))):=lpQ_ (by kernel_rfl)
theorem z1bd(v:Val)(l:List (List Val))(v0:Int)(v1:Int):z105 (.exit 0) (z63 v l v0 v1)=some (zx1 (z60 v1)):=by kernel_rfl
def zhy(v:Val)(l:List (List Val)):Val:=z60 (l.foldl (fun t x=>if x.length=0 then t else if(z1t v (x.getD 0 z7)).2 then z8p t (zpu ((z1t v (x.getD 0 z7)).1 ==0))else z8p t 1) 0)
theorem z1hb(v:Val)(l:List (List Val))(_hv:WS .val v)(hl:WL .row l):z106 v l=some (zx1 (zhy v l)):=by
 rw[z1r5]
 obtain⟨lp,_⟩:=z1p (e:=.exit 0) (L:=z9r) (st:=fun(t:Int) i=>z63 v l i t) (l:=l) (d:=[]) (g:=fun t x=>if x.length=0 then t else if(z1t v (x.getD 0 z7)).2 then z8p t (zpu ((z1t v (x.getD 0 z7)).1 ==0))else z8p t 1) (fun _ _=>True) hl.len
  (fun t i x hi hx _=>by
   refine⟨trivial,?_⟩;rw[z107];simp only[z8,hi,decide_true,if_true,and_true,y5,hx,beq_iff_eq];rw[z6 (by omega)];by_cases h0:x.length=0
   ·rw[if_pos (by omega),if_pos h0]
   ·rw[if_neg (by omega),if_neg h0,z6 (by omega)]
    split<;>rfl)
  (fun t _=>by rw[z107];simp[z8]) 0 trivial
 refine(zg lp).trans ?_;rw[z1bd];rfl
def z14f:FnC Un:=fnF2 (dS .val) (dL .row) fun v l=>([],zx1 (zhy v l))
theorem z1r6:FnOK 119 z14f:=fnK2 zr z11 (M:=ziu) rfl ⟨zjc,z1tt,z17y,zlr,trivial⟩ trivial trivial trivial trivial Tryz.func119 fun v l=>GiF.r fun w _=>z1hb v l (wfA_ w 0) (wfA_ w 1)
end
end B
namespace B
open Go Go.RowKit
set_option maxRecDepth 100000
noncomputable section
attribute [local irreducible] awp ctxK zx z1f retQ z1l awf ctxF z1k
def z12f(r:Wld):List (A Un):=[.agg (encC Ty.wld r)]
def z1n7(_r:Wld):List (Ob Un):=[]
def z1n8(r:Wld):RF Un:=(z12f r,z1n7 r)
def z1ee(w:Wld)(r:List Val):Option (RF Un):=fnF_ z1bz z23b Tryz.f137 0 [.d] [.d (.agg (enc Ty.wld w)),.d (.v (.dat (U:=Un) Ty.val r))]
theorem z259(w:Wld)(r:List Val):z1ee w r=obO (([r].length+w.env.length)*(24:Nat)≤zi) (some (z1n8 ({env:=r::w.env,db:=w.db}))):=by kernel_rfl
def zf(w:Wld)(r:List Val):Wld:={w with env:=r::w.env}
theorem z1wn(w:Wld)(r:List Val)(_hw:WS .wld w)(_hr:WL .val r)(h:w.env.length≤100000000):z1ee w r=some (z1n8 (zf w r)):=by
 rw[z259,z6 (by unfold zi;rw[yg];omega)];rfl
def zdh:FnC Un:=fun args=>match args with
 |[x0,x1]=>(dS .wld x0).bind fun w=>(dL .val x1).bind fun r=>some ([w.env.length≤100000000],z12f (zf w r),z1n7 (zf w r))
 |_=>none
theorem zoz:FnOK 137 zdh:=by
 intro args ob rs os h hob;unfold zdh at h;split at h
 ·simp only[y7,y8,ym]at h;obtain⟨w,e0,r,e1,rfl,rfl,rfl⟩:=h;obtain rfl:=zr e0;obtain rfl:=z11 e1;exact⟨z2f (M:=z1bz) rfl (z4o (l1:=[]) (l2:=[]) (l3:=[]) (l4:=[]) (l5:=[]) trivial trivial trivial trivial trivial) Tryz.func137 (by kernel_rfl) z23b 0 [.d] (fun hwf=>(z1wn w r (z42 hwf (a:=.d (.agg (enc Ty.wld w))) (ye (i:=0) rfl)) (z42 hwf (a:=.d (.v (.dat (U:=Un) Ty.val r))) (ye (i:=1) rfl)) (hob _ (ye (i:=0) rfl)))),zj Tryz.func137 (by kernel_rfl) (by kernel_rfl)⟩
 ·simp at h
def ziv:Mc Un:=mcF_ [(85,zm3)] [] [] [] []
def zr2:Nat→NS:=nsF_ [(2,{ts:=bl 22 1810,bs:=bl 22 0,nm:=[(.sl 4,88)]})] false
def z3k(w:Wld)(name:ByteArray)(v0:Int):S Un:=(st 22 22 89 0 [(1,at_ name),(4,ao 88),(8,al .data w.db),(9,ai (↑w.db.length:Int)),(10,ai v0)] [] [(88,some ⟨(0:Nat),Ty.row,[],some (0:Nat),true⟩)])
def zfq(w:Wld)(name:ByteArray)(v0:Int)(v1:List (List Val)):S Un:=(st 22 22 89 0 [(1,at_ name),(4,ao 88),(8,al .data w.db),(9,ai (↑w.db.length:Int)),(10,ai v0)] [] [(88,some ⟨(0:Nat),Ty.row,v1,some (0:Nat),true⟩)])
def z64:S Un→Option (EX Un):=lpF_ ziv zr2 Tryz.f84 [1,0,1,2,2] 2
def zgr:Exit→S Un→Option (RF Un):=cxF_ ziv zr2 Tryz.f84 [1,0,1,2] [.m]
def z108(w:Wld)(name:ByteArray):Option (RF Un):=fnF_ ziv zr2 Tryz.f84 1 [.m] [.d (.agg (enc Ty.wld w)),.d (.v (cs name))]
theorem z1r7(w:Wld)(name:ByteArray):z108 w name=(z64 (z3k w name (0:Int))).bind (ze zgr):=by kernel_rfl
theorem zna(w:Wld)(name:ByteArray)(v0:Int):z64 (z3k w name v0)=cndO (decide (v0<(↑w.db.length:Int))) (obO (0≤v0∧v0<(↑w.db.length:Int)) (cndO ((w.db.getD v0.toNat z38).table.toList ==name.toList) (obO ((w.db.getD v0.toNat z38).rows.length≤(1000000000:Nat)) (some (.ret,(zfq w name v0 ((w.db.getD v0.toNat z38).rows))))) (z64 (z3k w name (IntKind.i64.wrap (v0+1)))))) (some (.exit 0,(z3k w name v0))):=lpQ_ (by kernel_rfl)
theorem z18y(w:Wld)(name:ByteArray)(v0:Int)(v1:List (List Val)):zgr .ret (zfq w name v0 v1)=some (zug (v1)):=by kernel_rfl
theorem z1be(w:Wld)(name:ByteArray)(v0:Int):zgr (.exit 0) (z3k w name v0)=some (zug ([])):=by kernel_rfl
def dbOK(db:List Data):Prop:=db.length≤1000000000∧∀d∈db,d.rows.length≤1000000000
def z6d(w:Wld)(name:ByteArray):List (List Val):=match w.db.find? (fun d=>d.table.toList==name.toList)with|some d=>d.rows|none=>[]
theorem z1hc(w:Wld)(name:ByteArray)(_hw:WS .wld w)(_hn:WStr name)(h:dbOK w.db):z108 w name=some (zug (z6d w name)):=by
 obtain⟨h1,h2⟩:=h;have key:∀(r:List Data)(i:Nat),w.db.drop i=r→i≤w.db.length→(z64 (z3k w name i)).bind (ze zgr)=some (zug (match r.find? (fun d=>d.table.toList==name.toList)with|some d=>d.rows|none=>[])):=by
  intro r
  induction r with
  |nil=>
   intro i hr hi;have:w.db.length≤i:=by rw[←y1n];exact hr
   have e:z64 (z3k w name i)=some (.exit 0,z3k w name i):=by rw[zna,z8,if_neg (by simp;omega)]
   rw[zg e,z1be];rfl
  |cons x r ih=>
   intro i hr hi;obtain⟨a1,a2,a3,hm⟩:=z55 hr;have hx:w.db.getD i z38=x:=a2 z38;by_cases hf:(x.table.toList==name.toList)=true
   ·have e:z64 (z3k w name i)=some (.ret,zfq w name i x.rows):=by
     rw[zna,z8,if_pos (by simp;omega),z6 (by omega),y5,hx,z8,if_pos hf,z6 (h2 x hm)]
    rw[zg e,z18y];simp[hf]
   ·have e:z64 (z3k w name i)=z64 (z3k w name ((i+1:Nat):Int)):=by
     rw[zna,z8,if_pos (by simp;omega),z6 (by omega),y5,hx,z8,if_neg hf,z3s a1 (by omega)]
    rw[e,ih (i+1) a3 (by omega)];simp[hf]
 rw[z1r7];exact key w.db 0 rfl (ya _)
def z14g:FnC Un:=fnF2 (dS .wld) dStr fun w name=>([dbOK w.db],zug (z6d w name))
theorem z1r8:FnOK 84 z14g:=fnK2 zr z4l (M:=ziv) rfl ⟨zqv,trivial⟩ trivial trivial trivial trivial Tryz.func84 fun w name=>GiF.r fun w1 o=>z1hc w name (wfA_ w1 0) (wfA_ w1 1) (obA_ o 0)
end
end B
namespace B
open Go Go.RowKit
set_option maxRecDepth 100000
noncomputable section
attribute [local irreducible] awp ctxK zx z1f retQ z1l awf ctxF z1k
def z1na:Mc Un:=mcF_ [(148,zuf),(147,zat),(149,z77)] [] [] [] []
def z1nc:Nat→NS:=nsF_ [(2,{ts:=bl 35 3619,bs:=bl 36 1,nm:=[]})] false
def zav(a:List Val)(b:List Val)(c0:List By)(v0:Int):S Un:=(st 35 36 144 1 [(0,al .val a),(1,al .val b),(5,ai (0:Int)),(9,al .by_ c0),(10,ai (↑c0.length:Int)),(11,ai v0)] [(0,some (true,[C.sl Ty.by_ c0 false]))] [])
def zp0(a:List Val)(b:List Val)(c0:List By)(v0:Int)(v1:Int):S Un:=(st 35 36 144 1 [(0,al .val a),(1,al .val b),(5,ai v1),(9,al .by_ c0),(10,ai (↑c0.length:Int)),(11,ai v0)] [(0,some (true,[C.sl Ty.by_ c0 false]))] [])
def zgs:S Un→Option (EX Un):=lpF_ z1na z1nc Tryz.f146 [1,0,1,2,2] 2
def z1aj:Exit→S Un→Option (RF Un):=cxF_ z1na z1nc Tryz.f146 [1,0,1,2] [.d]
def z26j(a:List Val)(b:List Val)(c0:List By):Option (RF Un):=fnF_ z1na z1nc Tryz.f146 0 [.d] [.d (.v (.dat (U:=Un) Ty.val a)),.d (.v (.dat (U:=Un) Ty.val b)),.box [.v (.dat (U:=Un) Ty.by_ c0)]]
theorem z2i4(a:List Val)(b:List Val)(c0:List By):z26j a b c0=(zgs (zav a b c0 (0:Int))).bind (ze z1aj):=by kernel_rfl
theorem z26k(a:List Val)(b:List Val)(c0:List By)(v0:Int):zgs (zav a b c0 v0)=cndO (decide (v0<(↑c0.length:Int))) (obO (0≤v0∧v0<(↑c0.length:Int)) (cndO ((c0.getD v0.toNat z9w).down) (cndO (IntKind.i64.wrap ((0:Int)- z3b (z16 a (c0.getD v0.toNat z9w).at_) (z16 b (c0.getD v0.toNat z9w).at_)) !=0) (some (.ret,(zp0 a b c0 v0 (IntKind.i64.wrap ((0:Int)- z3b (z16 a (c0.getD v0.toNat z9w).at_) (z16 b (c0.getD v0.toNat z9w).at_)))))) (zgs (zav a b c0 (IntKind.i64.wrap (v0+1))))) (cndO (z3b (z16 a (c0.getD v0.toNat z9w).at_) (z16 b (c0.getD v0.toNat z9w).at_) !=0) (some (.ret,(zp0 a b c0 v0 (z3b (z16 a (c0.getD v0.toNat z9w).at_) (z16 b (c0.getD v0.toNat z9w).at_))))) (zgs (zav a b c0 (IntKind.i64.wrap (v0+1))))))) (some (.exit 0,(zav a b c0 v0))):=lpQ_ (by kernel_rfl)
theorem z25a(a:List Val)(b:List Val)(c0:List By)(v0:Int)(v1:Int):z1aj .ret (zp0 a b c0 v0 v1)=some (z2e (v1)):=by kernel_rfl
theorem z29p(a:List Val)(b:List Val)(c0:List By)(v0:Int):z1aj (.exit 0) (zav a b c0 v0)=some (z2e (z2n a b)):=by kernel_rfl
def kc(a b:List Val)(k:By):Int:=if k.down=true then IntKind.i64.wrap ((0:Int)- z3b (z16 a k.at_) (z16 b k.at_))else z3b (z16 a k.at_) (z16 b k.at_)
def ord1(a b:List Val):List By→Int
 |[]=>z2n a b
 |k::r=>if(kc a b k !=0)=true then kc a b k else ord1 a b r
theorem z2da(a b:List Val)(keys:List By)(_ha:WL .val a)(_hb:WL .val b)(hk:WL .by_ keys)(_h:True):z26j a b keys=some (z2e (ord1 a b keys)):=by
 have key:∀(r:List By)(i:Nat),keys.drop i=r→i≤keys.length→(zgs (zav a b keys i)).bind (ze z1aj)=some (z2e (ord1 a b r)):=by
  intro r
  induction r with
  |nil=>
   intro i hr hi;have:keys.length≤i:=by rw[←y1n];exact hr
   have e:zgs (zav a b keys i)=some (.exit 0,zav a b keys i):=by rw[z26k,z8,if_neg (by simp;omega)]
   rw[zg e,z29p];rfl
  |cons x r ih=>
   intro i hr hi;obtain⟨a1,a2,a3,hm⟩:=z55 hr;have hx:keys.getD i z9w=x:=a2 z9w;have hl:=z26k a b keys i;rw[z8,if_pos (by simp;omega),z6 (by omega),y5,hx,z3s a1 hk.len]at hl;by_cases hf:(kc a b x !=0)=true
   ·have e:zgs (zav a b keys i)=some (.ret,zp0 a b keys i (kc a b x)):=by
     rw[hl];unfold kc at hf ⊢;cases hd:x.down<;>rw[hd]at hf<;>simp only[z8,y2l,if_false,if_true]at hf ⊢<;>rw[if_pos hf]
    rw[zg e,z25a];unfold ord1;rw[if_pos hf]
   ·have e:zgs (zav a b keys i)=zgs (zav a b keys ((i+1:Nat):Int)):=by
     rw[hl];unfold kc at hf;cases hd:x.down<;>rw[hd]at hf<;>simp only[z8,y2l,if_false,if_true]at hf ⊢<;>rw[if_neg hf]
    rw[e,ih (i+1) a3 (by omega)]
    conv=>rhs;unfold ord1
    rw[if_neg hf]
 rw[z2i4];exact key keys 0 rfl (ya _)
def z1nd:List (List (DC Un))→Option (FV Un):=fun dl=>match dl with
 |[b0]=>(bL .by_ b0).bind fun c0=>some (z13 (fun a b=>True) (fun a b=>ord1 a b c0))
 |_=>none
theorem z2fs:ClOK 146 z1nd:=by
 refine⟨zj Tryz.func146 (by kernel_rfl) (by kernel_rfl),fun dl φ args ob rs hF hφ hob=>?_⟩;unfold z1nd at hF;split at hF
 ·simp only[y7,y8]at hF;obtain⟨c0,g0,hE⟩:=hF;subst hE;obtain rfl:=z27h g0;unfold z13 at hφ;split at hφ
  ·simp only[y7,y8,ym]at hφ;obtain⟨a,e0,b,e1,rfl,rfl⟩:=hφ;simp only[yr,y1m,y16,yz];rw[z11 e0];rw[z11 e1];exact Contract.data (z2f (M:=z1na) rfl (z4o (l1:=[(148,zuf),(147,zat),(149,z77)]) (l2:=[]) (l3:=[]) (l4:=[]) (l5:=[]) ⟨z1wl,zmz,zlq,trivial⟩ trivial trivial trivial trivial) Tryz.func146 (by kernel_rfl) z1nc 0 [.d] (fun hwf=>(z2da a b c0 (z42 hwf (a:=.d (.v (.dat (U:=Un) Ty.val a))) (ye (i:=0) rfl)) (z42 hwf (a:=.d (.v (.dat (U:=Un) Ty.val b))) (ye (i:=1) rfl)) (z42 hwf (a:=.box [.v (.dat (U:=Un) Ty.by_ c0)]) (ye (i:=2) rfl)) (hob _ (ye (i:=0) rfl)))))
  ·simp at hφ
 ·simp at hF
end
end B
namespace B
open Go Go.RowKit
set_option linter.unusedVariables false
structure Nest(w:World)(base:Nat)(te ti:TypeId)(k q z:Nat)(v:Value)(cs:List Value)(ys:List (Nat×List Value)):Prop where
 outer:w.ownsRow base te k v ys.length cs
 inner:∀i m zs,ys[i]?=some (m,zs)→∃u,cs[i*k+q]?=some u∧w.ownsRow base ti z u m zs∧(u.ownBlock=none∨u.ownBlock≠v.ownBlock)
 apart:∀i j u u',i≠j→i<ys.length→j<ys.length→cs[i*k+q]?=some u→cs[j*k+q]?=some u'→u.ownBlock=none∨u.ownBlock≠u'.ownBlock
theorem Nest.nil(w:World)(base:Nat)(te ti:TypeId)(k q z:Nat):Nest w base te ti k q z (.slice none 0 0) [] []:=
 ⟨⟨by simp,.inl ⟨rfl,rfl⟩⟩,fun i m zs h=>by simp at h,fun i j u u' _ h=>by simp at h⟩
section
variable {w w':World} {base:Nat} {te ti:TypeId} {k q z:Nat} {v v':Value} {cs:List Value} {ys:List (Nat×List Value)}
theorem Nest.kept{row:Option Nat}(h:Nest w base te ti k q z v cs ys)(hg:w.grownBy w' row)(hr:∀b,row=some b→b<base):Nest w' base te ti k q z v cs ys:=by
 have ne:∀{e:TypeId}{s:Nat}{x:Value}{n:Nat}{l:List Value},w.ownsRow base e s x n l→x.ownBlock=none∨x.ownBlock≠row:=fun{e s x n l} ho=>by
  cases hx:x.ownBlock with
  |none=>exact .inl rfl
  |some g=>
   refine .inr fun e2=>?_;have h1:=(ho.lt g hx).1;have h2:=hr g e2.symm;omega
 refine⟨h.outer.kept hg (ne h.outer),fun i m zs hi=>?_,h.apart⟩;obtain⟨u,h1,h2,h3⟩:=h.inner i m zs hi;exact⟨u,h1,h2.kept hg (ne h2),h3⟩
theorem Nest.push(h:Nest w base te ti k q z v cs ys)(es:List Value){u0:Value}(hes:es.length=k)(hq:es[q]?=some u0)(h0:w'.ownsRow base ti z u0 0 [])(hf:∀b,u0.ownBlock=some b→w.heap.size≤b∧v'.ownBlock≠some b)
  (ho:w'.ownsRow base te k v' (ys.length+1) (cs++es))(hg:w.grownBy w' v.ownBlock)
  (hb:v'.ownBlock=v.ownBlock∨∃b,v'.ownBlock=some b∧w.heap.size≤b):Nest w' base te ti k q z v' (cs++es) (ys++[(0,[])]):=by
 have hcl:cs.length=ys.length*k:=h.outer.1;have hqk:q<k:=by rw[←hes];exact(yl.1 hq).1
 have at1:∀i,i<ys.length→(cs++es)[i*k+q]?=cs[i*k+q]?:=fun i hi=>by
  refine y1b ?_;have:(i+1)*k≤ys.length*k:=y1e _ hi;rw[y1k]at this;omega
 have at2:(cs++es)[ys.length*k+q]?=some u0:=by
  rw[y1h (by omega),hcl,Nat.add_sub_cancel_left];exact hq
 have low:∀{i:Nat}{u:Value},i<ys.length→cs[i*k+q]?=some u→∀g,u.ownBlock=some g→g<w.heap.size:=fun{i u} hi hu g hx=>by
  obtain⟨p,hp⟩:∃p,ys[i]?=some p:=⟨_,y9 hi⟩;obtain⟨y,y1,y2,_⟩:=h.inner i p.1 p.2 hp;rw[hu]at y1;obtain rfl:=yk y1;exact(y2.lt g hx).2
 refine⟨by rw[yb,yg];exact ho,fun i m zs hi=>?_,fun i j u u' hne hi hj h1 h2=>?_⟩
 ·by_cases hl:i<ys.length
  ·rw[y1b hl]at hi;obtain⟨u,g1,g2,g3⟩:=h.inner i m zs hi;refine⟨u,by rw[at1 i hl];exact g1,g2.kept hg g3,?_⟩;rcases hb with e|⟨b,e,hbl⟩
   ·rw[e];exact g3
   ·cases hx:u.ownBlock with
    |none=>exact .inl rfl
    |some g=>
     refine .inr fun e2=>?_;rw[e]at e2;have:=(g2.lt g hx).2;have:=yk e2;omega
  ·have hl2:i=ys.length:=by
    have:=(yl.1 hi).1;rw[yb,yg]at this;omega
   subst hl2;rw[y1h (y6 _),y3f]at hi;simp only[y34,y8,ym]at hi;obtain⟨rfl,rfl⟩:=hi;refine⟨u0,at2,h0,?_⟩;cases hx:u0.ownBlock with
   |none=>exact .inl rfl
   |some g=>exact .inr fun e=>(hf g hx).2 e.symm
 ·rw[yb,yg]at hi hj;have far:∀{i:Nat}{u:Value},i<ys.length→cs[i*k+q]?=some u→u.ownBlock=none∨u.ownBlock≠u0.ownBlock:=fun{i u} hi hu=>by
   cases hx:u.ownBlock with
   |none=>exact .inl rfl
   |some g=>
    refine .inr fun e=>?_;have h1:=low hi hu g hx;have h2:=(hf g e.symm).1;omega
  by_cases hli:i<ys.length
  ·rw[at1 i hli]at h1;by_cases hlj:j<ys.length
   ·rw[at1 j hlj]at h2;exact h.apart i j u u' hne hli hlj h1 h2
   ·have:j=ys.length:=by omega
    subst this;rw[at2]at h2;obtain rfl:=yk h2;exact far hli h1
  ·have:i=ys.length:=by omega
   subst this;rw[at2]at h1;obtain rfl:=yk h1;rw[at1 j (by omega)]at h2;rcases far (by omega) h2 with e|e
   ·cases hx:u0.ownBlock with
    |none=>exact .inl rfl
    |some g=>rw[e];exact .inr (by simp)
   ·exact .inr fun e2=>e e2.symm
theorem Nest.get(h:Nest w base te ti k q z v cs ys)(hk:0<k)(hq:q<k){i m:Nat}{zs:List Value}(hi:ys[i]?=some (m,zs)):
  ∃g cap u,v=.slice (some ⟨g,0,none⟩) ys.length cap∧base≤g∧cs[i*k+q]?=some u∧w.cell? ⟨g,i*k+q,none⟩=some u∧w.frozen? ⟨g,i*k+q,none⟩=false∧w.ownsRow base ti z u m zs∧(u.ownBlock=none∨u.ownBlock≠v.ownBlock):=by
 obtain⟨u,h1,h2,h3⟩:=h.inner i m zs hi;have hl:=(yl.1 hi).1;have ho:=h.outer;obtain⟨hcl,⟨rfl,h0⟩|⟨g,cap,cur,rfl,hge,_⟩⟩:=ho
 ·omega
 ·have hlt:i*k+q<ys.length*k:=by
   have:(i+1)*k≤ys.length*k:=y1e _ hl;rw[y1k]at this;omega
  exact⟨g,cap,u,rfl,hge,h1,by rw[h.outer.cellAt _ hlt];exact h1,h.outer.frozenAt _,h2,h3⟩
theorem Nest.app(h:Nest w base te ti k q z v cs ys)(hk:0<k)(hqk:q<k){i m m':Nat}{zs zs':List Value}{g cap:Nat}{u u':Value}(hi:ys[i]?=some (m,zs))(hv:v=.slice (some ⟨g,0,none⟩) ys.length cap)(hu:cs[i*k+q]?=some u)
  (ho:w'.ownsRow base ti z u' m' zs')(hg:w.grownBy w' u.ownBlock)(hb:u'.ownBlock=u.ownBlock∨u'.ownBlock=some w.heap.size):
  Nest (w'.setCell ⟨g,i*k+q,none⟩ u') base te ti k q z v (cs.set (i*k+q) u') (ys.set i (m',zs')):=by
 obtain⟨u0,g1,g2,g3⟩:=h.inner i m zs hi;rw[hu]at g1;obtain rfl:=yk g1;have hl:=(yl.1 hi).1;have hvb:v.ownBlock=some g:=by rw[hv];rfl
 have hgl:=(h.outer.lt g hvb).2;have hne:v.ownBlock=none∨v.ownBlock≠u.ownBlock:=by
  rcases g3 with e|e
  ·rw[e,hvb];exact .inr (by simp)
  ·exact .inr fun e2=>e e2.symm
 have hsz:=hg.size;have hu':∀{x:Value},(x.ownBlock=none∨x.ownBlock≠u.ownBlock)→(∀b,x.ownBlock=some b→b<w.heap.size)→x.ownBlock=none∨x.ownBlock≠u'.ownBlock:=fun{x} hx hlt=>by
  rcases hb with e|e
  ·rw[e];exact hx
  ·cases hxb:x.ownBlock with
   |none=>exact .inl rfl
   |some b=>
    refine .inr fun e2=>?_;rw[e]at e2;have:=hlt b hxb;have:=yk e2;omega
 have hug:u'.ownBlock≠some g:=fun e2=>by
  rcases hu' hne (fun b hb2=>(h.outer.lt b hb2).2)with e|e
  ·rw[hvb]at e;exact absurd e (by simp)
  ·rw[hvb]at e;exact e e2.symm
 have hpos:∀j,j<ys.length→j*k+q<cs.length:=fun j hj=>by
  rw[h.outer.1];have:(j+1)*k≤ys.length*k:=y1e _ hj;rw[y1k]at this;omega
 have hinj:∀j,j≠i→j*k+q≠i*k+q:=fun j hj e=>hj (Nat.eq_of_mul_eq_mul_right hk (by omega));have hcs:∀j,(cs.set (i*k+q) u')[j*k+q]?=if j=i then some u' else cs[j*k+q]?:=fun j=>by
  rw[y23];by_cases e:j=i
  ·subst e;rw[if_pos rfl,if_pos rfl,if_pos (hpos j hl)]
  ·rw[if_neg (fun e2=>hinj j e e2.symm),if_neg e]
 refine⟨?_,fun j n ws hj=>?_,fun j j' x x' hne2 hj hj' h1 h2=>?_⟩
 ·rw[y1p];have h1:=h.outer.kept hg hne;rw[hv]at h1 ⊢;exact(h1.stored _ _).1
 ·rw[y23]at hj;by_cases e:i=j
  ·subst e;rw[if_pos rfl,if_pos hl]at hj;simp only[y8,ym]at hj;obtain⟨rfl,rfl⟩:=hj;refine⟨u',by rw[hcs,if_pos rfl],ownsRow_setCell_other ho hug u',?_⟩;rw[hvb];exact .inr hug
  ·rw[if_neg e]at hj;obtain⟨x,x1,x2,x3⟩:=h.inner j n ws hj;have hlj:=(yl.1 hj).1;refine⟨x,by rw[hcs,if_neg (fun e2=>e e2.symm)];exact x1,?_,x3⟩;refine ownsRow_setCell_other (x2.kept hg (h.apart j i x u (fun e2=>e e2.symm) hlj hl x1 hu)) (fun e2=>?_) u';rcases x3 with e3|e3
   ·rw[e3]at e2;simp at e2
   ·rw[hvb]at e3;exact e3 e2
 ·rw[y1p]at hj hj';rw[hcs]at h1 h2;by_cases e:j=i
  ·rw[if_pos e]at h1;have hj2:j'≠i:=fun e2=>hne2 (e.trans e2.symm);rw[if_neg hj2]at h2;obtain rfl:=yk h1;subst e;obtain⟨p,hp⟩:∃p,ys[j']?=some p:=⟨_,y9 hj'⟩;obtain⟨y,y1,y2,_⟩:=h.inner j' p.1 p.2 hp;rw[h2]at y1;obtain rfl:=yk y1;have:=hu' (h.apart j' j x' u (fun e2=>hj2 e2) hj' hj h2 hu) (fun b hb2=>(y2.lt b hb2).2);rcases this with e3|e3
   ·cases hx:u'.ownBlock with
    |none=>exact .inl rfl
    |some b=>rw[e3];exact .inr (by simp)
   ·exact .inr fun e4=>e3 e4.symm
  ·rw[if_neg e]at h1;by_cases e':j'=i
   ·rw[if_pos e']at h2;obtain rfl:=yk h2;subst e';obtain⟨p,hp⟩:∃p,ys[j]?=some p:=⟨_,y9 hj⟩;obtain⟨y,y1,y2,_⟩:=h.inner j p.1 p.2 hp;rw[h1]at y1;obtain rfl:=yk y1;exact hu' (h.apart j j' x u e hj hj' h1 hu) (fun b hb2=>(y2.lt b hb2).2)
   ·rw[if_neg e']at h2;exact h.apart j j' x x' hne2 hj hj' h1 h2
end
end B
namespace B
open Go Go.RowKit Go.Shelf
set_option maxRecDepth 1000000
set_option linter.unusedVariables false
def StN(St:Nat→Nat→Prop)(w w':World)(v:Value)(b o:Nat):Prop:=(b<w.heap.size∧St b o)∨(w.heap.size≤b∧b<w'.heap.size∧v.ownBlock≠some b)
open Classical in
theorem z2i5{St:Nat→Nat→Prop}{w w':World}{v:Value}{τ:Ty}{xs:List (Den τ)}(hext:Ext w w')(hbd:∀b o,St b o→b<w.heap.size)(h:VRel En (StN St w w' .nilFunc) w' v (.dat τ xs)):
  Ret Tryz.prog En St w w' v [.c (.sl (U:=Un) τ xs false)] []:=by
 refine⟨hext,⟨fun _=>0,fun _=>False,fun b o=>if StN St w w' .nilFunc b o then some .st else none,fun _=>(none,0)⟩,fun _ h=>h,?_,?_,?_,?_⟩
 ·intro b o x hb hx;have hx':(if StN St w w' .nilFunc b o then some Own.st else none)=some x:=hx;split at hx'
  ·rename_i hs;simp at hx';rcases hs with⟨_,h2⟩|⟨h1,_⟩
   ·exact⟨hx'.symm,h2⟩
   ·omega
  ·simp at hx'
 ·intro b o x hx;have hx':(if StN St w w' .nilFunc b o then some Own.st else none)=some x:=hx;split at hx'
  ·rename_i hs;rcases hs with⟨h1,_⟩|⟨_,h2,_⟩
   ·exact yn h1 hext.le
   ·exact h2
  ·simp at hx'
 ·refine⟨h.mono fun b o hs=>⟨?_,rfl⟩,fun h=>by simp at h⟩;show(if StN St w w' .nilFunc b o then some Own.st else none)=some .st;rw[if_pos hs]
 ·intro k o ho;simp at ho
theorem zuj{w w':World}(h:Ext w w'):w.grownBy w' none:=⟨h.os,h.tape,h.output,h.size,fun k hk _=>Below.block h k hk⟩
theorem z1uf{w W W5:World}{row:Option Nat}(hx:Ext w W)(hg:W.grownBy W5 row)(hr:∀b,row=some b→w.heap.size≤b):Ext w W5:=
 Below.trans hx ⟨hg.os,hg.tape,hg.output,hg.size,fun k hk=>hg.block k (yn hk hx.size) (fun e=>by have:=hr k e.symm;omega)⟩
theorem z2ft{f:FuncId}{F:FnC Un}(hok:FnOK f F){args:List (D Un)}{ob:List Prop}{k:IntKind}{n:Int}(hF:F args=some (ob,[.c (.s (.int k n))],[]))(hob:∀p∈ob,p){w:World}{St:Nat→Nat→Prop}{vs:List Value}(hbd:∀b o,St b o→b<w.heap.size)(hrel:All2 (DRel Tryz.prog En St w) vs args)(hld:Laid w):
  Calls Tryz.prog f vs.toArray w fun e w'=>e=.returned (.int k n)∧Ext w w':=by
 refine((hok args ob _ [] hF hob).1 w St vs hbd hrel hld).mono ?_;rintro e w' ⟨v,rfl,hx,g,-,-,-,hr,-⟩;exact⟨by rw[show v=.int k n from hr.1],hx⟩
theorem z29q{St:Nat→Nat→Prop}{w:World}{v:Value}{keys:List (List Val)}(h:VRel En St w v (.dat (U:=Un) Ty.row keys)):
  ∃(a:Option Addr)(b off cap:Nat)(kv:Nat→Value),v=.slice a keys.length cap∧(keys≠[]→a=some ⟨b,off,none⟩∧keys.length≤cap)∧∀i,i<keys.length→St b (off+i)∧w.cell? ⟨b,off+i,none⟩=some (kv i)∧VRel En St w (kv i) (.dat (U:=Un) Ty.val (keys.getD i [])):=by
 rcases h.inv with⟨rfl,a,cap,rfl⟩|⟨b,o,cap,cv,rfl,hcap,h1,h2⟩
 ·exact⟨a,0,0,cap,fun _=>undef,rfl,fun h=>(h rfl).elim,fun i hi=>by simp at hi⟩
 ·refine⟨_,b,o,cap,fun i=>cv i 0,rfl,fun _=>⟨rfl,hcap.1⟩,fun i hi=>?_⟩;obtain⟨g1,g2⟩:=h1 i 0 hi (show(0:Nat)<1 from Nat.one_pos);have e:o+i*Un.sz Ty.row+0=o+i:=by show o+i*1+0=_;omega
  rw[e]at g1 g2;have g3:=h2 i hi 0 (.dat (U:=Un) Ty.val keys[i]) rfl;have e2:keys.getD i []=keys[i]:=by rw[yd,y9 hi];rfl
  exact⟨g1,g2,by rw[e2];exact g3⟩
theorem z21i{St:Nat→Nat→Prop}{w w':World}(hx:Ext w w')(hbd:∀b o,St b o→b<w.heap.size):Keeps St w St w':=fun b o hs=>⟨hs,hx.cell (p:=⟨b,o,none⟩) (hbd b o hs)⟩
end B
namespace B
open Go Go.Sort
set_option linter.unusedVariables false
variable {α:Type} [Inhabited α]
def swR(d:Array α)(a b:Nat):Nat→Array α
 |0=>d
 |n+1=>swR (swp d a b) (a+1) (b+1) n
def rotL:Nat→Array α→Nat→Nat→Nat→Array α
 |0,d,m,i,_=>swR d (m- i) m i
 |f+1,d,m,i,j=>if i=j then swR d (m- i) m i else if j<i then rotL f (swR d (m- i) m j) m (i- j) j else rotL f (swR d (m- i) (m+j- i) i) m i (j- i)
def rotF(d:Array α)(a m b:Nat):Array α:=rotL (b- a) d m (m- a) (b- m)
def bsL(p:Nat→Bool)(i j:Nat):Nat:=if i<j then(if p ((i+j)/2)then bsL p ((i+j)/2+1) j else bsL p i ((i+j)/2))else i
termination_by j- i
decreasing_by all_goals omega
def upL(d:Array α)(k e:Nat):Array α:=if k<e then upL (swp d k (k+1)) (k+1) e else d
termination_by e- k
def dnL(d:Array α)(k i:Nat):Array α:=if i<k then dnL (swp d k (k- 1)) (k- 1) i else d
termination_by k- i
def symS(lt:α→α→Bool)(d:Array α)(a m b:Nat):Nat:=
 bsL (fun c=>!lt d[(a+b)/2+m- 1- c]! d[c]!) (if(a+b)/2<m then(a+b)/2+m- b else a) (if(a+b)/2<m then(a+b)/2 else m)
def symF(lt:α→α→Bool):Nat→Array α→Nat→Nat→Nat→Array α
 |0,d,_,_,_=>d
 |f+1,d,a,m,b=>
  if m- a=1 then upL d a (bsL (fun h=>lt d[h]! d[a]!) m b- 1)
  else if b- m=1 then dnL d m (bsL (fun h=>!lt d[m]! d[h]!) a m)
  else
   let s:=symS lt d a m b;let e:=(a+b)/2+m- s;let d1:=if s<m∧m<e then rotF d s m e else d;let d2:=if a<s∧s<(a+b)/2 then symF lt f d1 a s ((a+b)/2)else d1
   if(a+b)/2<e∧e<b then symF lt f d2 ((a+b)/2) e b else d2
def stB(lt:α→α→Bool)(d:Array α)(a n bs:Nat):Array α:=if h:0<bs∧a+bs≤n then stB lt (Sort.insertionSort lt d a (a+bs)) (a+bs) n bs else Sort.insertionSort lt d a n
termination_by n- a
def stM(lt:α→α→Bool)(d:Array α)(a n bs:Nat):Array α:=
 if h:0<bs∧a+2*bs≤n then stM lt (symF lt (2*bs) d a (a+bs) (a+2*bs)) (a+2*bs) n bs
 else if a+bs<n then symF lt (n- a) d a (a+bs) n else d
termination_by n- a
def stR(lt:α→α→Bool)(d:Array α)(n bs:Nat):Array α:=if h:0<bs∧bs<n then stR lt (stM lt d 0 n bs) n (2*bs)else d
termination_by n- bs
def stF(lt:α→α→Bool)(d:Array α)(n:Nat):Array α:=stR lt (stB lt d 0 n 20) n 20
theorem zjg:∀(n:Nat)(d:Array α)(a b:Nat),(swR d a b n).size=d.size
 |0,_,_,_=>rfl
 |n+1,d,a,b=>by rw[swR,zjg n,size_swp]
theorem z18z:∀(f:Nat)(d:Array α)(m i j:Nat),(rotL f d m i j).size=d.size
 |0,d,m,i,j=>by rw[rotL,zjg]
 |f+1,d,m,i,j=>by
  rw[rotL];split
  ·rw[zjg]
  ·split
   ·rw[z18z f,zjg]
   ·rw[z18z f,zjg]
theorem z1ug(d:Array α)(a m b:Nat):(rotF d a m b).size=d.size:=z18z _ _ _ _ _
theorem z109(p:Nat→Bool)(i j:Nat)(h:i≤j):i≤bsL p i j∧bsL p i j≤j:=by
 induction i,j using bsL.induct (p:=p)with
 |case1 i j hlt hp ih=>rw[bsL,if_pos hlt,if_pos hp];have:=ih (by omega);omega
 |case2 i j hlt hp ih=>rw[bsL,if_pos hlt,if_neg hp];have:=ih (by omega);omega
 |case3 i j hlt=>rw[bsL,if_neg hlt];omega
theorem z2fu(d:Array α)(k e:Nat):(upL d k e).size=d.size:=by
 fun_induction upL d k e with
 |case1 d k h ih=>rw[ih,size_swp]
 |case2 d k h=>rfl
theorem z2fv(d:Array α)(k i:Nat):(dnL d k i).size=d.size:=by
 fun_induction dnL d k i with
 |case1 d k h ih=>rw[ih,size_swp]
 |case2 d k h=>rfl
theorem zk2(lt:α→α→Bool):∀(f:Nat)(d:Array α)(a m b:Nat),(symF lt f d a m b).size=d.size
 |0,_,_,_,_=>rfl
 |f+1,d,a,m,b=>by
  rw[symF];split
  ·rw[z2fu]
  ·split
   ·rw[z2fv]
   ·simp only;split<;>split<;>split<;>simp only[zk2 lt f,z1ug]
end B
namespace B
open Go Go.RowKit Go.Shelf Go.Lib Go.Sort
set_option linter.unusedVariables false
variable {P:Program} {α:Type} [Inhabited α] {enc:α→Value} {w0 W:World} {blk off:Nat} {dk d0:Array α}
def SX(enc:α→Value)(w0:World)(blk off:Nat)(dk:Array α)(W:World):Prop:=Below w0.heap.size (putRow enc w0 blk off dk) W
def CmpX(P:Program)(g:Nat)(cb:Array Value)(enc:α→Value)(cf:α→α→Int)(blk off size:Nat)(w:World):Prop:=
 ∀(W:World)(dk:Array α),dk.size=size→SX enc w blk off dk W→∀x y:α,Calls P g (#[enc x,enc y]++cb) W fun e w'=>e=.returned (.int .i64 (cf x y))∧Below W.heap.size W w'
theorem SX.le(h:SX enc w0 blk off dk W):w0.heap.size≤W.heap.size:=by have:=h.size;rwa[size_putRow]at this
theorem SX.below{W':World}(h:SX enc w0 blk off dk W)(hb:Below W.heap.size W W'):SX enc w0 blk off dk W':=Below.trans h (hb.mono h.le)
theorem SX.drew(h:SX enc w0 blk off dk W):SX enc w0 blk off dk W.drew:=Below.drew h
theorem SX.regrown(h:SX enc w0 blk off dk W)(d:Nat)(os:Array Obj):SX enc w0 blk off dk (grow (redrawn W d) os):=h.below (below_regrown W d os)
theorem SX.holds(h:SX enc w0 blk off dk W)(R:Row1 enc w0 blk off d0)(hs:dk.size=d0.size):Holds enc W blk off dk:=fun j hj=>by
 obtain⟨h1,h2⟩:=holds_putRow enc w0 blk off d0 dk R.hH hs j hj;exact⟨(Below.cell h R.hblk).trans h1,(Below.frozen h R.hblk).trans h2⟩
theorem SX.c1(h:SX enc w0 blk off dk W)(R:Row1 enc w0 blk off d0)(hs:dk.size=d0.size)(i:Nat)(hi:i<dk.size):W.cell? ⟨blk,off+i,none⟩=some (enc dk[i]!):=(h.holds R hs i hi).1
theorem SX.f1(h:SX enc w0 blk off dk W)(R:Row1 enc w0 blk off d0)(hs:dk.size=d0.size)(i:Nat)(hi:i<dk.size):W.frozen? ⟨blk,off+i,none⟩=false:=(h.holds R hs i hi).2
theorem SX.cl(h:SX enc w0 blk off dk W)(R:Row1 enc w0 blk off d0)(hs:dk.size=d0.size)(i:Nat)(hi:i<dk.size)(n:Nat)(os:Array Obj):(grow (redrawn W n) os).cell? ⟨blk,off+i,none⟩=some (enc dk[i]!):=(h.regrown n os).c1 R hs i hi
theorem SX.cmp{g:Nat}{cb:Array Value}{cf:α→α→Int}{size:Nat}(h:SX enc w0 blk off dk W)(hC:CmpX P g cb enc cf blk off size w0)(hs:dk.size=size)(x y:α)(n:Nat)(os:Array Obj):
  Calls P g (#[enc x,enc y]++cb) (grow (redrawn W n) os) fun e w'=>e=.returned (.int .i64 (cf x y))∧Below (grow (redrawn W n) os).heap.size (grow (redrawn W n) os) w':=hC _ dk hs (h.regrown n os) x y
theorem SX.c2(h:SX enc w0 blk off dk W)(R:Row1 enc w0 blk off d0)(hs:dk.size=d0.size)(i j:Nat)(hi:i<dk.size)(hj:j<dk.size)(v:Value):
  ∃u,(W.setCell ⟨blk,off+i,none⟩ v).cell? ⟨blk,off+j,none⟩=some u:=by
 by_cases e:i=j
 ·subst e;exact⟨v,World.cell?_setCell_same _ _ _ (h.c1 R hs i hi)⟩
 ·exact⟨_,(World.cell?_setCell_other _ _ _ _ (by intro e';simp only[Addr.mk.injEq]at e';omega)).trans (h.c1 R hs j hj)⟩
theorem z10a{B:Nat}{A W:World}(h:Below B A W)(p:Addr)(v:Value):Below B (A.setCell p v) (W.setCell p v):=by
 refine⟨h.os,h.tape,h.output,by simpa using h.size,fun k hk=>?_⟩;have hb:=h.block k hk;simp only[World.setCell,y3s];rw[hb]
theorem SX.swapped(h:SX enc w0 blk off dk W)(R:Row1 enc w0 blk off d0)(i j:Nat)(hi:i<dk.size)(hj:j<dk.size):
  SX enc w0 blk off (swp dk i j) ((W.setCell ⟨blk,off+i,none⟩ (enc dk[j]!)).setCell ⟨blk,off+j,none⟩ (enc dk[i]!)).drew:=by
 refine SX.drew ?_;unfold SX;rw[←putRow_swp enc w0 blk off dk i j hi hj];exact z10a (z10a h _ _) _ _
end B
namespace B
open Go Go.RowKit Go.Shelf Go.Lib Go.Sort
set_option maxRecDepth 1000000
set_option linter.unusedVariables false
noncomputable section
variable {α:Type} [Inhabited α]
set_option maxHeartbeats 4000000 in
theorem zy4(enc:α→Value)(g:Nat)(cb:Array Value)(blk off cap a b n:Nat)(d0 d:Array α)(w0 w:World)
  (R:Row1 enc w0 blk off d0)(hs:d0.size=d.size)(S:SX enc w0 blk off d w)(ha:a+n≤d.size)(hb:b+n≤d.size)(hsz:d.size<4611686018427387904):
  Calls Tryz.prog 250 #[.slice (some ⟨blk,off,none⟩) d.size cap,.int .i64 a,.int .i64 b,.int .i64 n,.func (.func g) #[] cb] w fun e w'=>e=.returned (.tuple #[])∧SX enc w0 blk off (swR d a b n) w':=by
 have mixed:Tryz.prog.follows .mixedOrders=true:=by kernel_rfl
 have hcl0:=R.hO.cells;simp only[Value.cells]at hcl0;have hst:=R.hO.store Tryz.prog;have S0:Aside (SX enc w0 blk off d w):=S;clear S
 go_enter Tryz.func250,Tryz.ntmps250
 go_wp2
 go_loopg [10] (n) (fun kx s10 wr=>∃(i:Nat)(dk:Array α),s10=.int .i64 i∧i≤n∧n- i≤kx∧dk.size=d.size∧Aside (SX enc w0 blk off dk wr)∧swR dk (a+i) (b+i) (n- i)=swR d a b n)
 case atStart=>exact⟨0,d,rfl,ya _,by omega,rfl,S0,rfl⟩
 case round=>
  clear S0;obtain⟨i,dk,rfl,hi,hkx,hds,S1,heq⟩:=hrel;by_cases hlt:i<n
  ·have hltz:(i:Int)<(n:Int):=by omega
   go_wp2_with fail
   obtain⟨iN1,hiN1⟩:∃q,q=a+i:=⟨_,rfl⟩;obtain⟨jN1,hjN1⟩:∃q,q=b+i:=⟨_,rfl⟩;have ea1:((a:Int)+(i:Int)).toNat=iN1:=by omega
   have pa1:(0:Int)≤(a:Int)+(i:Int):=by omega
   have ba1:(a:Int)+(i:Int)<(d.size:Int):=by omega
   have ra1:IntKind.i64.wrap ((a:Int)+(i:Int))=(a:Int)+(i:Int):=by rw[IntKind.wrap_i64];omega
   have ec1:((b:Int)+(i:Int)).toNat=jN1:=by omega
   have pc1:(0:Int)≤(b:Int)+(i:Int):=by omega
   have bc1:(b:Int)+(i:Int)<(d.size:Int):=by omega
   have rc1:IntKind.i64.wrap ((b:Int)+(i:Int))=(b:Int)+(i:Int):=by rw[IntKind.wrap_i64];omega
   obtain⟨x1,hx1⟩:∃x,x=dk[a+i]!:=⟨_,rfl⟩;obtain⟨y1,hy1⟩:∃x,x=dk[b+i]!:=⟨_,rfl⟩;have S2:Aside (SX enc w0 blk off (swp dk (a+i) (b+i)) ((wr.setCell ⟨blk,off+iN1,none⟩ (enc y1)).setCell ⟨blk,off+jN1,none⟩ (enc x1)).drew):=by rw[hiN1,hjN1,hx1,hy1];exact S1.out.swapped R (a+i) (b+i) (by omega) (by omega)
   have c1a:=S1.out.c1 R (by omega) (a+i) (by omega);have c1b:=S1.out.c1 R (by omega) (b+i) (by omega);have f1a:=S1.out.f1 R (by omega) (a+i) (by omega);have f1b:=S1.out.f1 R (by omega) (b+i) (by omega);obtain⟨u1,c1c⟩:=S1.out.c2 R (by omega) (a+i) (b+i) (by omega) (by omega) (enc y1);rw[←hjN1,←hiN1]at c1c;rw[←hx1,←hiN1]at c1a;rw[←hy1,←hjN1]at c1b;rw[←hiN1]at f1a;rw[←hjN1]at f1b;clear S1 hx1 hy1 hiN1 hjN1
   go_wp2_with fail
   go_big_region_o
   clear c1a c1b c1c f1a f1b;generalize((wr.setCell ⟨blk,off+iN1,none⟩ (enc y1)).setCell ⟨blk,off+jN1,none⟩ (enc x1)).drew=w2 at S2 ⊢;clear ea1 ec1
   go_wp2
   go_roundg (n- (i+1))
   case measure=>omega
   case rel=>
    refine⟨i+1,swp dk (a+i) (b+i),by go_num,by omega,y6 _,by rw[size_swp];exact hds,S2,?_⟩;rw[←heq,show n- i=(n- (i+1))+1 by omega,swR];rfl
  ·have hltz:¬(i:Int)<(n:Int):=by omega
   go_wp2
   go_end0
   refine⟨rfl,?_⟩;rw[show n- i=0 by omega,swR]at heq;rw[←heq];exact S1.out
set_option maxHeartbeats 4000000 in
theorem z2fw(enc:α→Value)(g:Nat)(cb:Array Value)(blk off cap a m b:Nat)(d0 d:Array α)(w0 w:World)
  (R:Row1 enc w0 blk off d0)(hs:d0.size=d.size)(S:SX enc w0 blk off d w)(ham:a<m)(hmb:m<b)(hb:b≤d.size)(hsz:d.size<4611686018427387904):
  Calls Tryz.prog 244 #[.slice (some ⟨blk,off,none⟩) d.size cap,.int .i64 a,.int .i64 m,.int .i64 b,.func (.func g) #[] cb] w fun e w'=>e=.returned (.tuple #[])∧SX enc w0 blk off (rotF d a m b) w':=by
 have mixed:Tryz.prog.follows .mixedOrders=true:=by kernel_rfl
 have S0:Aside (SX enc w0 blk off d w):=S;clear S
 go_enter Tryz.func244,Tryz.ntmps244
 go_wp2
 go_loopg [10,11] (b- a) (fun kx s10 s11 wr=>∃(f i j:Nat)(dk:Array α),s10=.int .i64 i∧s11=.int .i64 j∧0<i∧0<j∧i≤m∧m+j≤d.size∧i+j≤f∧i+j≤kx∧dk.size=d.size∧Aside (SX enc w0 blk off dk wr)∧rotL f dk m i j=rotF d a m b)
 case atStart=>exact⟨b- a,m- a,b- m,d,by go_num,by go_num,by omega,by omega,by omega,by omega,by omega,by omega,rfl,S0,rfl⟩
 case round=>
  clear S0;obtain⟨f,i,j,dk,rfl,rfl,hi,hj,him,hjm,hf,hkx,hds,S1,heq⟩:=hrel;obtain⟨f,rfl⟩:∃q,f=q+1:=⟨f- 1,by omega⟩;rw[rotL]at heq;by_cases he:i=j
  ·rw[if_pos he]at heq;subst he;have hne:((i:Int) !=(i:Int))=false:=by simp
   go_wp2_with (first
    |(go_at_call 250;rw[show((m:Int)- (i:Int))=((m- i:Nat):Int) by omega];rw[←hds];refine(zy4 enc g cb blk off cap (m- i) m i d0 dk w0 _ R (by omega) S1.out (by omega) (by omega) (by omega)).mono ?_;rintro e w' ⟨rfl,S2⟩;have S3:=Lib.hid S2;clear S2)
    |fail)
   go_end0
   exact⟨rfl,by rw[←heq];exact S3.out⟩
  ·rw[if_neg he]at heq;have hne:((i:Int) !=(j:Int))=true:=by simp;omega
   by_cases hij:j<i
   ·rw[if_pos hij]at heq;have hgt:(j:Int)<(i:Int):=by omega
    go_wp2_with (first
     |(go_at_call 250;rw[show((m:Int)- (i:Int))=((m- i:Nat):Int) by omega];rw[←hds];refine(zy4 enc g cb blk off cap (m- i) m j d0 dk w0 _ R (by omega) S1.out (by omega) (by omega) (by omega)).mono ?_;rintro e w' ⟨rfl,S2⟩;have S3:=Lib.hid S2;clear S2)
     |fail)
    go_roundg (i- j+j)
    case measure=>omega
    case rel=>exact⟨f,i- j,j,_,by go_num,rfl,by omega,by omega,by omega,by omega,by omega,by omega,by rw[zjg];exact hds,S3.out,heq⟩
   ·rw[if_neg hij]at heq;have hgt:¬(j:Int)<(i:Int):=by omega
    go_wp2_with (first
     |(go_at_call 250;rw[show((m:Int)- (i:Int))=((m- i:Nat):Int) by omega];rw[show((m:Int)+(j:Int)- (i:Int))=((m+j- i:Nat):Int) by omega];rw[←hds];refine(zy4 enc g cb blk off cap (m- i) (m+j- i) i d0 dk w0 _ R (by omega) S1.out (by omega) (by omega) (by omega)).mono ?_;rintro e w' ⟨rfl,S2⟩;have S3:=Lib.hid S2;clear S2)
     |fail)
    go_roundg (i+(j- i))
    case measure=>omega
    case rel=>exact⟨f,i,j- i,_,rfl,by go_num,by omega,by omega,by omega,by omega,by omega,by omega,by rw[zjg];exact hds,S3.out,heq⟩
end
end B
namespace B
open Go Go.RowKit Go.Shelf Go.Lib Go.Sort
set_option maxRecDepth 1000000
set_option linter.unusedVariables false
noncomputable section
variable {α:Type} [Inhabited α]
set_option maxHeartbeats 8000000 in
theorem z2jk(enc:α→Value)(cf:α→α→Int)(g:Nat)(cb:Array Value)(blk off cap a m b:Nat)(d0 d:Array α)(w0 w:World)
  (eg:∀args w,(callFunc g args).run Tryz.prog w=.ok (.enter g args) w)(hcmp:CmpX Tryz.prog g cb enc cf blk off d0.size w0)
  (R:Row1 enc w0 blk off d0)(hs:d0.size=d.size)(S:SX enc w0 blk off d w)(ham:m=a+1)(hmb:m<b)(hb:b≤d.size)(hsz:d.size<4611686018427387904):
  Calls Tryz.prog 227 #[.slice (some ⟨blk,off,none⟩) d.size cap,.int .i64 a,.int .i64 m,.int .i64 b,.func (.func g) #[] cb] w fun e w'=>e=.returned (.tuple #[])∧SX enc w0 blk off (upL d a (bsL (fun h=>ltOf cf d[h]! d[a]!) m b- 1)) w':=by
 have mixed:Tryz.prog.follows .mixedOrders=true:=by kernel_rfl
 have hcl0:=R.hO.cells;simp only[Value.cells]at hcl0;have hst:=R.hO.store Tryz.prog;have S0:Aside (SX enc w0 blk off d w):=S;have HC:Aside _:=hcmp;clear S hcmp;obtain⟨r,hr⟩:∃r,r=bsL (fun h=>ltOf cf d[h]! d[a]!) m b:=⟨_,rfl⟩;have hrb:=z109 (fun h=>ltOf cf d[h]! d[a]!) m b (by omega);rw[←hr]at hrb ⊢;have HR:=Lib.hid hr;clear hr;have h1:((m:Int)- (a:Int)==1)=true:=by simp;omega
 have hma:a<m:=by omega
 have HAM:=Lib.hid ham;clear ham
 go_enter Tryz.func227,Tryz.ntmps227
 go_wp2
 go_loopg [10,11] (b- a) (fun kx s10 s11 wr=>∃(i j:Nat),s10=.int .i64 i∧s11=.int .i64 j∧m≤i∧i≤j∧j≤b∧j- i≤kx∧Aside (SX enc w0 blk off d wr)∧bsL (fun h=>ltOf cf d[h]! d[a]!) i j=r)
 case atStart=>exact⟨m,b,rfl,rfl,y6 _,by omega,y6 _,by omega,S0,HR.out.symm⟩
 case round=>
  clear S0;obtain⟨i,j,rfl,rfl,hmi,hij,hjb,hkx,S1,heq⟩:=hrel;rw[bsL]at heq;have HQ:=Lib.hid heq;clear heq;by_cases hlt:i<j
  ·have hltz:(i:Int)<(j:Int):=by omega
   go_wp2_with fail
   obtain⟨k,hk⟩:∃q,q=(i+j)/2:=⟨_,rfl⟩;have ek:((i:Int)+(j:Int))/2=(k:Int):=by omega
   simp only[ek];clear ek;obtain⟨x1,hx1⟩:∃x,x=d[k]!:=⟨_,rfl⟩;obtain⟨y1,hy1⟩:∃x,x=d[a]!:=⟨_,rfl⟩;have ea1:((k:Int)).toNat=k:=by omega
   have pa1:(0:Int)≤(k:Int):=by omega
   have ba1:(k:Int)<(d.size:Int):=by omega
   have ec1:((a:Int)).toNat=a:=by omega
   have pc1:(0:Int)≤(a:Int):=by omega
   have bc1:(a:Int)<(d.size:Int):=by omega
   have l1a:=S1.out.cl R (by omega) k (by omega);have l1b:=S1.out.cl R (by omega) a (by omega);rw[←hx1]at l1a;rw[←hy1]at l1b;have hc1:=S1.out.cmp HC.out (by omega) x1 y1;have hlt1:ltOf cf d[k]! d[a]! =decide (cf x1 y1<0):=by rw[hx1,hy1];rfl
   have HL:=Lib.hid hlt1;have HK:=Lib.hid hk;clear hx1 hy1 hlt1 hk;by_cases hv:cf x1 y1<0
   ·have hd1:decide (cf x1 y1<0)=true:=decide_eq_true hv;refine wp_region_quiet_below (by assumption) (by kernel_rfl) ?_
    repeat(quiet_step (first|(go_at_fn g;refine Calls.regrown_of (hc1 _ _))))
    refine wpQuiet_nil ?_;intro _ hw';obtain⟨⟨nq,osq⟩,hw''⟩:=hw';subst hw'';have S2:Aside (SX enc w0 blk off d (grow (redrawn wr nq) osq)):=S1.out.regrown nq osq;clear l1a l1b hc1 S1;generalize grow (redrawn wr nq) osq=w2 at S2 ⊢;clear nq osq
    go_wp2_with fail
    have e1:=HK.out
    go_roundg (j- (k+1))
    case measure=>omega
    case rel=>exact⟨k+1,j,by go_num,rfl,by omega,by omega,by omega,y6 _,S2,by rw[←HQ.out,if_pos hlt,←e1,if_pos (by rw[HL.out,hd1])]⟩
   ·have hd1:decide (cf x1 y1<0)=false:=decide_eq_false hv;refine wp_region_quiet_below (by assumption) (by kernel_rfl) ?_
    repeat(quiet_step (first|(go_at_fn g;refine Calls.regrown_of (hc1 _ _))))
    refine wpQuiet_nil ?_;intro _ hw';obtain⟨⟨nq,osq⟩,hw''⟩:=hw';subst hw'';have S2:Aside (SX enc w0 blk off d (grow (redrawn wr nq) osq)):=S1.out.regrown nq osq;clear l1a l1b hc1 S1;generalize grow (redrawn wr nq) osq=w2 at S2 ⊢;clear nq osq
    go_wp2_with fail
    have e1:=HK.out
    go_roundg (k- i)
    case measure=>omega
    case rel=>exact⟨i,k,rfl,rfl,by omega,by omega,by omega,y6 _,S2,by rw[←HQ.out,if_pos hlt,←e1,if_neg (by rw[HL.out,hd1];simp)]⟩
  ·have hltz:¬(i:Int)<(j:Int):=by omega
   have er:i=r:=by rw[←HQ.out,if_neg hlt]
   clear HQ;subst er
   go_wp2_with fail
   have z1:((i:Int)- 1)=((i- 1:Nat):Int):=by omega
   go_loopg [13] (i- 1- a) (fun kx s13 wr2=>∃(k:Nat)(dk:Array α),s13=.int .i64 k∧a≤k∧i- 1- k≤kx∧dk.size=d.size∧Aside (SX enc w0 blk off dk wr2)∧upL dk k (i- 1)=upL d a (i- 1))
   case atStart=>exact⟨a,d,rfl,y6 _,by omega,rfl,S1,rfl⟩
   case round=>
    clear S1;obtain⟨k,dk,rfl,hak,hkx2,hds,S2,heq⟩:=hrel;have HE:=Lib.hid heq;clear heq;by_cases hlt2:k<i- 1
    ·have hltz2:(k:Int)<((i- 1:Nat):Int):=by omega
     go_wp2_with fail
     obtain⟨jN1,hjN1⟩:∃q,q=k+1:=⟨_,rfl⟩;have ea1:((k:Int)).toNat=k:=by omega
     have pa1:(0:Int)≤(k:Int):=by omega
     have ba1:(k:Int)<(d.size:Int):=by omega
     have ec1:((k:Int)+1).toNat=jN1:=by omega
     have pc1:(0:Int)≤(k:Int)+1:=by omega
     have bc1:(k:Int)+1<(d.size:Int):=by omega
     have rc1:IntKind.i64.wrap ((k:Int)+1)=(k:Int)+1:=by rw[IntKind.wrap_i64];omega
     obtain⟨x1,hx1⟩:∃x,x=dk[k]!:=⟨_,rfl⟩;obtain⟨y1,hy1⟩:∃x,x=dk[k+1]!:=⟨_,rfl⟩;have S3:Aside (SX enc w0 blk off (swp dk k (k+1)) ((wr.setCell ⟨blk,off+k,none⟩ (enc y1)).setCell ⟨blk,off+jN1,none⟩ (enc x1)).drew):=by rw[hjN1,hx1,hy1];exact S2.out.swapped R k (k+1) (by omega) (by omega)
     have c1a:=S2.out.c1 R (by omega) k (by omega);have c1b:=S2.out.c1 R (by omega) (k+1) (by omega);have f1a:=S2.out.f1 R (by omega) k (by omega);have f1b:=S2.out.f1 R (by omega) (k+1) (by omega);obtain⟨u1,c1c⟩:=S2.out.c2 R (by omega) k (k+1) (by omega) (by omega) (enc y1);rw[←hjN1]at c1c;rw[←hx1]at c1a;rw[←hy1,←hjN1]at c1b;rw[←hjN1]at f1b;clear S2 hx1 hy1 hjN1
     go_wp2_with fail
     go_big_region_o
     clear c1a c1b c1c f1a f1b;generalize((wr.setCell ⟨blk,off+k,none⟩ (enc y1)).setCell ⟨blk,off+jN1,none⟩ (enc x1)).drew=w2 at S3 ⊢;clear ea1 ec1
     go_wp2
     go_roundg (i- 1- (k+1))
     case measure=>omega
     case rel=>
      refine⟨k+1,swp dk k (k+1),by go_num,by omega,y6 _,by rw[size_swp];exact hds,S3,?_⟩;rw[←HE.out];conv=>rhs;rw[upL,if_pos hlt2]
    ·have hltz2:¬(k:Int)<((i- 1:Nat):Int):=by omega
     go_wp2_with fail
     (try simp only[Exit.inBlock,Exit.then]);refine bodyPost_ret (results_none rfl _ _ _) rfl ?_
     refine⟨rfl,?_⟩;rw[←HE.out,upL,if_neg hlt2];exact S2.out
set_option maxHeartbeats 8000000 in
theorem z2jl(enc:α→Value)(cf:α→α→Int)(g:Nat)(cb:Array Value)(blk off cap a m b:Nat)(d0 d:Array α)(w0 w:World)
  (eg:∀args w,(callFunc g args).run Tryz.prog w=.ok (.enter g args) w)(hcmp:CmpX Tryz.prog g cb enc cf blk off d0.size w0)
  (R:Row1 enc w0 blk off d0)(hs:d0.size=d.size)(S:SX enc w0 blk off d w)(ham:a<m)(hm1:m- a≠1)(hmb:b=m+1)(hb:b≤d.size)(hsz:d.size<4611686018427387904):
  Calls Tryz.prog 227 #[.slice (some ⟨blk,off,none⟩) d.size cap,.int .i64 a,.int .i64 m,.int .i64 b,.func (.func g) #[] cb] w fun e w'=>e=.returned (.tuple #[])∧SX enc w0 blk off (dnL d m (bsL (fun h=>!ltOf cf d[m]! d[h]!) a m)) w':=by
 have mixed:Tryz.prog.follows .mixedOrders=true:=by kernel_rfl
 have hcl0:=R.hO.cells;simp only[Value.cells]at hcl0;have hst:=R.hO.store Tryz.prog;have S0:Aside (SX enc w0 blk off d w):=S;have HC:Aside _:=hcmp;clear S hcmp;obtain⟨r,hr⟩:∃r,r=bsL (fun h=>!ltOf cf d[m]! d[h]!) a m:=⟨_,rfl⟩;have hrb:=z109 (fun h=>!ltOf cf d[m]! d[h]!) a m (by omega);rw[←hr]at hrb ⊢;have HR:=Lib.hid hr;clear hr;have h1:((m:Int)- (a:Int)==1)=false:=by simp;omega
 have h2:((b:Int)- (m:Int)==1)=true:=by simp;omega
 have hmb1:m<b:=by omega
 have HAM:=Lib.hid hmb;clear hmb
 go_enter Tryz.func227,Tryz.ntmps227
 go_wp2
 go_loopg [14,15] (m- a) (fun kx s10 s11 wr=>∃(i j:Nat),s10=.int .i64 i∧s11=.int .i64 j∧a≤i∧i≤j∧j≤m∧j- i≤kx∧Aside (SX enc w0 blk off d wr)∧bsL (fun h=>!ltOf cf d[m]! d[h]!) i j=r)
 case atStart=>exact⟨a,m,rfl,rfl,y6 _,by omega,y6 _,by omega,S0,HR.out.symm⟩
 case round=>
  clear S0;obtain⟨i,j,rfl,rfl,hmi,hij,hjb,hkx,S1,heq⟩:=hrel;rw[bsL]at heq;have HQ:=Lib.hid heq;clear heq;by_cases hlt:i<j
  ·have hltz:(i:Int)<(j:Int):=by omega
   go_wp2_with fail
   obtain⟨k,hk⟩:∃q,q=(i+j)/2:=⟨_,rfl⟩;have ek:((i:Int)+(j:Int))/2=(k:Int):=by omega
   simp only[ek];clear ek;obtain⟨x1,hx1⟩:∃x,x=d[m]!:=⟨_,rfl⟩;obtain⟨y1,hy1⟩:∃x,x=d[k]!:=⟨_,rfl⟩;have ea1:((k:Int)).toNat=k:=by omega
   have pa1:(0:Int)≤(k:Int):=by omega
   have ba1:(k:Int)<(d.size:Int):=by omega
   have ec1:((m:Int)).toNat=m:=by omega
   have pc1:(0:Int)≤(m:Int):=by omega
   have bc1:(m:Int)<(d.size:Int):=by omega
   have l1a:=S1.out.cl R (by omega) m (by omega);have l1b:=S1.out.cl R (by omega) k (by omega);rw[←hx1]at l1a;rw[←hy1]at l1b;have hc1:=S1.out.cmp HC.out (by omega) x1 y1;have hlt1:ltOf cf d[m]! d[k]! =decide (cf x1 y1<0):=by rw[hx1,hy1];rfl
   have HL:=Lib.hid hlt1;have HK:=Lib.hid hk;clear hx1 hy1 hlt1 hk;by_cases hv:cf x1 y1<0
   ·have hd1:decide (cf x1 y1<0)=true:=decide_eq_true hv;refine wp_region_quiet_below (by assumption) (by kernel_rfl) ?_
    repeat(quiet_step (first|(go_at_fn g;refine Calls.regrown_of (hc1 _ _))))
    refine wpQuiet_nil ?_;intro _ hw';obtain⟨⟨nq,osq⟩,hw''⟩:=hw';subst hw'';have S2:Aside (SX enc w0 blk off d (grow (redrawn wr nq) osq)):=S1.out.regrown nq osq;clear l1a l1b hc1 S1;generalize grow (redrawn wr nq) osq=w2 at S2 ⊢;clear nq osq
    go_wp2_with fail
    have e1:=HK.out
    go_roundg (k- i)
    case measure=>omega
    case rel=>exact⟨i,k,rfl,rfl,by omega,by omega,by omega,y6 _,S2,by rw[←HQ.out,if_pos hlt,←e1,if_neg (by rw[HL.out,hd1];simp)]⟩
   ·have hd1:decide (cf x1 y1<0)=false:=decide_eq_false hv;refine wp_region_quiet_below (by assumption) (by kernel_rfl) ?_
    repeat(quiet_step (first|(go_at_fn g;refine Calls.regrown_of (hc1 _ _))))
    refine wpQuiet_nil ?_;intro _ hw';obtain⟨⟨nq,osq⟩,hw''⟩:=hw';subst hw'';have S2:Aside (SX enc w0 blk off d (grow (redrawn wr nq) osq)):=S1.out.regrown nq osq;clear l1a l1b hc1 S1;generalize grow (redrawn wr nq) osq=w2 at S2 ⊢;clear nq osq
    go_wp2_with fail
    have e1:=HK.out
    go_roundg (j- (k+1))
    case measure=>omega
    case rel=>exact⟨k+1,j,by go_num,rfl,by omega,by omega,by omega,y6 _,S2,by rw[←HQ.out,if_pos hlt,←e1,if_pos (by rw[HL.out,hd1];rfl)]⟩
  ·have hltz:¬(i:Int)<(j:Int):=by omega
   have er:i=r:=by rw[←HQ.out,if_neg hlt]
   clear HQ;subst er
   go_wp2_with fail
   go_loopg [17] (m- i) (fun kx s13 wr2=>∃(k:Nat)(dk:Array α),s13=.int .i64 k∧i≤k∧k≤m∧k- i≤kx∧dk.size=d.size∧Aside (SX enc w0 blk off dk wr2)∧dnL dk k i=dnL d m i)
   case atStart=>exact⟨m,d,rfl,by omega,y6 _,y6 _,rfl,S1,rfl⟩
   case round=>
    clear S1;obtain⟨k,dk,rfl,hak,hkm,hkx2,hds,S2,heq⟩:=hrel;have HE:=Lib.hid heq;clear heq;by_cases hlt2:i<k
    ·have hltz2:(i:Int)<(k:Int):=by omega
     go_wp2_with fail
     obtain⟨jN1,hjN1⟩:∃q,q=k- 1:=⟨_,rfl⟩;have ea1:((k:Int)).toNat=k:=by omega
     have pa1:(0:Int)≤(k:Int):=by omega
     have ba1:(k:Int)<(d.size:Int):=by omega
     have ec1:((k:Int)- 1).toNat=jN1:=by omega
     have pc1:(0:Int)≤(k:Int)- 1:=by omega
     have bc1:(k:Int)- 1<(d.size:Int):=by omega
     have rc1:IntKind.i64.wrap ((k:Int)- 1)=(k:Int)- 1:=by rw[IntKind.wrap_i64];omega
     obtain⟨x1,hx1⟩:∃x,x=dk[k]!:=⟨_,rfl⟩;obtain⟨y1,hy1⟩:∃x,x=dk[k- 1]!:=⟨_,rfl⟩;have S3:Aside (SX enc w0 blk off (swp dk k (k- 1)) ((wr.setCell ⟨blk,off+k,none⟩ (enc y1)).setCell ⟨blk,off+jN1,none⟩ (enc x1)).drew):=by rw[hjN1,hx1,hy1];exact S2.out.swapped R k (k- 1) (by omega) (by omega)
     have c1a:=S2.out.c1 R (by omega) k (by omega);have c1b:=S2.out.c1 R (by omega) (k- 1) (by omega);have f1a:=S2.out.f1 R (by omega) k (by omega);have f1b:=S2.out.f1 R (by omega) (k- 1) (by omega);obtain⟨u1,c1c⟩:=S2.out.c2 R (by omega) k (k- 1) (by omega) (by omega) (enc y1);rw[←hjN1]at c1c;rw[←hx1]at c1a;rw[←hy1,←hjN1]at c1b;rw[←hjN1]at f1b;clear S2 hx1 hy1 hjN1
     go_wp2_with fail
     go_big_region_o
     clear c1a c1b c1c f1a f1b;generalize((wr.setCell ⟨blk,off+k,none⟩ (enc y1)).setCell ⟨blk,off+jN1,none⟩ (enc x1)).drew=w2 at S3 ⊢;clear ea1 ec1
     go_wp2
     go_roundg (k- 1- i)
     case measure=>omega
     case rel=>
      refine⟨k- 1,swp dk k (k- 1),by go_num,by omega,by omega,y6 _,by rw[size_swp];exact hds,S3,?_⟩;rw[←HE.out];conv=>rhs;rw[dnL,if_pos hlt2]
    ·have hltz2:¬(i:Int)<(k:Int):=by omega
     go_wp2_with fail
     (try simp only[Exit.inBlock,Exit.then]);refine bodyPost_ret (results_none rfl _ _ _) rfl ?_
     refine⟨rfl,?_⟩;rw[←HE.out,dnL,if_neg hlt2];exact S2.out
end
end B
namespace B
open Go Go.RowKit Go.Shelf Go.Lib Go.Sort
set_option maxRecDepth 1000000
set_option linter.unusedVariables false
noncomputable section
variable {α:Type} [Inhabited α]
theorem z29r(lt:α→α→Bool)(f:Nat)(d:Array α)(a m b mid s e:Nat)(h1:m- a≠1)(h2:b- m≠1)(hmid:mid=(a+b)/2)(hs:s=symS lt d a m b)(he:e=mid+m- s):
  symF lt (f+1) d a m b=if mid<e∧e<b then symF lt f (if a<s∧s<mid then symF lt f (if s<m∧m<e then rotF d s m e else d) a s mid else(if s<m∧m<e then rotF d s m e else d)) mid e b
   else(if a<s∧s<mid then symF lt f (if s<m∧m<e then rotF d s m e else d) a s mid else(if s<m∧m<e then rotF d s m e else d)):=by
 subst hs;subst hmid;subst he;rw[symF,if_neg h1,if_neg h2]
attribute [local irreducible] rotF symF in
set_option maxHeartbeats 4000000 in
theorem z2kj (enc:α→Value) (cf:α→α→Int) (g:Nat) (cb:Array Value) (blk off cap:Nat) (d0:Array α) (w0:World)
    (eg:∀ args w,(callFunc g args).run Tryz.prog w=.ok (.enter g args) w) (hcmp:CmpX Tryz.prog g cb enc cf blk off d0.size w0)
    (R:Row1 enc w0 blk off d0) (hsz:d0.size<4611686018427387904) : ∀ (f:Nat) (d:Array α) (w:World) (a m b:Nat),d0.size=d.size→SX enc w0 blk off d w→a<m→m<b→b≤d.size→b - a≤f →
    Calls Tryz.prog 227 #[.slice (some ⟨blk,off,none⟩) d.size cap,.int .i64 a,.int .i64 m,.int .i64 b,.func (.func g) #[] cb] w fun e w'=>e=.returned (.tuple #[])∧SX enc w0 blk off (symF (ltOf cf) f d a m b) w':=by
  intro f
  induction f with
  | zero=>intro d w a m b _ _ h1 h2 _ h3;omega
  | succ f ih =>
    intro d w a m b hs S ham hmb hb hf;by_cases hm1 : m - a=1
    · rw[symF,if_pos hm1];exact z2jk enc cf g cb blk off cap a m b d0 d w0 w eg hcmp R hs S (by omega) hmb hb (by omega)
    by_cases hb1 : b - m=1
    · rw[symF,if_neg hm1,if_pos hb1];exact z2jl enc cf g cb blk off cap a m b d0 d w0 w eg hcmp R hs S ham hm1 (by omega) hb (by omega)
    have mixed:Tryz.prog.follows .mixedOrders=true:=by kernel_rfl
    have hcl0:=R.hO.cells;simp only[Value.cells] at hcl0;have hst:=R.hO.store Tryz.prog;have S0:Aside (SX enc w0 blk off d w):=S;have HC:Aside _:=hcmp
    have hrec:∀ (dk:Array α) (W:World) (x y z:Nat),dk.size=d.size→SX enc w0 blk off dk W→x<y→y<z→z≤d.size→z - x≤f →
        Calls Tryz.prog 227 #[.slice (some ⟨blk,off,none⟩) d.size cap,.int .i64 x,.int .i64 y,.int .i64 z,.func (.func g) #[] cb] W fun e w'=>e=.returned (.tuple #[])∧SX enc w0 blk off (symF (ltOf cf) f dk x y z) w':=fun dk W x y z h1 h2 h3 h4 h5 h6=>by
      have:=ih dk W x y z (by omega) h2 h3 h4 (by omega) h6;rwa [h1] at this
    have HREC:=Lib.hid hrec;clear S ih hrec;obtain⟨mid,hmid⟩ : ∃ q,q=(a+b) / 2:=⟨_,rfl⟩;obtain⟨s,hsd⟩ : ∃ q,q=symS (ltOf cf) d a m b:=⟨_,rfl⟩;obtain⟨e,hed⟩ : ∃ q,q=mid+m - s:=⟨_,rfl⟩;have HF:=Lib.hid (z29r (ltOf cf) f d a m b mid s e hm1 hb1 hmid hsd hed);obtain⟨lo,hi,hlo⟩ : ∃ lo hi,(mid<m∧lo=mid+m - b∧hi=mid)∨(m≤mid∧lo=a∧hi=m):=by
      by_cases h : mid<m
      · exact⟨_,_,.inl ⟨h,rfl,rfl⟩⟩
      · exact⟨_,_,.inr ⟨by omega,rfl,rfl⟩⟩
    have hss:s=bsL (fun c=>!ltOf cf d[mid+m - 1 - c]! d[c]!) lo hi:=by
      rw[hsd];unfold symS;rw[← hmid];rcases hlo with ⟨h,rfl,rfl⟩ | ⟨h,rfl,rfl⟩
      · rw[if_pos h,if_pos h]
      · rw[if_neg (by omega),if_neg (by omega)]
    have hsb:=z109 (fun c=>!ltOf cf d[mid+m - 1 - c]! d[c]!) lo hi (by omega);rw[← hss] at hsb;have g1:((m:Int) - (a:Int) == 1)=false:=by simp;omega
    have g2:((b:Int) - (m:Int) == 1)=false:=by simp;omega
    have HSS:=Lib.hid hss;have HMID:=Lib.hid hmid;have HED:=Lib.hid hed;have hle:lo≤hi:=by omega
    have hlb:∀ c,lo≤c→c<hi→c<d.size∧c+1≤mid+m∧mid+m - 1 - c<d.size:=fun c h1 h2=>by omega
    have LB:=Lib.hid hlb;have he1:mid+m=e+s:=by omega
    have HE1:=Lib.hid he1;clear he1;have eb:((a:Int)+(b:Int)) / 2=(mid:Int):=by omega
    have mb:mid+m<9223372036854775807:=by omega
    have md:mid<d.size:=by omega
    have hib:hi<d.size:=by omega
    have hsz2:d.size<4611686018427387904:=by omega
    clear hss hed hmid hlb hsd;rcases hlo with ⟨hA,hlo,hhi⟩ | ⟨hA,hlo,hhi⟩
    all_goals
      have HLO:=Lib.hid hlo;have HHI:=Lib.hid hhi;clear hlo hhi;have k1:mid<m→((mid:Int)+(m:Int) - (b:Int))=((mid+m - b:Nat):Int):=fun _=>by omega
      first
        | have hAz:(mid:Int)<(m:Int):=by omega
        | have hAz:¬ (mid:Int)<(m:Int):=by omega
      first
        | have hAy:¬ mid<m:=by omega
        | skip
      go_enter Tryz.func227,Tryz.ntmps227
      go_wp2_with fail
      go_loopg [20,21] (hi - lo) (fun kx s20 s21 wr=>∃ (i j:Nat),s20=.int .i64 i∧s21=.int .i64 j∧lo≤i∧i≤j∧j≤hi∧j - i≤kx∧Aside (SX enc w0 blk off d wr)∧bsL (fun c=>!ltOf cf d[mid+m - 1 - c]! d[c]!) i j=s)
      case atStart=>exact⟨lo,hi,by rw[HLO.out],by rw[HHI.out],y6 _,hle,y6 _,y6 _,S0,HSS.out.symm⟩
      case round =>
        clear S0;obtain⟨i,j,rfl,rfl,hmi,hij,hjb,hkx,S1,heq⟩:=hrel;rw[bsL] at heq;have HQ:=Lib.hid heq;clear heq;by_cases hlt : i<j
        · have hltz:(i:Int)<(j:Int):=by omega
          go_wp2_with fail
          obtain⟨k,hk⟩ : ∃ q,q=(i+j) / 2:=⟨_,rfl⟩;have ek:((i:Int)+(j:Int)) / 2=(k:Int):=by omega
          simp only[ek];clear ek;obtain⟨q1,q2,q3⟩:=LB.out k (by omega) (by omega);obtain⟨iN1,hiN1⟩ : ∃ q,q=mid+m - 1 - k:=⟨_,rfl⟩;obtain⟨x1,hx1⟩ : ∃ x,x=d[iN1]!:=⟨_,rfl⟩;obtain⟨y1,hy1⟩ : ∃ x,x=d[k]!:=⟨_,rfl⟩;have ez1:((mid:Int)+(m:Int) - 1 - (k:Int))=(iN1:Int):=by omega
          have ra1:IntKind.i64.wrap ((mid:Int)+(m:Int) - 1 - (k:Int))=(iN1:Int):=by rw[IntKind.wrap_i64];omega
          have rb1:IntKind.i64.wrap (iN1:Int)=(iN1:Int):=by rw[IntKind.wrap_i64];omega
          have ea1:((iN1:Int)).toNat=iN1:=by omega
          have pa1:(0:Int)≤(iN1:Int):=by omega
          have ba1:(iN1:Int)<(d.size:Int):=by omega
          have ec1:((k:Int)).toNat=k:=by omega
          have pc1:(0:Int)≤(k:Int):=by omega
          have bc1:(k:Int)<(d.size:Int):=by omega
          have l1a:=S1.out.cl R (by omega) iN1 (by omega);have l1b:=S1.out.cl R (by omega) k (by omega);rw[← hx1] at l1a;rw[← hy1] at l1b;have hc1:=S1.out.cmp HC.out (by omega) x1 y1;have hlt1:ltOf cf d[mid+m - 1 - k]! d[k]! = decide (cf x1 y1<0):=by rw[← hiN1,hx1,hy1];rfl
          have HL:=Lib.hid hlt1;have HK:=Lib.hid hk;clear hx1 hy1 hlt1 hk hiN1;by_cases hv : cf x1 y1<0
          · have hd1:decide (cf x1 y1<0)=true:=decide_eq_true hv;refine wp_region_quiet_below (by assumption) (by kernel_rfl) ?_
            repeat (quiet_step (first | (go_at_fn g;refine Calls.regrown_of (hc1 _ _))))
            refine wpQuiet_nil ?_;intro _ hw';obtain⟨⟨nq,osq⟩,hw''⟩:=hw';subst hw'';have S2:Aside (SX enc w0 blk off d (grow (redrawn wr nq) osq)):=S1.out.regrown nq osq;clear l1a l1b hc1 S1;generalize grow (redrawn wr nq) osq=w2 at S2 ⊢;clear nq osq
            go_wp2_with fail
            have e1:=HK.out
            go_roundg (k - i)
            case measure=>omega
            case rel=>exact⟨i,k,rfl,rfl,by omega,by omega,by omega,y6 _,S2,by rw[← HQ.out,if_pos hlt,← e1,if_neg (by rw[HL.out,hd1];simp)]⟩
          · have hd1:decide (cf x1 y1<0)=false:=decide_eq_false hv;refine wp_region_quiet_below (by assumption) (by kernel_rfl) ?_
            repeat (quiet_step (first | (go_at_fn g;refine Calls.regrown_of (hc1 _ _))))
            refine wpQuiet_nil ?_;intro _ hw';obtain⟨⟨nq,osq⟩,hw''⟩:=hw';subst hw'';have S2:Aside (SX enc w0 blk off d (grow (redrawn wr nq) osq)):=S1.out.regrown nq osq;clear l1a l1b hc1 S1;generalize grow (redrawn wr nq) osq=w2 at S2 ⊢;clear nq osq
            go_wp2_with fail
            have e1:=HK.out
            go_roundg (j - (k+1))
            case measure=>omega
            case rel=>exact⟨k+1,j,by go_num,rfl,by omega,by omega,by omega,y6 _,S2,by rw[← HQ.out,if_pos hlt,← e1,if_pos (by rw[HL.out,hd1];rfl)]⟩
        · have hltz:¬ (i:Int)<(j:Int):=by omega
          have er:i=s:=by rw[← HQ.out,if_neg hlt]
          clear HQ;subst er;have he1:=HE1.out;have ee:((mid:Int)+(m:Int) - (i:Int))=(e:Int):=by omega
          have heb:e≤b:=by have:=HLO.out;have:=HHI.out;omega
          have hai:a≤i:=by have:=HLO.out;omega
          have him:i≤m:=by have:=HHI.out;omega
          clear he1;rcases yj i m with c1 | c1<;>rcases yj m e with c2 | c2<;>rcases yj a i with c3 | c3<;>rcases yj i mid with c4 | c4<;>rcases yj mid e with c5 | c5<;>rcases yj e b with c6 | c6
          all_goals first
            | (exfalso;have:=HE1.out;have:=HLO.out;have:=HHI.out;omega)
            | skip
          all_goals
            have hff:=HF.out
            first | rw[if_pos (show i<m∧m<e from ⟨by omega,by omega⟩)] at hff | rw[if_neg (show ¬ (i<m∧m<e) by omega)] at hff
            first | rw[if_pos (show a<i∧i<mid from ⟨by omega,by omega⟩)] at hff | rw[if_neg (show ¬ (a<i∧i<mid) by omega)] at hff
            first | rw[if_pos (show mid<e∧e<b from ⟨by omega,by omega⟩)] at hff | rw[if_neg (show ¬ (mid<e∧e<b) by omega)] at hff
            have HFF:=Lib.hid hff;clear hff
            first | have x1:(i:Int)<(m:Int):=by omega | have x1:¬ (i:Int)<(m:Int):=by omega
            first | have x2:(m:Int)<(e:Int):=by omega | have x2:¬ (m:Int)<(e:Int):=by omega
            first | have x3:(a:Int)<(i:Int):=by omega | have x3:¬ (a:Int)<(i:Int):=by omega
            first | have x4:(i:Int)<(mid:Int):=by omega | have x4:¬ (i:Int)<(mid:Int):=by omega
            first | have x5:(mid:Int)<(e:Int):=by omega | have x5:¬ (mid:Int)<(e:Int):=by omega
            first | have x6:(e:Int)<(b:Int):=by omega | have x6:¬ (e:Int)<(b:Int):=by omega
            go_wp2_with (first
              | (go_at_call 244;refine (z2fw enc g cb blk off cap i m e d0 d w0 _ R hs S1.out (by omega) (by omega) (by omega) (by omega)).mono ?_;rintro e1 w1 ⟨rfl,T⟩;have S1:=Lib.hid T;clear T)
              | (go_at_call 227
                 refine (HREC.out _ _ _ _ _ ?_ S1.out ?_ ?_ ?_ ?_).mono ?_
                 · first | exact hs.symm | (simp only[z1ug,zk2])
                 · omega
                 · omega
                 · omega
                 · omega
                 rintro e1 w1 ⟨rfl,T⟩;have S1:=Lib.hid T;clear T)
              | fail)
            go_end0
            exact⟨rfl,by rw[HFF.out];exact S1.out⟩
end
end B
namespace B
open Go Go.Sort
set_option linter.unusedVariables false
section
variable {α:Type}
structure Pre(le:α→α→Bool):Prop where
 trans:∀a b c,le a b=true→le b c=true→le a c=true
 total:∀a b,le a b=true∨le b a=true
theorem Pre.refl{le:α→α→Bool}(h:Pre le)(a:α):le a a=true:=(h.total a a).elim id id
def insS(le:α→α→Bool)(l:List α)(x:α):List α:=(l.takeWhile fun y=>le y x)++x::l.dropWhile fun y=>le y x
def z2a(le:α→α→Bool)(l:List α):List α:=l.foldl (insS le) []
def SrtS(le:α→α→Bool)(l:List α):Prop:=l.Pairwise fun a b=>le a b=true
variable {le:α→α→Bool}
theorem z1uh(l:List α)(x:α):(insS le l x).Perm (x::l):=by
 have e:(l.takeWhile fun y=>le y x)++(l.dropWhile fun y=>le y x)=l:=y31;unfold insS;refine List.perm_middle.trans ?_;rw[e]
theorem z1r9(h:Pre le){l:List α}(hs:SrtS le l)(x:α):∀y∈l.dropWhile (fun y=>le y x),le y x=false:=by
 induction l with
 |nil=>simp
 |cons z r ih=>
  obtain⟨h1,h2⟩:=y2i.1 hs;intro y hy;by_cases hz:le z x=true
  ·rw[y3e,if_pos hz]at hy;exact ih h2 y hy
  ·rw[y3e,if_neg hz]at hy;rcases yf.1 hy with rfl|hy
   ·simpa using hz
   ·cases hyx:le y x with
    |false=>rfl
    |true=>exact(hz (h.trans z y x (h1 y hy) hyx)).elim
theorem z1ra(l:List α)(x:α):∀y∈l.takeWhile (fun y=>le y x),le y x=true:=by
 intro y hy;have:=List.all_takeWhile (p:=fun y=>le y x) (l:=l);exact y19.1 this y hy
theorem Pre.lt(h:Pre le){a b:α}(hn:le a b=false):le b a=true:=by
 rcases h.total a b with e|e
 ·rw[hn]at e;simp at e
 ·exact e
theorem z21j(h:Pre le){l:List α}(hs:SrtS le l)(x:α):SrtS le (insS le l x):=by
 have e:(l.takeWhile fun y=>le y x)++(l.dropWhile fun y=>le y x)=l:=y31;have hs':=hs;unfold SrtS at hs';rw[←e]at hs';obtain⟨t1,t2,t3⟩:=y25.1 hs';have hd:=z1r9 h hs x;have ht:=z1ra (le:=le) l x;unfold insS SrtS;refine y25.2 ⟨t1,y2i.2 ⟨fun y hy=>h.lt (hd y hy),t2⟩,fun a ha b hb=>?_⟩;rcases yf.1 hb with rfl|hb
 ·exact ht a ha
 ·exact t3 a ha b hb
theorem z1hd(h:Pre le):∀(l s:List α),SrtS le s→SrtS le (l.foldl (insS le) s)∧(l.foldl (insS le) s).Perm (l++s)
 |[],s,hs=>⟨hs,List.Perm.refl _⟩
 |x::l,s,hs=>by
  obtain⟨h1,h2⟩:=z1hd h l (insS le s x) (z21j h hs x);exact⟨h1,h2.trans (((z1uh s x).append_left l).trans List.perm_middle)⟩
theorem zk3(h:Pre le)(l:List α):SrtS le (z2a le l):=(z1hd h l [] List.Pairwise.nil).1
theorem z1ne(h:Pre le)(l:List α):(z2a le l).Perm l:=by
 have:=(z1hd h l [] List.Pairwise.nil).2;rw[y14]at this;exact this
theorem z6z(h:Pre le)(l:List α):(z2a le l).length=l.length:=(z1ne h l).length_eq
theorem z1nf(l:List α)(x:α):z2a le (l++[x])=insS le (z2a le l) x:=by unfold z2a;rw[y2d];rfl
theorem z2db:∀(n:Nat)(A1 A2 B1 B2:List α),A1.length+B1.length=n→(∀x∈A1,∀y∈B2,le x y=true)→(∀y∈B1,∀x∈A2,le x y=false)→(A1++A2).merge (B1++B2) le=A1.merge B1 le++A2.merge B2 le:=by
 intro n
 induction n with
 |zero=>
  intro A1 A2 B1 B2 hn _ _;obtain rfl:A1=[]:=y10 (by omega);obtain rfl:B1=[]:=y10 (by omega);simp
 |succ n ih=>
  intro A1 A2 B1 B2 hn h1 h2;cases A1 with
  |nil=>
   cases B1 with
   |nil=>simp at hn
   |cons b B1=>
    have e:=ih [] A2 B1 B2 (by simp at hn ⊢;omega) (by simp) (fun y hy x hx=>h2 y (y11 _ hy) x hx);cases A2 with
    |nil=>simp
    |cons x A2=>
     have hb:=h2 b yy x yy;simp only[yz,y16,y3g]at e ⊢;rw[y3u,if_neg (by rw[hb];simp),e]
  |cons a A1=>
   cases B1 with
   |nil=>
    have e:=ih A1 A2 [] B2 (by simp at hn ⊢;omega) (fun x hx y hy=>h1 x (y11 _ hx) y hy) (by simp);cases B2 with
    |nil=>simp
    |cons y B2=>
     have hb:=h1 a yy y yy;simp only[yz,y16,y3h]at e ⊢;rw[y3u,if_pos hb,e]
   |cons b B1=>
    simp only[y16];rw[y3u,y3u];by_cases hab:le a b=true
    ·rw[if_pos hab,if_pos hab];have e:=ih A1 A2 (b::B1) B2 (by simp at hn ⊢;omega) (fun x hx y hy=>h1 x (y11 _ hx) y hy) h2;rw[←y16 (a:=b),e];rfl
    ·rw[if_neg hab,if_neg hab];have e:=ih (a::A1) A2 B1 B2 (by simp at hn ⊢;omega) h1 (fun y hy x hx=>h2 y (y11 _ hy) x hx);rw[←y16 (a:=a),e];rfl
theorem z9b{A1 A2 B1 B2:List α}(h1:∀x∈A1,∀y∈B2,le x y=true)(h2:∀y∈B1,∀x∈A2,le x y=false):(A1++A2).merge (B1++B2) le=A1.merge B1 le++A2.merge B2 le:=z2db _ _ _ _ _ rfl h1 h2
theorem z2dc(h:Pre le){A B:List α}(hA:SrtS le A)(hB:SrtS le B)(y:α):A.merge (insS le B y) le=insS le (A.merge B le) y:=by
 have eA:(A.takeWhile fun z=>le z y)++(A.dropWhile fun z=>le z y)=A:=y31;have eB:(B.takeWhile fun z=>le z y)++(B.dropWhile fun z=>le z y)=B:=y31;have a1:=z1ra (le:=le) A y;have b1:=z1ra (le:=le) B y;have a2:=z1r9 h hA y;have b2:=z1r9 h hB y;generalize(A.takeWhile fun z=>le z y)=A1 at eA a1;generalize(A.dropWhile fun z=>le z y)=A2 at eA a2;unfold insS;generalize(B.takeWhile fun z=>le z y)=B1 at eB b1 ⊢;generalize(B.dropWhile fun z=>le z y)=B2 at eB b2 ⊢;have h12:∀x∈A1,∀z∈B2,le x z=true:=fun x hx z hz=>h.trans x y z (a1 x hx) (h.lt (b2 z hz));have h21:∀z∈B1,∀x∈A2,le x z=false:=fun z hz x hx=>by
  cases e:le x z with
  |false=>rfl
  |true=>have:=h.trans x z y e (b1 z hz);rw[a2 x hx]at this;simp at this
 have m1:A.merge B le=A1.merge B1 le++A2.merge B2 le:=by rw[←eA,←eB];exact z9b h12 h21
 have m2:A.merge (B1++y::B2) le=A1.merge B1 le++y::A2.merge B2 le:=by
  have e1:A.merge (B1++y::B2) le=A1.merge (B1++[y]) le++A2.merge B2 le:=by
   rw[←eA,show B1++y::B2=(B1++[y])++B2 by simp];refine z9b h12 fun z hz x hx=>?_;rcases yc.1 hz with hz|hz
   ·exact h21 z hz x hx
   ·rw[yi]at hz;subst hz;exact a2 x hx
  have e2:A1.merge (B1++[y]) le=A1.merge B1 le++[y]:=by
   have:=z9b (le:=le) (A1:=A1) (A2:=[]) (B1:=B1) (B2:=[y]) (fun x hx z hz=>by rw[yi]at hz;subst hz;exact a1 x hx) (by simp);rw[y14,y3g]at this;exact this
  rw[e1,e2];simp
 have hm1:∀z∈A1.merge B1 le,le z y=true:=fun z hz=>by
  rcases List.mem_merge.1 hz with hz|hz
  ·exact a1 z hz
  ·exact b1 z hz
 have hm2:∀z∈A2.merge B2 le,le z y=false:=fun z hz=>by
  rcases List.mem_merge.1 hz with hz|hz
  ·exact a2 z hz
  ·exact b2 z hz
 rw[m2,m1];generalize A1.merge B1 le=M1 at hm1;generalize A2.merge B2 le=M2 at hm2;have t1:(M1++M2).takeWhile (fun z=>le z y)=M1:=by
  rw[y4u hm1];cases M2 with
  |nil=>simp
  |cons z M2=>rw[y3q,if_neg (by rw[hm2 z yy];simp)];simp
 have t2:(M1++M2).dropWhile (fun z=>le z y)=M2:=by
  rw[y4v hm1];cases M2 with
  |nil=>simp
  |cons z M2=>rw[y3e,if_neg (by rw[hm2 z yy];simp)]
 rw[t1,t2]
theorem z21k{P:List α→Prop}(h0:P [])(h1:∀l x,P l→P (l++[x])):∀l,P l:=by
 intro l;have:∀n(l:List α),l.length=n→P l:=by
  intro n
  induction n with
  |zero=>intro l hl;rw[y10 hl];exact h0
  |succ n ih=>
   intro l hl;rcases y4e l with rfl|⟨r,x,rfl⟩
   ·exact h0
   ·rw[y4f]at hl ⊢;exact h1 r x (ih r (by simpa using hl))
 exact this _ l rfl
theorem z1ef(h:Pre le)(X Y:List α):(z2a le X).merge (z2a le Y) le=z2a le (X++Y):=by
 refine z21k (P:=fun Y=>(z2a le X).merge (z2a le Y) le=z2a le (X++Y)) ?_ ?_ Y
 ·show(z2a le X).merge [] le=_;rw[y3h,y14]
 ·intro Y y ih;rw[z1nf,z2dc h (zk3 h X) (zk3 h Y),ih,←y12,z1nf]
end
end B
namespace B
open Go Go.Sort
set_option linter.unusedVariables false
section
variable {α:Type} [Inhabited α]
theorem zed{d:Array α}{P Q:List α}{x:α}(h:d.toList=P++x::Q){i:Nat}(hi:i=P.length):d[i]! =x:=by
 subst hi;have hl:P.length<d.size:=by rw[←y1l,h];simp
 rw[getElem!_pos d _ hl,←Array.getElem_toList hl,List.getElem_of_eq h];simp
omit [Inhabited α] in
theorem z1ng(x y:α):∀(P Q:List α),(P++x::Q).set P.length y=P++y::Q
 |[],Q=>rfl
 |a::P,Q=>by simp[z1ng x y P Q]
omit [Inhabited α] in
theorem z26l(x y:α)(P M Q:List α)(z:α):(P++z::(M++x::Q)).set (P.length+1+M.length) y=P++z::(M++y::Q):=by
 have:=z1ng x y (P++z::M) Q;rw[yb,yt,y12,y16,y12,y16]at this;rw[show P.length+1+M.length=P.length+(M.length+1) by omega];exact this
theorem z21l{d:Array α}{P M Q:List α}{x y:α}(h:d.toList=P++x::(M++y::Q)){i j:Nat}(hi:i=P.length)(hj:j=P.length+1+M.length):(swp d i j).toList=P++y::(M++x::Q):=by
 have hx:d[i]! =x:=zed h hi;have hy:d[j]! =y:=zed (P:=P++x::M) (Q:=Q) (by rw[h];simp) (by simp[hj];omega);unfold swp;rw[hx,hy,y2t,y2t,h,hi,hj,z1ng,z26l]
theorem z1ui{d:Array α}{P M Q:List α}{x y:α}(h:d.toList=P++x::(M++y::Q)){i j:Nat}(hi:i=P.length)(hj:j=P.length+1+M.length):(swp d j i).toList=P++y::(M++x::Q):=by
 have hx:d[i]! =x:=zed h hi;have hy:d[j]! =y:=zed (P:=P++x::M) (Q:=Q) (by rw[h];simp) (by simp[hj];omega);unfold swp;rw[hx,hy,y2t,y2t,h,hi,hj,z26l,z1ng]
theorem z12g:∀(n:Nat)(d:Array α)(P A M B Q:List α)(a b:Nat),A.length=n→B.length=n→a=P.length→b=P.length+n+M.length→d.toList=P++(A++(M++(B++Q)))→(swR d a b n).toList=P++(B++(M++(A++Q)))
 |0,d,P,A,M,B,Q,a,b,hA,hB,_,_,h=>by
  rw[y10 hA,y10 hB]at h ⊢;exact h
 |n+1,d,P,A,M,B,Q,a,b,hA,hB,ha,hb,h=>by
  cases A with
  |nil=>simp at hA
  |cons x A=>
   cases B with
   |nil=>simp at hB
   |cons y B=>
    have s:=z21l (d:=d) (P:=P) (M:=A++M) (Q:=B++Q) (x:=x) (y:=y) (by rw[h];simp) (i:=a) (j:=b) ha (by simp at hA ⊢;omega);have:=z12g n (swp d a b) (P++[y]) A (M++[x]) B Q (a+1) (b+1) (by simpa using hA) (by simpa using hB) (by simp[ha]) (by simp at hA ⊢;omega) (by rw[s];simp);rw[swR,this];simp
theorem z190:∀(f:Nat)(d:Array α)(P A B Q:List α)(m i j:Nat),A.length=i→B.length=j→0<i→0<j→i+j≤f→m=P.length+i→d.toList=P++(A++(B++Q))→(rotL f d m i j).toList=P++(B++(A++Q))
 |0,_,_,_,_,_,_,_,_,_,_,h1,_,h2,_,_=>by omega
 |f+1,d,P,A,B,Q,m,i,j,hA,hB,hi,hj,hf,hm,h=>by
  rw[rotL];by_cases e:i=j
  ·rw[if_pos e];exact z12g i d P A [] B Q _ _ hA (by omega) (by omega) (by simp;omega) h
  ·rw[if_neg e];by_cases l:j<i
   ·rw[if_pos l];have eA:=y1o j A;have s:=z12g j d P (A.take j) (A.drop j) B Q (m- i) m (by rw[yw];omega) hB (by omega) (by rw[yx];omega) (by rw[h,←y12 (A.take j),eA]);have:=z190 f (swR d (m- i) m j) (P++B) (A.drop j) (A.take j) Q m (i- j) j (by rw[yx];omega) (by rw[yw];omega) (by omega) hj (by omega) (by rw[yb];omega) (by rw[s];simp);rw[this,y12,←y12 (A.take j),eA]
   ·rw[if_neg l];have eB:=y1o (j- i) B;have s:=z12g i d P A (B.take (j- i)) (B.drop (j- i)) Q (m- i) (m+j- i) hA (by rw[yx];omega) (by omega) (by rw[yw];omega) (by rw[h,←y12 (B.take (j- i)),eB]);have:=z190 f (swR d (m- i) (m+j- i) i) P (B.drop (j- i)) (B.take (j- i)) (A++Q) m i (j- i) (by rw[yx];omega) (by rw[yw];omega) hi (by omega) (by omega) hm (by rw[s]);rw[this,←y12 (B.take (j- i)),eB]
theorem z2dd{d:Array α}{P A B Q:List α}{a m b:Nat}(ha:a=P.length)(hm:m=P.length+A.length)(hb:b=P.length+A.length+B.length)(hA:0<A.length)(hB:0<B.length)(h:d.toList=P++(A++(B++Q))):(rotF d a m b).toList=P++(B++(A++Q)):=by
 unfold rotF;exact z190 _ d P A B Q m _ _ (by omega) (by omega) (by omega) (by omega) (by omega) (by omega) h
theorem z21m:∀(L:List α)(d:Array α)(P Q:List α)(x:α)(k e:Nat),k=P.length→e=P.length+L.length→d.toList=P++x::(L++Q)→(upL d k e).toList=P++(L++x::Q)
 |[],d,P,Q,x,k,e,hk,he,h=>by
  rw[upL,if_neg (by simp at he;omega)];exact h
 |y::L,d,P,Q,x,k,e,hk,he,h=>by
  have s:=z21l (d:=d) (P:=P) (M:=[]) (Q:=L++Q) (x:=x) (y:=y) (by rw[h];simp) (i:=k) (j:=k+1) hk (by simp[hk]);have:=z21m L (swp d k (k+1)) (P++[y]) Q x (k+1) e (by simp[hk]) (by simp at he ⊢;omega) (by rw[s];simp);rw[upL,if_pos (by simp at he;omega),this];simp
theorem z21n:∀(n:Nat)(L:List α)(d:Array α)(P Q:List α)(x:α)(k i:Nat),L.length=n→i=P.length→k=P.length+L.length→d.toList=P++(L++x::Q)→(dnL d k i).toList=P++x::(L++Q)
 |0,L,d,P,Q,x,k,i,hn,hi,hk,h=>by
  rw[y10 hn]at h ⊢;rw[dnL,if_neg (by omega)];exact h
 |n+1,L,d,P,Q,x,k,i,hn,hi,hk,h=>by
  rcases y4e L with rfl|⟨L',y,rfl⟩
  ·simp at hn
  rw[y4f]at*;simp at hn hk;have s:=z1ui (d:=d) (P:=P++L') (M:=[]) (Q:=Q) (x:=y) (y:=x) (by rw[h];simp) (i:=k- 1) (j:=k) (by simp;omega) (by simp;omega);have:=z21n n L' (swp d k (k- 1)) P (y::Q) x (k- 1) i hn hi (by omega) (by rw[s];simp);rw[dnL,if_pos (by omega),this];simp
theorem z1rb(p:Nat→Bool)(i j:Nat)(h:i≤j)(hm:∀k k',i≤k→k≤k'→k'<j→p k'=true→p k=true):(∀k,i≤k→k<bsL p i j→p k=true)∧∀k,bsL p i j≤k→k<j→p k=false:=by
 fun_induction bsL p i j with
 |case1 i j hlt hp ih=>
  obtain⟨h1,h2⟩:=ih (by omega) fun k k' a b c d=>hm k k' (by omega) b c d;refine⟨fun k a b=>?_,h2⟩;by_cases e:k≤(i+j)/2
  ·exact hm k _ a e (by omega) hp
  ·exact h1 k (by omega) b
 |case2 i j hlt hp ih=>
  obtain⟨h1,h2⟩:=ih (by omega) fun k k' a b c d=>hm k k' a b (by omega) d;refine⟨h1,fun k a b=>?_⟩;by_cases e:k<(i+j)/2
  ·exact h2 k a e
  ·cases hk:p k with
   |false=>rfl
   |true=>exact(hp (hm _ k (by omega) (by omega) b hk)).elim
 |case3 i j hlt=>exact⟨fun k a b=>by omega,fun k a b=>by omega⟩
theorem z2de{le:α→α→Bool}{d:Array α}{P A Q:List α}(hs:SrtS le A)(hr:∀a,le a a=true)(h:d.toList=P++(A++Q)){i j:Nat}(hi:P.length≤i)(hij:i≤j)(hj:j<P.length+A.length):le d[i]! d[j]! =true:=by
 have g:∀k,(hk:k<A.length)→d[P.length+k]! =A[k]:=fun k hk=>by
  have e:A=A.take k++A[k]::A.drop (k+1):=by rw[←y1u hk,y1o]
  refine zed (P:=P++A.take k) (Q:=A.drop (k+1)++Q) ?_ (by rw[yb,yw];omega);rw[h,y12,show A.take k++A[k]::(A.drop (k+1)++Q)=(A.take k++A[k]::A.drop (k+1))++Q by rw[y12,y16],←e]
 obtain⟨a,rfl⟩:∃a,i=P.length+a:=⟨i- P.length,by omega⟩;obtain⟨b,rfl⟩:∃b,j=P.length+b:=⟨j- P.length,by omega⟩;rw[g a (by omega),g b (by omega)];by_cases e:a=b
 ·subst e;exact hr _
 ·exact y4n.1 hs a b (by omega) (by omega) (by omega)
theorem zq2{d:Array α}{P A Q:List α}(h:d.toList=P++(A++Q)){x:α}(hx:x∈A):∃i,P.length≤i∧i<P.length+A.length∧d[i]! =x:=by
 obtain⟨k,hk,rfl⟩:=List.mem_iff_getElem.1 hx;have e:A=A.take k++A[k]::A.drop (k+1):=by rw[←y1u hk,y1o]
 refine⟨P.length+k,by omega,by omega,zed (P:=P++A.take k) (Q:=A.drop (k+1)++Q) ?_ (by rw[yb,yw];omega)⟩;rw[h,y12,show A.take k++A[k]::(A.drop (k+1)++Q)=(A.take k++A[k]::A.drop (k+1))++Q by rw[y12,y16],←e]
end
end B
namespace B
open Go Go.Sort
set_option linter.unusedVariables false
section
variable {α:Type} [Inhabited α]
omit [Inhabited α] in
theorem z1rc{le:α→α→Bool}{x:α}{B1 B2:List α}(h1:∀y∈B1,le x y=false)(h2:∀y∈B2,le x y=true):[x].merge (B1++B2) le=B1++x::B2:=by
 have e1:=z9b (le:=le) (A1:=[]) (A2:=[x]) (B1:=B1) (B2:=B2) (by simp) (fun y hy z hz=>by rw[yi]at hz;subst hz;exact h1 y hy);have e2:=z9b (le:=le) (A1:=[x]) (A2:=[]) (B1:=[]) (B2:=B2) (fun z hz y hy=>by rw[yi]at hz;subst hz;exact h2 y hy) (by simp);rw[yz,y3g]at e1;rw[y14,yz,y3h,y3g]at e2;rw[e1,e2];rfl
omit [Inhabited α] in
theorem z1nh{le:α→α→Bool}{y:α}{A1 A2:List α}(h1:∀x∈A1,le x y=true)(h2:∀x∈A2,le x y=false):(A1++A2).merge [y] le=A1++y::A2:=by
 have e1:=z9b (le:=le) (A1:=A1) (A2:=A2) (B1:=[]) (B2:=[y]) (fun x hx z hz=>by rw[yi]at hz;subst hz;exact h1 x hx) (by simp);have e2:=z9b (le:=le) (A1:=[]) (A2:=A2) (B1:=[y]) (B2:=[]) (by simp) (fun z hz x hx=>by rw[yi]at hz;subst hz;exact h2 x hx);rw[yz,y3h]at e1;rw[y14,yz,y3h,y3g]at e2;rw[e1,e2];rfl
theorem z1uj{lt le:α→α→Bool}(hle:∀x y,le x y=!lt y x)(h:Pre le):∀(f:Nat)(d:Array α)(P A B Q:List α)(a m b:Nat),a=P.length→m=P.length+A.length→b=P.length+A.length+B.length→0<A.length→0<B.length→b- a≤f→
  SrtS le A→SrtS le B→d.toList=P++(A++(B++Q))→(symF lt f d a m b).toList=P++(A.merge B le++Q):=by
 intro f
 induction f with
 |zero=>intro d P A B Q a m b _ _ _ h1 h2 h3;omega
 |succ f ih=>
  intro d P A B Q a m b ha hm hb hA0 hB0 hf sA sB hd;have ltle:∀x y,lt x y=!le y x:=fun x y=>by rw[hle];simp
  have hdB:d.toList=(P++A)++(B++Q):=by rw[hd,y12]
  have hPA:(P++A).length=m:=by rw[yb];omega
  have oA:∀i j,a≤i→i≤j→j<m→le d[i]! d[j]! =true:=fun i j h1 h2 h3=>z2de sA h.refl hd (by omega) h2 (by omega);have oB:∀i j,m≤i→i≤j→j<b→le d[i]! d[j]! =true:=fun i j h1 h2 h3=>z2de sB h.refl hdB (by omega) h2 (by omega);rw[symF];by_cases c1:m- a=1
  ·rw[if_pos c1];obtain⟨x,rfl⟩:∃x,A=[x]:=y4w.1 (by omega);have hx:d[a]! =x:=zed (Q:=B++Q) (by rw[hd];rfl) ha;obtain⟨q1,q2⟩:=z1rb (fun h=>lt d[h]! d[a]!) m b (by omega) fun k k' u1 u2 u3 u4=>by
    simp only[ltle]at u4 ⊢;cases e:le d[a]! d[k]! with
    |false=>rfl
    |true=>rw[h.trans _ _ _ e (oB k k' u1 u2 u3)]at u4;simp at u4
   obtain⟨b1,b2⟩:=z109 (fun h=>lt d[h]! d[a]!) m b (by omega);generalize bsL (fun h=>lt d[h]! d[a]!) m b=r at q1 q2 b1 b2 ⊢;have eB:=y1o (r- m) B;have lB:(B.take (r- m)).length=r- m:=by rw[yw];omega
   have lB2:(B.drop (r- m)).length=b- r:=by rw[yx];omega
   generalize B.take (r- m)=B1 at eB lB;generalize B.drop (r- m)=B2 at eB lB2;subst eB;rw[z21m B1 d P (B2++Q) x a (r- 1) ha (by simp at hm;omega) (by rw[hd];simp)];rw[z1rc]
   ·simp
   ·intro y hy;obtain⟨i,i1,i2,rfl⟩:=zq2 (P:=P++[x]) (A:=B1) (Q:=B2++Q) (by rw[hd];simp) hy;have:=q1 i (by omega) (by omega);simpa[hx,ltle]using this
   ·intro y hy;obtain⟨i,i1,i2,rfl⟩:=zq2 (P:=P++[x]++B1) (A:=B2) (Q:=Q) (by rw[hd];simp) hy;have i3:(P++[x]++B1).length=r:=by simp;simp at hm;omega
    have:=q2 i (by omega) (by omega);simpa[hx,ltle]using this
  rw[if_neg c1];by_cases c2:b- m=1
  ·rw[if_pos c2];obtain⟨y,rfl⟩:∃y,B=[y]:=y4w.1 (by omega);have hy:d[m]! =y:=zed (P:=P++A) (Q:=Q) (by rw[hdB];rfl) hPA.symm;obtain⟨q1,q2⟩:=z1rb (fun h=>!lt d[m]! d[h]!) a m (by omega) fun k k' u1 u2 u3 u4=>by
    simp only[ltle,y4g]at u4 ⊢;exact h.trans _ _ _ (oA k k' u1 u2 u3) u4
   obtain⟨b1,b2⟩:=z109 (fun h=>!lt d[m]! d[h]!) a m (by omega);generalize bsL (fun h=>!lt d[m]! d[h]!) a m=r at q1 q2 b1 b2 ⊢;have eA:=y1o (r- a) A;have lA:(A.take (r- a)).length=r- a:=by rw[yw];omega
   have lA2:(A.drop (r- a)).length=m- r:=by rw[yx];omega
   generalize A.take (r- a)=A1 at eA lA;generalize A.drop (r- a)=A2 at eA lA2;subst eA;rw[z21n _ A2 d (P++A1) Q y m r rfl (by simp;omega) (by simp;omega) (by rw[hd];simp)];rw[z1nh]
   ·simp
   ·intro x hx;obtain⟨i,i1,i2,rfl⟩:=zq2 (P:=P) (A:=A1) (Q:=A2++([y]++Q)) (by rw[hd];simp) hx;have:=q1 i (by omega) (by omega);simpa[hy,ltle]using this
   ·intro x hx;obtain⟨i,i1,i2,rfl⟩:=zq2 (P:=P++A1) (A:=A2) (Q:=[y]++Q) (by rw[hd];simp) hx;have i3:(P++A1).length=r:=by simp;omega
    have:=q2 i (by omega) (by omega);simpa[hy,ltle]using this
  rw[if_neg c2];simp only;obtain⟨mid,hmid⟩:∃q,q=(a+b)/2:=⟨_,rfl⟩;rw[←hmid];obtain⟨lo,hi,hlo⟩:∃lo hi,(mid<m∧lo=mid+m- b∧hi=mid)∨(m≤mid∧lo=a∧hi=m):=by
   by_cases h:mid<m
   ·exact⟨_,_,.inl ⟨h,rfl,rfl⟩⟩
   ·exact⟨_,_,.inr ⟨by omega,rfl,rfl⟩⟩
  have hss:symS lt d a m b=bsL (fun c=>!lt d[mid+m- 1- c]! d[c]!) lo hi:=by
   unfold symS;rw[←hmid];rcases hlo with⟨h,rfl,rfl⟩|⟨h,rfl,rfl⟩
   ·rw[if_pos h,if_pos h]
   ·rw[if_neg (by omega),if_neg (by omega)]
  rw[hss];have hloa:a≤lo:=by omega
  have hhim:hi≤m:=by omega
  have hidx:∀c,lo≤c→c<hi→m≤mid+m- 1- c∧mid+m- 1- c<b:=fun c h1 h2=>by omega
  obtain⟨q1,q2⟩:=z1rb (fun c=>!lt d[mid+m- 1- c]! d[c]!) lo hi (by omega) fun k k' u1 u2 u3 u4=>by
   simp only[ltle,y4g]at u4 ⊢;have i1:=hidx k u1 (by omega);have i2:=hidx k' (by omega) u3;exact h.trans _ _ _ (oA k k' (by omega) u2 (by omega)) (h.trans _ _ _ u4 (oB _ _ i2.1 (by omega) i1.2))
  obtain⟨b1,b2⟩:=z109 (fun c=>!lt d[mid+m- 1- c]! d[c]!) lo hi (by omega);generalize bsL (fun c=>!lt d[mid+m- 1- c]! d[c]!) lo hi=s at q1 q2 b1 b2 ⊢;simp only[ltle,y4g]at q1 q2;obtain⟨e,he⟩:∃e,e=mid+m- s:=⟨_,rfl⟩;rw[←he];have hes:mid+m=e+s:=by omega
  have hem:m≤e:=by omega
  have heb:e≤b:=by omega
  have eA:=y1o (s- a) A;have lA:(A.take (s- a)).length=s- a:=by rw[yw];omega
  have lA2:(A.drop (s- a)).length=m- s:=by rw[yx];omega
  have eB:=y1o (e- m) B;have lB:(B.take (e- m)).length=e- m:=by rw[yw];omega
  have lB2:(B.drop (e- m)).length=b- e:=by rw[yx];omega
  generalize A.take (s- a)=A1 at eA lA;generalize A.drop (s- a)=A2 at eA lA2;generalize B.take (e- m)=B1 at eB lB;generalize B.drop (e- m)=B2 at eB lB2;subst eA;subst eB;have iA1:∀x∈A1,∃i,a≤i∧i<s∧d[i]! =x:=fun x hx=>by
   obtain⟨i,i1,i2,e⟩:=zq2 (P:=P) (A:=A1) (Q:=A2++((B1++B2)++Q)) (by rw[hd];simp) hx;exact⟨i,by omega,by omega,e⟩
  have iA2:∀x∈A2,∃i,s≤i∧i<m∧d[i]! =x:=fun x hx=>by
   obtain⟨i,i1,i2,e⟩:=zq2 (P:=P++A1) (A:=A2) (Q:=(B1++B2)++Q) (by rw[hd];simp) hx;rw[yb]at i1 i2;exact⟨i,by omega,by omega,e⟩
  have iB1:∀x∈B1,∃i,m≤i∧i<e∧d[i]! =x:=fun x hx=>by
   obtain⟨i,i1,i2,e⟩:=zq2 (P:=P++(A1++A2)) (A:=B1) (Q:=B2++Q) (by rw[hd];simp) hx;rw[hPA]at i1 i2;exact⟨i,by omega,by omega,e⟩
  have iB2:∀x∈B2,∃i,e≤i∧i<b∧d[i]! =x:=fun x hx=>by
   obtain⟨i,i1,i2,e⟩:=zq2 (P:=P++(A1++A2)++B1) (A:=B2) (Q:=Q) (by rw[hd];simp) hx;rw[yb,hPA]at i1 i2;exact⟨i,by omega,by omega,e⟩
  have h12:∀x∈A1,∀y∈B2,le x y=true:=fun x hx y hy=>by
   obtain⟨i,i1,i2,rfl⟩:=iA1 x hx;obtain⟨j,j1,j2,rfl⟩:=iB2 y hy;have hc:lo<s:=by omega
   have hq:=q1 (s- 1) (by omega) (by omega);rw[show mid+m- 1- (s- 1)=e by omega]at hq;exact h.trans _ _ _ (oA i (s- 1) i1 (by omega) (by omega)) (h.trans _ _ _ hq (oB e j hem j1 j2))
  have h21:∀y∈B1,∀x∈A2,le x y=false:=fun y hy x hx=>by
   obtain⟨i,i1,i2,rfl⟩:=iA2 x hx;obtain⟨j,j1,j2,rfl⟩:=iB1 y hy;have hq:=q2 s (y6 _) (by omega);rw[show mid+m- 1- s=e- 1 by omega]at hq;cases hxy:le d[i]! d[j]! with
   |false=>rfl
   |true=>
    have:=h.trans _ _ _ (oA s i (by omega) i1 i2) (h.trans _ _ _ hxy (oB j (e- 1) j1 (by omega) (by omega)));rw[hq]at this;simp at this
  rw[z9b h12 h21];have sA1:SrtS le A1:=(y25.1 sA).1;have sA2:SrtS le A2:=(y25.1 sA).2.1;have sB1:SrtS le B1:=(y25.1 sB).1;have sB2:SrtS le B2:=(y25.1 sB).2.1;obtain⟨d1,hd1⟩:∃d1,d1=(if s<m∧m<e then rotF d s m e else d):=⟨_,rfl⟩;rw[←hd1];have t1:d1.toList=P++(A1++(B1++(A2++(B2++Q)))):=by
   rw[hd1];by_cases c:s<m∧m<e
   ·rw[if_pos c,z2dd (P:=P++A1) (A:=A2) (B:=B1) (Q:=B2++Q) (by simp;omega) (by simp;omega) (by simp;omega) (by omega) (by omega) (by rw[hd];simp)];simp
   ·rw[if_neg c,hd];by_cases c3:s<m
    ·rw[y10 (l:=B1) (by omega)];simp
    ·rw[y10 (l:=A2) (by omega)];simp
  clear hd1;obtain⟨d2,hd2⟩:∃d2,d2=(if a<s∧s<mid then symF lt f d1 a s mid else d1):=⟨_,rfl⟩;rw[←hd2];have t2:d2.toList=P++(A1.merge B1 le++(A2++(B2++Q))):=by
   rw[hd2];by_cases c:a<s∧s<mid
   ·rw[if_pos c,ih d1 P A1 B1 (A2++(B2++Q)) a s mid ha (by omega) (by omega) (by omega) (by omega) (by omega) sA1 sB1 t1]
   ·rw[if_neg c,t1];by_cases c3:a<s
    ·rw[y10 (l:=B1) (by omega)];simp
    ·rw[y10 (l:=A1) (by omega)];simp
  clear hd2;have hml:(A1.merge B1 le).length=A1.length+B1.length:=List.length_merge le A1 B1;by_cases c:mid<e∧e<b
  ·rw[if_pos c,ih d2 (P++A1.merge B1 le) A2 B2 Q mid e b (by rw[yb];omega) (by rw[yb];omega) (by rw[yb];omega) (by omega) (by omega) (by omega) sA2 sB2 (by rw[t2];simp)];simp
  ·rw[if_neg c,t2];by_cases c3:mid<e
   ·rw[y10 (l:=B2) (by omega)];simp
   ·rw[y10 (l:=A2) (by omega)];simp
end
end B
end Go.Proofs.YtjfpbchdcbhfgaaGreat
