/- Part 10 of the proof: Slight5 Slight6 Slight7 Slight8. -/
import Derived.Test.YtjfpbchdcbhfgaaGreatNjo9
set_option linter.unusedVariables false
set_option linter.unusedSimpArgs false
namespace Go.Proofs.YtjfpbchdcbhfgaaGreat
namespace B
open Go Go.RowKit
set_option maxRecDepth 100000
noncomputable section
attribute [local irreducible] awp ctxK zw z1a retQ z1m awf ctxF z1l
def zq8:Mc Un:=mcF_ [(108,zmi),(107,zmm),(105,zij)] [] [] [] []
def zzv:Nat→NS:=nsF_ [(3,{ts:=bl 42 61,bs:=bl 42 0,nm:=[(.sl 4,168)],cs:=true})] true
def z82(l:List Int)(v0:Int)(v1:List Int):S Un:=(st 42 42 169 0 [(0,al .int l),(2,ai (0:Int)),(3,ai (0:Int)),(4,ao 168),(5,ai v0)] [] [(168,some ⟨(0:Nat),Ty.int,v1,some (0:Nat),true⟩)])
def zkg(l:List Int)(v0:Int)(v1:List Int)(v2:Int):S Un:=(st 42 42 169 0 [(0,al .int l),(2,ai (0:Int)),(3,ai v2),(4,ao 168),(5,ai v0)] [] [(168,some ⟨(0:Nat),Ty.int,v1,some (0:Nat),true⟩)])
def zd4:S Un→Option (EX Un):=lpF_ zq8 zzv Tryz.f111 [1,1,0,1,2,2] 3
def zmo:Exit→S Un→Option (RF Un):=cxF_ zq8 zzv Tryz.f111 [1,1,0,1,2] [.d,.d]
def z19o(l:List Int):Option (RF Un):=fnF_ zq8 zzv Tryz.f111 1 [.d,.d] [.d (.v (.dat (U:=Un) Ty.int l))]
theorem z24b(l:List Int):z19o l=(zd4 (z82 l (0:Int) ([]))).bind (zd zmo):=by kernel_rfl
def zmp(l:List Int)(v0:Int)(v1:List Int):Option (EX Un):=obO (0≤v0∧v0<(↑l.length:Int)) (obO ((v1.length+[l.getD v0.toNat (0:Int)].length)*(8:Nat)≤ze) (zd4 (z82 l (IntKind.i64.wrap (v0+1)) (v1++[l.getD v0.toNat (0:Int)]))))
theorem z19p(l:List Int)(v0:Int)(v1:List Int):zd4 (z82 l v0 v1)=cndO (decide (v0<(↑l.length:Int))) (obO (¬(2:Int)=(0:Int)) (cndO (v0.tmod (2:Int)==(0:Int)) (cndO (decide (IntKind.i64.wrap (v0+1)<(↑l.length:Int))) (obO (0≤v0∧v0<(↑l.length:Int)) (cndO (!z6p (l.getD v0.toNat (0:Int)) (1:Int)) (some (.ret,(zkg l v0 v1 (9:Int)))) (zd4 (z82 l (IntKind.i64.wrap (v0+1)) v1)))) (zmp l v0 v1)) (zmp l v0 v1))) (some (.exit 0,(z82 l v0 v1))):=lpQ_ (by kernel_rfl)
theorem z1jn(l:List Int)(v0:Int)(v1:List Int)(v2:Int):zmo .ret (zkg l v0 v1 v2)=some (z80 ((0:Int),v2)):=by kernel_rfl
theorem z1om(l:List Int)(v0:Int)(v1:List Int):zmo (.exit 0) (z82 l v0 v1)=some (z80 ((zo (z3i v1).fst (z3i v1).snd).fst,(zo (z3i v1).fst (z3i v1).snd).snd)):=by kernel_rfl
def z21w(l:List Int)(vs:List Int)(i:Nat):Option (List Int):=if i % 2=0∧i+1<l.length then(if z6p (l.getD i 0) 1=true then some vs else none)else some (vs++[l.getD i 0])
def zxp(l:List Int):Int×Int:=match z1de (z21w l) [] (List.range l.length)with|some vs=>zo (z3i vs).1 (z3i vs).2|none=>(0,9)
theorem z1u3(l:List Int)(_hl:WL .int l)(h:l.length≤2000000):z19o l=some (z80 (zxp l)):=by
 rw[z24b]
 exact z249 (L:=zd4) (st:=fun(vs:List Int) i=>z82 l i vs) (rt:=fun(vs:List Int) i=>zkg l i vs 9) (C:=zmo) (e:=.exit 0) (fun o=>some (z80 (match o with|some vs=>zo (z3i vs).1 (z3i vs).2|none=>(0,9)))) (l:=List.range l.length) (d:=0) (z21w l) (fun i vs=>vs.length≤i) (by grind)
  (fun vs i k hi hk _ hI=>by
   rw[y2w]at hi;have hk':k=i:=by grind
   subst hk';refine⟨fun b hb=>?_,?_⟩
   ·unfold z21w at hb;grind
   ·have et:zmp l (k:Int) vs=zd4 (z82 l (IntKind.i64.wrap ((k:Int)+1)) (vs++[l.getD k 0])):=by
     grind[zmp,Int.toNat_natCast,z6,ze,List.length_singleton]
    rw[z19p,et];unfold z21w;simp only[z8,hi,decide_true,if_true,and_true,y5,beq_iff_eq,decide_eq_true_eq];rw[z1f (by omega),z6 (by simp)];by_cases c1:k % 2=0
    ·by_cases c2:k+1<l.length
     ·rw[if_pos (show(k:Int)+1<(l.length:Int) by omega),z6 (by omega),if_pos (show k % 2=0∧k+1<l.length from⟨c1,c2⟩)];grind
     grind
    grind)
  (fun vs=>by rw[y2w,z19p];simp[z8]) (fun a i=>z1jn _ _ _ _) (fun a=>z1om _ _ _) [] (y6 _)
def z1gp:FnC Un:=fnF1 (dL .int) fun l=>([l.length≤2000000],z80 (zxp l))
theorem z24c:FnOK 111 z1gp:=fnK1 zr (M:=zq8) rfl ⟨zq4,zso,zmn,trivial⟩ trivial trivial trivial trivial Tryz.func111 fun l=>GiF.r fun w o=>z1u3 l (wfA_ w 0) (obA_ o 0)
def z1xl:Mc Un:=mcF_ [(110,zu3),(105,zij),(108,zmi)] [] [] [] []
def z14j(name:ByteArray)(k:Int):Option (RF Un):=fnF_ z1xl z28d Tryz.f134 0 [.d,.d] [.d (.v (cs name)),.d (.v (.s (.int .i64 k)))]
theorem z2db(name:ByteArray)(k:Int):z14j name k=cndO (name.toList==(ByteArray.mk #[99,111,117,110,116]).toList) (some (z80 ((zo (2:Int) (z4q k)).fst,(zo (2:Int) (z4q k)).snd))) (cndO (name.toList==(ByteArray.mk #[115,117,109]).toList) (some (z80 ((zo (2:Int) (z6p k (2:Int))).fst,(zo (2:Int) (z6p k (2:Int))).snd))) (cndO (name.toList==(ByteArray.mk #[109,105,110]).toList) (some (z80 ((zo k (z4q k)).fst,(zo k (z4q k)).snd))) (cndO (name.toList==(ByteArray.mk #[109,97,120]).toList) (some (z80 ((zo k (z4q k)).fst,(zo k (z4q k)).snd))) (some (z80 ((0:Int),(6:Int))))))):=by kernel_rfl
theorem ex_c{R:Int×Int→RF Un}{c:Bool}{x y:Option (RF Un)}(hx:c=true→∃p,x=some (R p))(hy:c=false→∃p,y=some (R p)):∃p,cndO c x y=some (R p):=by
 cases c
 ·exact hy rfl
 ·exact hx rfl
noncomputable def z21x(R:Int×Int→RF Un)(o:Option (RF Un)):Int×Int:=@Classical.epsilon (Int×Int) ⟨(0,0)⟩ fun p=>o=some (R p)
theorem z1jo{R:Int×Int→RF Un}{o:Option (RF Un)}(h:∃p,o=some (R p)):o=some (R (z21x R o)):=@Classical.epsilon_spec (Int×Int) (fun p=>o=some (R p)) h
noncomputable def z1df(name:ByteArray)(k:Int):Int×Int:=z21x z80 (z14j name k)
theorem z24d(name:ByteArray)(k:Int)(_hn:WStr name)(_hk:WI k):z14j name k=some (z80 (z1df name k)):=by
 refine z1jo ?_;rw[z2db]
 repeat' first|exact⟨_,rfl⟩|refine ex_c (fun _=>?_) (fun _=>?_)
def z1xm:FnC Un:=fnF2 dStr (dI .i64) fun name k=>([],z80 (z1df name k))
theorem z2dc:FnOK 134 z1xm:=fnK2 z3y z17 (M:=z1xl) rfl ⟨zzt,zmn,zq4,trivial⟩ trivial trivial trivial trivial Tryz.func134 fun name k=>GiF.r fun w _=>z24d name k (wfA_ w 0) (wfA_ w 1)
def z1on:Mc Un:=mcF_ [(106,z14i),(105,zij),(107,zmm)] [] [] [] []
def zzw(name:ByteArray)(l:List Int):Option (RF Un):=fnF_ z1on z28d Tryz.f60 0 [.d,.d] [.d (.v (cs name)),.d (.v (.dat (U:=Un) Ty.int l))]
def zzx(name:ByteArray)(l:List Int):Option (RF Un):=cndO (name.toList==(ByteArray.mk #[108,101,110,103,116,104]).toList) (some (z80 ((zo (2:Int) (z1s l (3:Int))).fst,(zo (2:Int) (z1s l (3:Int))).snd))) (cndO (name.toList==(ByteArray.mk #[108,111,119,101,114]).toList) (some (z80 ((zo (3:Int) (z1s l (3:Int))).fst,(zo (3:Int) (z1s l (3:Int))).snd))) (cndO (name.toList==(ByteArray.mk #[117,112,112,101,114]).toList) (some (z80 ((zo (3:Int) (z1s l (3:Int))).fst,(zo (3:Int) (z1s l (3:Int))).snd))) (cndO (name.toList==(ByteArray.mk #[97,98,115]).toList) (some (z80 ((zo (2:Int) (z1s l (2:Int))).fst,(zo (2:Int) (z1s l (2:Int))).snd))) (some (z80 ((zo (z3i l).fst (z3i l).snd).fst,(zo (z3i l).fst (z3i l).snd).snd))))))
def z1gq(name:ByteArray)(l:List Int):Option (RF Un):=cndO (!name.toList==(ByteArray.mk #[99,111,97,108,101,115,99,101]).toList) (some (z80 ((0:Int),(11:Int)))) (zzx name l)
def zil(name:ByteArray)(l:List Int):Option (RF Un):=cndO (decide ((↑l.length:Int)<(1:Int))) (some (z80 ((0:Int),(11:Int)))) (cndO (decide ((↑l.length:Int)>(1:Int))) (z1gq name l) (zzx name l))
theorem z29b(name:ByteArray)(l:List Int):zzw name l=cndO (name.toList==(ByteArray.mk #[108,101,110,103,116,104]).toList) (zil name l) (cndO (name.toList==(ByteArray.mk #[108,111,119,101,114]).toList) (zil name l) (cndO (name.toList==(ByteArray.mk #[117,112,112,101,114]).toList) (zil name l) (cndO (name.toList==(ByteArray.mk #[97,98,115]).toList) (zil name l) (cndO (name.toList==(ByteArray.mk #[99,111,97,108,101,115,99,101]).toList) (zil name l) (cndO (name.toList==(ByteArray.mk #[110,117,108,108,105,102]).toList) (cndO (decide ((↑l.length:Int)<(2:Int))) (some (z80 ((0:Int),(11:Int)))) (cndO (decide ((↑l.length:Int)>(2:Int))) (z1gq name l) (zzx name l))) (some (z80 ((0:Int),(6:Int))))))))):=by kernel_rfl
noncomputable def zog(name:ByteArray)(l:List Int):Int×Int:=z21x z80 (zzw name l)
theorem z20b(name:ByteArray)(l:List Int)(_hn:WStr name)(_hl:WL .int l):zzw name l=some (z80 (zog name l)):=by
 refine z1jo ?_;rw[z29b]
 repeat' first|exact⟨_,rfl⟩|refine ex_c (fun _=>?_) (fun _=>?_)
def z1oo:FnC Un:=fnF2 dStr (dL .int) fun name l=>([],z80 (zog name l))
theorem z29c:FnOK 60 z1oo:=fnK2 z3y zr (M:=z1on) rfl ⟨z1gm,zmn,zso,trivial⟩ trivial trivial trivial trivial Tryz.func60 fun name l=>GiF.r fun w _=>z20b name l (wfA_ w 0) (wfA_ w 1)
def z24e:Mc Un:=mcF_ [(109,z1ol),(107,zmm),(106,z14i),(105,zij),(110,zu3),(111,z1gp)] [] [] [] []
def z19q(op:Int)(l:List Int):Option (RF Un):=fnF_ z24e z28d Tryz.f62 0 [.d,.d] [.d (.v (.s (.int .i64 op))),.d (.v (.dat (U:=Un) Ty.int l))]
theorem z2gu(op:Int)(l:List Int):z19q op l=cndO ((zkf op).snd ==0) (some (z80 ((0:Int),(1:Int)))) (cndO (decide ((↑l.length:Int)<(zkf op).fst)) (some (z80 ((0:Int),(11:Int)))) (cndO (decide ((↑l.length:Int)>(zkf op).snd)) (some (z80 ((0:Int),(11:Int)))) (cndO (op==3) (some (z80 ((zo (2:Int) (z1s l (2:Int))).fst,(zo (2:Int) (z1s l (2:Int))).snd))) (cndO (op==5) (some (z80 ((zo (2:Int) (z1s l (2:Int))).fst,(zo (2:Int) (z1s l (2:Int))).snd))) (cndO (op==6) (some (z80 ((zo (2:Int) (z1s l (2:Int))).fst,(zo (2:Int) (z1s l (2:Int))).snd))) (cndO (op==7) (some (z80 ((zo (2:Int) (z1s l (2:Int))).fst,(zo (2:Int) (z1s l (2:Int))).snd))) (cndO (op==8) (some (z80 ((zo (2:Int) (z1s l (2:Int))).fst,(zo (2:Int) (z1s l (2:Int))).snd))) (cndO (op==9) (some (z80 ((zo (2:Int) (z1s l (2:Int))).fst,(zo (2:Int) (z1s l (2:Int))).snd))) (cndO (op==4) (some (z80 ((zo (1:Int) (z1s l (1:Int))).fst,(zo (1:Int) (z1s l (1:Int))).snd))) (cndO (op==17) (some (z80 ((zo (1:Int) (z1s l (1:Int))).fst,(zo (1:Int) (z1s l (1:Int))).snd))) (cndO (op==18) (some (z80 ((zo (1:Int) (z1s l (1:Int))).fst,(zo (1:Int) (z1s l (1:Int))).snd))) (cndO (op==10) (some (z80 ((zo (3:Int) (z1s l (3:Int))).fst,(zo (3:Int) (z1s l (3:Int))).snd))) (cndO (op==20) (some (z80 ((zo (1:Int) (z1s l (3:Int))).fst,(zo (1:Int) (z1s l (3:Int))).snd))) (cndO (op==19) (obO ((0:Int)≤(0:Int)∧(0:Int)<(↑l.length:Int)) (some (z80 ((zo (1:Int) (z4q (l.getD 0 (0:Int)))).fst,(zo (1:Int) (z4q (l.getD 0 (0:Int)))).snd)))) (cndO (op==23) (obO (l.length≤(2000000:Nat)) (some (z80 ((zxp l).fst,(zxp l).snd)))) (some (z80 ((zo (1:Int) (z3i l).snd).fst,(zo (1:Int) (z3i l).snd).snd)))))))))))))))))):=by kernel_rfl
noncomputable def z11s(op:Int)(l:List Int):Int×Int:=z21x z80 (z19q op l)
theorem z29d(op:Int)(l:List Int)(_ho:WI op)(_hl:WL .int l)(h:l.length≤2000000):z19q op l=some (z80 (z11s op l)):=by
 refine z1jo ?_;rw[z2gu];refine ex_c (fun _=>⟨_,rfl⟩) (fun _=>?_);refine ex_c (fun _=>⟨_,rfl⟩) (fun h1=>?_);have h2:op=19→0<l.length:=fun e=>by
  have e2:(zkf 19).1=1:=rfl;grind
 repeat' first|exact⟨_,rfl⟩|(rw[z6 h])|(refine ex_c (fun c=>?_) (fun _=>?_))|(rw[z6 ⟨y2f _,by grind⟩])
def z24f:FnC Un:=fnF2 (dI .i64) (dL .int) fun op l=>([l.length≤2000000],z80 (z11s op l))
theorem z2gv:FnOK 62 z24f:=fnK2 z17 zr (M:=z24e) rfl ⟨z29a,zso,z1gm,zmn,zzt,z24c,trivial⟩ trivial trivial trivial trivial Tryz.func62 fun op l=>GiF.r fun w o=>z29d op l (wfA_ w 0) (wfA_ w 1) (obA_ o 0)
end
end B
namespace B
open Go Go.RowKit
set_option maxRecDepth 100000
noncomputable section
attribute [local irreducible] awp ctxK zw z1a retQ z1m awf ctxF z1l
def zzz:Nat→NS:=nsF_ [(3,{ts:=bl 21 25,bs:=bl 21 0,nm:=[(.sl 3,84)],cs:=true})] true
def zd5(l:List Col)(v0:Int)(v1:List Int):S Un:=(st 21 21 85 0 [(0,al .col l),(3,ao 84),(4,ai v0)] [] [(84,some ⟨(0:Nat),Ty.int,v1,some (0:Nat),true⟩)])
def zmq:S Un→Option (EX Un):=lpF_ z1f6 zzz Tryz.f25 [1,1,0,1,2,2] 3
def z19r:Exit→S Un→Option (RF Un):=cxF_ z1f6 zzz Tryz.f25 [1,1,0,1,2] [.d]
def z19s(l:List Col):Option (RF Un):=fnF_ z1f6 zzz Tryz.f25 1 [.d] [.d (.v (.dat (U:=Un) Ty.col l))]
theorem z24g(l:List Col):z19s l=(zmq (zd5 l (0:Int) ([]))).bind (zd z19r):=by kernel_rfl
theorem z19t(l:List Col)(v0:Int)(v1:List Int):zmq (zd5 l v0 v1)=cndO (decide (v0<(↑l.length:Int))) (obO (0≤v0∧v0<(↑l.length:Int)) (obO ((v1.length+[(l.getD v0.toNat z9t).type].length)*(8:Nat)≤ze) (zmq (zd5 l (IntKind.i64.wrap (v0+1)) (v1++[(l.getD v0.toNat z9t).type]))))) (some (.exit 0,(zd5 l v0 v1))):=lpQ_ (by kernel_rfl)
theorem z1op(l:List Col)(v0:Int)(v1:List Int):z19r (.exit 0) (zd5 l v0 v1)=some (zod (v1)):=by kernel_rfl
def z1c(l:List Col):List Int:=l.map fun c=>c.type
theorem z14k:∀(l:List Col)(n:List Int),l.foldl (fun n c=>n++[c.type]) n=n++z1c l
 |[],n=>by simp[z1c]
 |c::l,n=>by rw[yx,z14k l];simp[z1c]
theorem z1u4(l:List Col)(hl:WL .col l)(h:l.length≤2000000000):z19s l=some (zod (z1c l)):=by
 obtain⟨lp,_⟩:=z1j (e:=.exit 0) (L:=zmq) (st:=fun(n:List Int) i=>zd5 l i n) (l:=l) (d:=z9t) (g:=fun n c=>n++[c.type]) (fun i n=>n.length=i) hl.len
  (fun n i c hi hc hI=>by
   rw[z19t];simp only[z8,hi,decide_true,if_true,and_true,y5,hc]
   grind[z6,ze,List.length_singleton])
  (fun n _=>by rw[z19t];simp[z8]) [] rfl
 rw[z14k,yw]at lp;rw[z24g];refine(zj lp).trans ?_;rw[z1op]
def zqa:FnC Un:=fnF1 (dL .col) fun l=>([l.length≤2000000000],zod (z1c l))
theorem zw0:FnOK 25 zqa:=fnK1 zr (M:=z1f6) rfl trivial trivial trivial trivial trivial Tryz.func25 fun l=>GiF.r fun w o=>z1u4 l (wfA_ w 0) (obA_ o 0)
def z100:Nat→NS:=nsF_ [(2,{ts:=bl 32 51,bs:=bl 32 0,nm:=[],cs:=true})] true
def z6q(a:List Int)(b:List Int)(v0:Int):S Un:=(st 32 32 128 0 [(0,al .int a),(1,al .int b),(4,ab false),(5,ai v0)] [] [])
def zmr:S Un→Option (EX Un):=lpF_ z1f6 z100 Tryz.f31 [1,0,1,2,2] 2
def zms:Exit→S Un→Option (RF Un):=cxF_ z1f6 z100 Tryz.f31 [1,0,1,2] [.d]
def z19u(a:List Int)(b:List Int):Option (RF Un):=fnF_ z1f6 z100 Tryz.f31 0 [.d] [.d (.v (.dat (U:=Un) Ty.int a)),.d (.v (.dat (U:=Un) Ty.int b))]
theorem z24h(a:List Int)(b:List Int):z19u a b=(zmr (z6q a b (0:Int))).bind (zd zms):=by kernel_rfl
theorem z19v(a:List Int)(b:List Int)(v0:Int):zmr (z6q a b v0)=cndO (decide (v0<(↑a.length:Int))) (cndO (decide (v0<(↑b.length:Int))) (obO (0≤v0∧v0<(↑a.length:Int)) (obO (0≤v0∧v0<(↑b.length:Int)) (cndO (a.getD v0.toNat (0:Int) !=b.getD v0.toNat (0:Int)) (some (.ret,(z6q a b v0))) (zmr (z6q a b (IntKind.i64.wrap (v0+1))))))) (some (.exit 0,(z6q a b v0)))) (some (.exit 0,(z6q a b v0))):=lpQ_ (by kernel_rfl)
theorem z1jp(a:List Int)(b:List Int)(v0:Int):zms .ret (z6q a b v0)=some (z9b (false)):=by kernel_rfl
theorem z1oq(a:List Int)(b:List Int)(v0:Int):zms (.exit 0) (z6q a b v0)=some (z9b ((↑a.length:Int)==(↑b.length:Int))):=by kernel_rfl
def zxq(a b:List Int):Bool:=(List.range (min a.length b.length)).all (fun i=>a.getD i 0==b.getD i 0)&&((a.length:Int)==(b.length:Int))
theorem z1u5(a b:List Int)(ha:WL .int a)(_hb:WL .int b):z19u a b=some (z9b (zxq a b)):=by
 have hlen:=ha.len;rw[z24h]
 exact z2x (L:=zmr) (st:=fun i=>z6q a b i) (C:=zms) (e:=.exit 0) (fun x=>some (z9b (x&&((a.length:Int)==(b.length:Int))))) (l:=List.range (min a.length b.length)) (d:=0) (fun i=>a.getD i 0==b.getD i 0) (by grind)
  (fun i k hi hk _=>by
   rw[y2w]at hi;have hk':k=i:=by grind
   subst hk';rw[z19v];simp only[z8,y5,decide_eq_true_eq];rw[if_pos (show(k:Int)<(a.length:Int) by omega),if_pos (show(k:Int)<(b.length:Int) by omega),z6 (by omega),z6 (by omega)]
   simp)
  (by
   rw[y2w,z19v];simp only[z8,decide_eq_true_eq]
   grind)
  (fun i=>by simp[y1w,z1jp]) (fun i=>by simp[y1b,z1oq])
def z1gr:FnC Un:=fnF2 (dL .int) (dL .int) fun a b=>([],z9b (zxq a b))
theorem z24i:FnOK 31 z1gr:=fnK2 zr zr (M:=z1f6) rfl trivial trivial trivial trivial trivial Tryz.func31 fun a b=>GiF.r fun w _=>z1u5 a b (wfA_ w 0) (wfA_ w 1)
def zqc:Mc Un:=mcF_ [(25,zqa)] [] [] [] []
def z102:Nat→NS:=nsF_ [(3,{ts:=bl 23 26,bs:=bl 23 2,nm:=[(.sl 3,92)],cs:=true})] true
def zd6(r:Rel)(v0:Int)(v1:List Int):S Un:=(st 23 23 93 0 [(1,ax 1),(3,ao 92),(4,ai v0)] [(1,bg .rel r)] [(92,some ⟨(0:Nat),Ty.int,v1,some (0:Nat),true⟩)])
def zmt:S Un→Option (EX Un):=lpF_ zqc z102 Tryz.f80 [1,1,0,1,2,2] 3
def z19w:Exit→S Un→Option (RF Un):=cxF_ zqc z102 Tryz.f80 [1,1,0,1,2] [.d]
def z19x(r:Rel):Option (RF Un):=fnF_ zqc z102 Tryz.f80 1 [.d] [.d (.agg (enc Ty.rel r))]
theorem z24j(r:Rel):z19x r=(zmt (zd6 r (0:Int) ([]))).bind (zd z19w):=by kernel_rfl
theorem z19y(r:Rel)(v0:Int)(v1:List Int):zmt (zd6 r v0 v1)=cndO (decide (v0<(↑r.kids.length:Int))) (obO (0≤v0∧v0<(↑r.kids.length:Int)) (obO ((Rel.cols (r.kids.getD v0.toNat za)).length≤(2000000000:Nat)) (obO ((v1.length+(z1c (Rel.cols (r.kids.getD v0.toNat za))).length)*(8:Nat)≤ze) (zmt (zd6 r (IntKind.i64.wrap (v0+1)) (v1++z1c (Rel.cols (r.kids.getD v0.toNat za)))))))) (some (.exit 0,(zd6 r v0 v1))):=lpQ_ (by kernel_rfl)
theorem z1or(r:Rel)(v0:Int)(v1:List Int):z19w (.exit 0) (zd6 r v0 v1)=some (zod (v1)):=by kernel_rfl
mutual
def clT:Term→Nat
 | .mk _ _ _ _ _ kids sub _=>clTs kids+clRs sub
def clTs:List Term→Nat
 |[]=>0
 |t::l=>clT t+clTs l
def clA:Agg→Nat
 | .mk _ _ t=>clTs t
def clAs:List Agg→Nat
 |[]=>0
 |a::l=>clA a+clAs l
def clR:Rel→Nat
 | .mk _ _ cols kids terms aggs _ _ _ _ _=>cols.length+clRs kids+clTs terms+clAs aggs
def clRs:List Rel→Nat
 |[]=>0
 |r::l=>clR r+clRs l
end
theorem z24k(t:Term):clT t=clTs t.kids+clRs t.sub:=by cases t;rfl
theorem z2gw(a:Agg):clA a=clTs a.t:=by cases a;rfl
theorem zbo(r:Rel):clR r=r.cols.length+clRs r.kids+clTs r.terms+clAs r.aggs:=by cases r;rfl
theorem zkh{t:Term}:∀{l:List Term},t∈l→clT t≤clTs l
 |x::l,h=>by
  simp only[clTs];rcases yg.1 h with rfl|h
  ·omega
  ·have:=zkh h;omega
theorem zgb{t:Rel}:∀{l:List Rel},t∈l→clR t≤clRs l
 |x::l,h=>by
  simp only[clRs];rcases yg.1 h with rfl|h
  ·omega
  ·have:=zgb h;omega
theorem z1jq{t:Agg}:∀{l:List Agg},t∈l→clA t≤clAs l
 |x::l,h=>by
  simp only[clAs];rcases yg.1 h with rfl|h
  ·omega
  ·have:=z1jq h;omega
def z2a(r:Rel):List Int:=r.kids.foldl (fun n k=>n++z1c k.cols) []
theorem z1u6(r:Rel)(hr:WS .rel r)(h:clR r≤2000000000):z19x r=some (zod (z2a r)):=by
 have h0:=zbo r
 obtain⟨lp,_⟩:=z1j (e:=.exit 0) (L:=zmt) (st:=fun(n:List Int) i=>zd6 r i n) (l:=r.kids) (d:=za) (g:=fun n k=>n++z1c k.cols) (fun i n=>n.length+clRs (r.kids.drop i)≤2000000000) (hr.rel_kids).len
  (fun n i k hi hk hI=>by
   have hd:=zkw (d:=za) (show i<r.kids.length by omega);rw[hd,hk]at hI;simp only[clRs]at hI;have h1:=zbo k;have h2:(z1c k.cols).length=k.cols.length:=by unfold z1c;simp
   rw[z19y];simp only[z8,hi,decide_true,if_true,and_true,y5,hk]
   grind[z6,ze])
  (fun n _=>by rw[z19y];simp[z8]) [] (by grind)
 rw[z24j];refine(zj lp).trans ?_;rw[z1or];rfl
def z103:FnC Un:=fnF1 (dS .rel) fun r=>([clR r≤2000000000],zod (z2a r))
theorem z19z:FnOK 80 z103:=fnK1 zt (M:=zqc) rfl ⟨zw0,trivial⟩ trivial trivial trivial trivial Tryz.func80 fun r=>GiF.r fun w o=>z1u6 r (wfA_ w 0) (obA_ o 0)
def z7u:Mc Un:=mcF_ [(25,zqa),(134,z1xm),(61,zu4),(80,z103)] [] [] [] []
def z4h(r:List Int×Bool):RF Un:=([.c (.sl (U:=Un) Ty.int r.1 false),.c (.s (.bool r.2))],[])
def z96:Nat→NS:=nsF_ [(8,{ts:=bl 162 50,bs:=bl 162 2,nm:=[(.sl 4,648)],cs:=true}),(15,{ts:=bl 162 194,bs:=bl 162 2,nm:=[(.sl 6,649)],cs:=true}),(19,{ts:=bl 162 334,bs:=bl 162 2,nm:=[(.sl 6,650)],cs:=true}),(35,{ts:=bl 162 61452,bs:=bl 162 0,nm:=[(.sl 14,651)],cs:=true})] true
def z104(r:Rel)(v4:Int):=z1df (Agg.name (r.aggs.getD v4.toNat zq)) (Term.type ((Agg.t (r.aggs.getD v4.toNat zq)).getD 0 zb))
def z105(r:Rel)(v4:Int):=z1df (Agg.name (r.aggs.getD v4.toNat zq)) (2:Int)
def zf2(r:Rel)(v0:Int)(v1:List Int):S Un:=(st 162 162 652 0 [(1,ax 1),(4,ao 648),(5,ai v0)] [(1,bg .rel r)] [(648,some ⟨(0:Nat),Ty.int,v1,some (0:Nat),true⟩)])
def z83(r:Rel)(v2:Int)(v3:List Int):S Un:=(st 162 162 652 0 [(1,ax 1),(6,ao 649),(7,ai v2)] [(1,bg .rel r)] [(649,some ⟨(0:Nat),Ty.int,v3,some (0:Nat),true⟩)])
def z5n(r:Rel)(v3:List Int)(v4:Int):S Un:=(st 162 162 652 0 [(1,ax 1),(6,ao 650),(8,ai v4)] [(1,bg .rel r)] [(650,some ⟨(0:Nat),Ty.int,v3,some (0:Nat),true⟩)])
def zag(r:Rel)(v3:List Int)(v4:Int):S Un:=(st 162 162 652 0 [(1,ax 1),(2,AV.one (A.c (C.sl Ty.int [] true))),(3,ab false),(6,ao 650),(8,ai v4)] [(1,bg .rel r)] [(650,some ⟨(0:Nat),Ty.int,v3,some (0:Nat),true⟩)])
def z4r(r:Rel)(v5:Int)(v6:List Int):S Un:=(st 162 162 652 0 [(2,AV.one (A.c (C.sl Ty.int [] true))),(3,ab false),(12,al .int (z1c (Rel.cols (r.kids.getD 0 za)))),(13,al .int (z1c (Rel.cols (r.kids.getD 1 za)))),(14,ao 651),(15,ai v5)] [] [(651,some ⟨(0:Nat),Ty.int,v6,some (0:Nat),true⟩)])
def zqd:S Un→Option (EX Un):=lpF_ z7u z96 Tryz.f81 [1,0,1,2,1,4,1,3,1,0,1,2,2] 8
def zgc:S Un→Option (EX Un):=lpF_ z7u z96 Tryz.f81 [1,0,1,2,1,4,1,4,1,3,1,0,1,2,2] 15
def z84:S Un→Option (EX Un):=lpF_ z7u z96 Tryz.f81 [1,0,1,2,1,4,1,4,1,3,1,1,0,1,2,2] 19
def zgd:S Un→Option (EX Un):=lpF_ z7u z96 Tryz.f81 [1,0,1,2,1,4,1,4,1,4,1,3,1,1,0,1,2,2] 35
def z106:Exit→S Un→Option (RF Un):=cxF_ z7u z96 Tryz.f81 [1,0,1,2,1,4,1,3,1,0,1,2] [.d,.d]
def zw1:Exit→S Un→Option (RF Un):=cxF_ z7u z96 Tryz.f81 [1,0,1,2,1,4,1,4,1,3,1,0,1,2] [.d,.d]
def zge:Exit→S Un→Option (RF Un):=cxF_ z7u z96 Tryz.f81 [1,0,1,2,1,4,1,4,1,3,1,1,0,1,2] [.d,.d]
def zmu:Exit→S Un→Option (RF Un):=cxF_ z7u z96 Tryz.f81 [1,0,1,2,1,4,1,4,1,4,1,3,1,1,0,1,2] [.d,.d]
def zqe(r:Rel):Option (RF Un):=fnF_ z7u z96 Tryz.f81 4 [.d,.d] [.d (.agg (enc Ty.rel r))]
def zin(r:Rel):Option (RF Un):=obO ((0:Int)≤(0:Int)∧(0:Int)<(↑r.kids.length:Int)) (obO ((Rel.cols (r.kids.getD 0 za)).length≤(2000000000:Nat)) (obO ((0:Int)≤(1:Int)∧(1:Int)<(↑r.kids.length:Int)) (obO ((Rel.cols (r.kids.getD 1 za)).length≤(2000000000:Nat)) ((zgd (z4r r (0:Int) ([]))).bind (zd zmu)))))
theorem z29e(r:Rel):zqe r=cndO (r.op==1) (obO (r.cols.length≤(2000000000:Nat)) (some (z4h (z1c r.cols,true)))) (cndO (r.op==2) (obO (r.cols.length≤(2000000000:Nat)) (some (z4h (z1c r.cols,true)))) (cndO (r.op==4) ((zqd (zf2 r (0:Int) ([]))).bind (zd z106)) (cndO (r.op==7) ((zgc (z83 r (0:Int) ([]))).bind (zd zw1)) (cndO (r.op==9) (zin r) (cndO (r.op==10) (zin r) (cndO (r.op==11) (zin r) (obO (clR (Rel.ids r)≤(2000000000:Nat)) (some (z4h (z2a (Rel.ids r),true)))))))))):=by kernel_rfl
theorem z1gs(r:Rel)(v0:Int)(v1:List Int):zqd (zf2 r v0 v1)=cndO (decide (v0<(↑r.terms.length:Int))) (obO (0≤v0∧v0<(↑r.terms.length:Int)) (obO ((v1.length+[Term.type (r.terms.getD v0.toNat zb)].length)*(8:Nat)≤ze) (zqd (zf2 r (IntKind.i64.wrap (v0+1)) (v1++[Term.type (r.terms.getD v0.toNat zb)]))))) (some (.exit 1,(zf2 r v0 v1))):=lpQ_ (by kernel_rfl)
theorem z1u7(r:Rel)(v0:Int)(v1:List Int):z106 (.exit 1) (zf2 r v0 v1)=some (z4h (v1,true)):=by kernel_rfl
theorem z1a0(r:Rel)(v2:Int)(v3:List Int):zgc (z83 r v2 v3)=cndO (decide (v2<(↑r.terms.length:Int))) (obO (0≤v2∧v2<(↑r.terms.length:Int)) (obO ((v3.length+[Term.type (r.terms.getD v2.toNat zb)].length)*(8:Nat)≤ze) (zgc (z83 r (IntKind.i64.wrap (v2+1)) (v3++[Term.type (r.terms.getD v2.toNat zb)]))))) (some (.exit 3,(z83 r v2 v3))):=lpQ_ (by kernel_rfl)
theorem z1os(r:Rel)(v2:Int)(v3:List Int):zw1 (.exit 3) (z83 r v2 v3)=(z84 (z5n r v3 (0:Int))).bind (zd zge):=by kernel_rfl
theorem z1a1(r:Rel)(v3:List Int)(v4:Int):z84 (z5n r v3 v4)=cndO (decide (v4<(↑r.aggs.length:Int))) (obO (0≤v4∧v4<(↑r.aggs.length:Int)) (cndO (decide ((↑(Agg.t (r.aggs.getD v4.toNat zq)).length:Int)>(0:Int))) (obO (0≤v4∧v4<(↑r.aggs.length:Int)) (obO ((0:Int)≤(0:Int)∧(0:Int)<(↑(Agg.t (r.aggs.getD v4.toNat zq)).length:Int)) (obO (0≤v4∧v4<(↑r.aggs.length:Int)) (cndO ((z104 r v4).snd !=0) (some (.ret,(zag r v3 v4))) (obO ((v3.length+[(z104 r v4).fst].length)*(8:Nat)≤ze) (z84 (z5n r (v3++[(z104 r v4).fst]) (IntKind.i64.wrap (v4+1))))))))) (obO (0≤v4∧v4<(↑r.aggs.length:Int)) (cndO ((z105 r v4).snd !=0) (some (.ret,(zag r v3 v4))) (obO ((v3.length+[(z105 r v4).fst].length)*(8:Nat)≤ze) (z84 (z5n r (v3++[(z105 r v4).fst]) (IntKind.i64.wrap (v4+1))))))))) (some (.exit 5,(z5n r v3 v4))):=lpQ_ (by kernel_rfl)
theorem z1jr(r:Rel)(v3:List Int)(v4:Int):zge .ret (zag r v3 v4)=some (z4h ([],false)):=by kernel_rfl
theorem z1ot(r:Rel)(v3:List Int)(v4:Int):zge (.exit 5) (z5n r v3 v4)=some (z4h (v3,true)):=by kernel_rfl
theorem z1a2(r:Rel)(v5:Int)(v6:List Int):zgd (z4r r v5 v6)=cndO (decide (v5<(↑(z1c (Rel.cols (r.kids.getD 0 za))).length:Int))) (cndO (decide (v5<(↑(z1c (Rel.cols (r.kids.getD 1 za))).length:Int))) (obO (0≤v5∧v5<(↑(z1c (Rel.cols (r.kids.getD 0 za))).length:Int)) (obO (0≤v5∧v5<(↑(z1c (Rel.cols (r.kids.getD 1 za))).length:Int)) (cndO (!(z61 ((z1c (Rel.cols (r.kids.getD 0 za))).getD v5.toNat (0:Int)) ((z1c (Rel.cols (r.kids.getD 1 za))).getD v5.toNat (0:Int))).snd) (some (.ret,(z4r r v5 v6))) (obO ((v6.length+[(z61 ((z1c (Rel.cols (r.kids.getD 0 za))).getD v5.toNat (0:Int)) ((z1c (Rel.cols (r.kids.getD 1 za))).getD v5.toNat (0:Int))).fst].length)*(8:Nat)≤ze) (zgd (z4r r (IntKind.i64.wrap (v5+1)) (v6++[(z61 ((z1c (Rel.cols (r.kids.getD 0 za))).getD v5.toNat (0:Int)) ((z1c (Rel.cols (r.kids.getD 1 za))).getD v5.toNat (0:Int))).fst]))))))) (some (.exit 7,(z4r r v5 v6)))) (some (.exit 7,(z4r r v5 v6))):=lpQ_ (by kernel_rfl)
theorem z1js(r:Rel)(v5:Int)(v6:List Int):zmu .ret (z4r r v5 v6)=some (z4h ([],false)):=by kernel_rfl
theorem z1ou(r:Rel)(v5:Int)(v6:List Int):zmu (.exit 7) (z4r r v5 v6)=some (z4h (v6,(↑(z1c (Rel.cols (r.kids.getD 0 za))).length:Int)==(↑(z1c (Rel.cols (r.kids.getD 1 za))).length:Int))):=by kernel_rfl
theorem zxr{σ ρ:Type}{R:ρ→RF Un}{L:S Un→Option (EX Un)}{C:Exit→S Un→Option (RF Un)}{st:σ→Int→S Un}{n:Nat}(hn:n≤9223372036854775807)(Inv:Nat→σ→Prop)
  (step:∀(a:σ)(i:Nat),i<n→Inv i a→(∃b,Inv (i+1) b∧L (st a (i:Int))=L (st b (IntKind.i64.wrap ((i:Int)+1))))∨∃p,(L (st a (i:Int))).bind (zd C)=some (R p))
  (stop:∀a,Inv n a→∃p,(L (st a (n:Int))).bind (zd C)=some (R p))(a:σ)(h0:Inv 0 a):∃p,(L (st a (0:Int))).bind (zd C)=some (R p):=by
 have key:∀(k i:Nat)(a:σ),i+k=n→Inv i a→∃p,(L (st a (i:Int))).bind (zd C)=some (R p):=by
  intro k
  induction k with
  |zero=>
   grind
  |succ k ih=>
   grind[step,z3g]
 exact key n 0 a (by omega) h0
theorem z14l{ρ:Type}{R:ρ→RF Un}{c:Bool}{x y:Option (RF Un)}(hx:c=true→∃p,x=some (R p))(hy:c=false→∃p,y=some (R p)):∃p,cndO c x y=some (R p):=by
 cases c
 ·exact hy rfl
 ·exact hx rfl
noncomputable def z2gx(R:List Int×Bool→RF Un)(o:Option (RF Un)):List Int×Bool:=@Classical.epsilon (List Int×Bool) ⟨([],false)⟩ fun p=>o=some (R p)
theorem z2gy{R:List Int×Bool→RF Un}{o:Option (RF Un)}(h:∃p,o=some (R p)):o=some (R (z2gx R o)):=@Classical.epsilon_spec (List Int×Bool) (fun p=>o=some (R p)) h
noncomputable def zgf(r:Rel):List Int×Bool:=z2gx z4h (zqe r)
def z1a3(r:Rel):Prop:=((r.op=9∨r.op=10∨r.op=11)→2≤r.kids.length)∧r.sz≤2000000∧clR r≤2000000000
theorem z1a4(r:Rel)(hk:2≤r.kids.length)(hc:clR r≤2000000000):∃p,zin r=some (z4h p):=by
 have c0:∀i,i<r.kids.length→(Rel.cols (r.kids.getD i za)).length≤2000000000:=fun i hi=>by
  have h1:=zgb (z8r (l:=r.kids) (d:=za) hi);grind[zbo,za]
 unfold zin;rw[z6 (by omega),z6 (c0 0 (by omega)),z6 (by omega),z6 (c0 1 (by omega))];generalize ha:z1c (Rel.cols (r.kids.getD 0 za))=a;generalize hb:z1c (Rel.cols (r.kids.getD 1 za))=b;have hal:a.length≤2000000000:=by grind[z1c,List.length_map]
 refine zxr (L:=zgd) (C:=zmu) (st:=fun(v:List Int) i=>z4r r i v) (n:=min a.length b.length) (by omega) (fun i v=>v.length≤i)
  (fun v i hi hI=>?_) (fun v hI=>?_) [] (yb _)
 ·rw[z1a2];simp only[ha,hb,y5];cases hJ:(z61 (a.getD i 0) (b.getD i 0)).2 with
  |false=>exact .inr ⟨_,by rw[z8,if_pos (by grind),z8,if_pos (by grind),z6 (by omega),z6 (by omega)];exact z1js _ _ _⟩
  |true=>
   exact .inl ⟨v++[(z61 (a.getD i 0) (b.getD i 0)).1],by grind,by
    rw[z8,if_pos (by grind),z8,if_pos (by grind),z6 (by omega),z6 (by omega),z8,if_neg (by simp),z6 (by grind[ze,List.length_singleton])]⟩
 ·have e:zgd (z4r r ((min a.length b.length:Nat):Int) v)=some (.exit 7,z4r r ((min a.length b.length:Nat):Int) v):=by
   rw[z1a2];simp only[ha,hb,z8,decide_eq_true_eq];grind
  grind[zj,trans,z1ou]
theorem z2gz(r:Rel)(hr:WS .rel r)(h:z1a3 r):∃p,zqe r=some (z4h p):=by
 obtain⟨hk,hs,hc⟩:=h;have h0:=zbo r;have h3:=r.sz_eq;have hl:=z60 r.terms;have hla:=z1iw r.aggs;rw[z29e];rw[z6 (show r.cols.length≤2000000000 by omega),Rel.ids_eq,z6 hc];refine z14l (fun _=>⟨_,rfl⟩) fun _=>z14l (fun _=>⟨_,rfl⟩) fun _=>z14l (fun _=>?_) fun _=>z14l (fun _=>?_) fun _=>z14l (fun c=>z1a4 r (hk (.inl (by grind))) hc) fun _=>z14l (fun c=>z1a4 r (hk (.inr (.inl (by grind)))) hc) fun _=>z14l (fun c=>z1a4 r (hk (.inr (.inr (by grind)))) hc) fun _=>⟨_,rfl⟩
 ·refine zxr (L:=zqd) (C:=z106) (st:=fun(v:List Int) i=>zf2 r i v) (n:=r.terms.length) (by omega) (fun i v=>v.length≤i) (fun v i hi hI=>.inl ?_) (fun v hI=>?_) [] (yb _)
  ·exact⟨v++[Term.type (r.terms.getD i zb)],by grind,by
    rw[z1gs,y5,z8,if_pos (by grind),z6 (by omega),z6 (by grind[ze,List.length_singleton])]⟩
  ·exact⟨_,(zj (by rw[z1gs,z8,if_neg (by simp)])).trans (z1u7 _ _ _)⟩
 ·refine zxr (L:=zgc) (C:=zw1) (st:=fun(v:List Int) i=>z83 r i v) (n:=r.terms.length) (by omega) (fun i v=>v.length≤i) (fun v i hi hI=>.inl ?_) (fun v hI=>?_) [] (yb _)
  ·exact⟨v++[Term.type (r.terms.getD i zb)],by grind,by
    rw[z1a0,y5,z8,if_pos (by grind),z6 (by omega),z6 (by grind[ze,List.length_singleton])]⟩
  ·rw[zj (show zgc (z83 r (r.terms.length:Int) v)=some (.exit 3,z83 r (r.terms.length:Int) v) by rw[z1a0,z8,if_neg (by simp)]),z1os];refine zxr (L:=z84) (C:=zge) (st:=fun(v:List Int) i=>z5n r v i) (n:=r.aggs.length) (by omega) (fun i v=>v.length≤4000000+i) (fun v i hi hI=>?_) (fun v hI=>?_) v (by omega)
   ·rw[z1a1,y5,z8,if_pos (by grind),z6 (by omega)]
    have step:∀p:Int×Int,(∃b:List Int,b.length≤4000000+(i+1)∧cndO (p.2 !=0) (some (.ret,zag r v i)) (obO ((v.length+[p.1].length)*(8:Nat)≤ze) (z84 (z5n r (v++[p.1]) (IntKind.i64.wrap ((i:Int)+1)))))=z84 (z5n r b (IntKind.i64.wrap ((i:Int)+1))))∨
      ∃q,(cndO (p.2 !=0) (some (.ret,zag r v i)) (obO ((v.length+[p.1].length)*(8:Nat)≤ze) (z84 (z5n r (v++[p.1]) (IntKind.i64.wrap ((i:Int)+1)))))).bind (zd zge)=some (z4h q):=fun p=>by
     cases hp:(p.2 !=0)with
     |true=>exact .inr ⟨_,z1jr _ _ _⟩
     |false=>exact .inl ⟨v++[p.1],by grind,by rw[z8,if_neg (by simp),z6 (by grind[ze,List.length_singleton])]⟩
    by_cases c:(↑(Agg.t (r.aggs.getD i zq)).length:Int)>(0:Int)
    all_goals simp_all[z8,if_pos,z6,step,if_neg]
   ·exact⟨_,(zj (by rw[z1a1,z8,if_neg (by simp)])).trans (z1ot _ _ _)⟩
theorem z20c(r:Rel)(hr:WS .rel r)(h:z1a3 r):zqe r=some (z4h (zgf r)):=z2gy (z2gz r hr h)
def z1ov:FnC Un:=fnF1 (dS .rel) fun r=>([z1a3 r],z4h (zgf r))
theorem z29f:FnOK 81 z1ov:=fnK1 zt (M:=z7u) rfl ⟨zw0,z2dc,zzu,z19z,trivial⟩ trivial trivial trivial trivial Tryz.func81 fun r=>GiF.r fun w o=>z20c r (wfA_ w 0) (obA_ o 0)
end
end B
namespace B
open Go Go.RowKit
set_option maxRecDepth 100000
noncomputable section
attribute [local irreducible] awp ctxK zw z1a retQ z1m awf ctxF z1l
mutual
def tyT:Term→Prop
 | .mk op _ depth at_ _ kids sub _=>(op=2→0≤depth∧0≤at_)∧tyTs kids∧tyRs sub
def tyTs:List Term→Prop
 |[]=>True
 |t::l=>tyT t∧tyTs l
def tyA:Agg→Prop
 | .mk _ _ t=>tyTs t
def tyAs:List Agg→Prop
 |[]=>True
 |a::l=>tyA a∧tyAs l
def tyR:Rel→Prop
 | .mk op _ _ kids terms aggs _ _ _ _ _=>((op=9∨op=10∨op=11)→2≤kids.length)∧tyRs kids∧tyTs terms∧tyAs aggs
def tyRs:List Rel→Prop
 |[]=>True
 |r::l=>tyR r∧tyRs l
end
theorem z2h0(t:Term):tyT t↔((t.op=2→0≤t.depth∧0≤t.at_)∧tyTs t.kids∧tyRs t.sub):=by cases t;rfl
theorem z2h1(r:Rel):tyR r↔(((r.op=9∨r.op=10∨r.op=11)→2≤r.kids.length)∧tyRs r.kids∧tyTs r.terms∧tyAs r.aggs):=by cases r;rfl
theorem z2h2(a:Agg):tyA a↔tyTs a.t:=by cases a;rfl
theorem z14m:∀{l:List Term},tyTs l→∀t∈l,tyT t
 |x::l,h,t,ht=>by
  rcases yg.1 ht with rfl|ht
  ·exact h.1
  ·exact z14m h.2 t ht
theorem z1jt:∀{l:List Rel},tyRs l→∀t∈l,tyR t
 |x::l,h,t,ht=>by
  rcases yg.1 ht with rfl|ht
  ·exact h.1
  ·exact z1jt h.2 t ht
theorem z24l:∀{l:List Agg},tyAs l→∀a∈l,tyA a
 |x::l,h,t,ht=>by
  rcases yg.1 ht with rfl|ht
  ·exact h.1
  ·exact z24l h.2 t ht
noncomputable def endT(t:Term)(env:List (List Int))(l:List Int):Bool:=
 if t.op=1 then t.v.kind==0||t.v.kind==t.type
 else if t.op=2 then decide (t.depth<(env.length:Int))&&(decide (t.at_<((env.getD t.depth.toNat []).length:Int))&&(env.getD t.depth.toNat []).getD t.at_.toNat 0==t.type)
 else if t.op=24 then(zog t.name l).2 ==0&&(zog t.name l).1 ==t.type
 else if t.op=27 then t.type==1
 else if t.op=26 then(t.sub.length:Int)==1&&(((Rel.cols (t.sub.getD 0 za)).length:Int)==1&&((Rel.cols (t.sub.getD 0 za)).getD 0 z9t).type ==t.type)
 else if t.op=28 then(t.sub.length:Int)==1&&(((Rel.cols (t.sub.getD 0 za)).length:Int)==1&&((l.length:Int)==1&&((z61 (l.getD 0 0) ((Rel.cols (t.sub.getD 0 za)).getD 0 z9t).type).2 &&t.type==1)))
 else(z11s t.op l).2 ==0&&(z11s t.op l).1 ==t.type
noncomputable def endR(r:Rel):Bool:=(zgf r).2 &&zxq (zgf r).1 (z1c r.cols)
mutual
noncomputable def tydT:Term→List (List Int)→Bool
 | .mk op v depth at_ name kids sub type,env=>z1dg kids env&&z1ow sub env&&endT (.mk op v depth at_ name kids sub type) env (kids.map Term.type)
noncomputable def z1dg:List Term→List (List Int)→Bool
 |[],_=>true
 |t::l,env=>tydT t env&&z1dg l env
noncomputable def tydA:Agg→List (List Int)→Bool
 | .mk _ _ t,env=>z1dg t env
noncomputable def z21y:List Agg→List (List Int)→Bool
 |[],_=>true
 |a::l,env=>tydA a env&&z21y l env
noncomputable def tydR:Rel→List (List Int)→Bool
 | .mk op table cols kids terms aggs keys limit skip all rows,env=>z1ow kids env&&(rows.all (fun x=>z8y x cols)&&(z1dg terms (z2a (.mk op table cols kids terms aggs keys limit skip all rows)::env)&&(z21y aggs (z2a (.mk op table cols kids terms aggs keys limit skip all rows)::env)&&endR (.mk op table cols kids terms aggs keys limit skip all rows))))
noncomputable def z1ow:List Rel→List (List Int)→Bool
 |[],_=>true
 |r::l,env=>tydR r env&&z1ow l env
end
theorem zxs(env:List (List Int)):∀l:List Term,z1dg l env=l.all fun t=>tydT t env
 |[]=>rfl
 |t::l=>by simp only[z1dg,y1h,zxs env l]
theorem z1a5(env:List (List Int)):∀l:List Rel,z1ow l env=l.all fun t=>tydR t env
 |[]=>rfl
 |t::l=>by simp only[z1ow,y1h,z1a5 env l]
theorem z1xn(env:List (List Int)):∀l:List Agg,z21y l env=l.all fun a=>a.t.all fun t=>tydT t env
 |[]=>rfl
 | .mk _ _ t::l=>by simp only[z21y,tydA,y1h,z1xn env l,zxs,Agg.t_mk]
theorem z2n2(t:Term)(env:List (List Int)):tydT t env=(t.kids.all (fun k=>tydT k env)&&t.sub.all (fun k=>tydR k env)&&endT t env (t.kids.map Term.type)):=by cases t;simp only[tydT,zxs,z1a5,Term.kids_mk,Term.sub_mk]
theorem z2n3(r:Rel)(env:List (List Int)):tydR r env=(r.kids.all (fun k=>tydR k env)&&(r.rows.all (fun x=>z8y x r.cols)&&(r.terms.all (fun t=>tydT t (z2a r::env))&&(r.aggs.all (fun a=>a.t.all fun t=>tydT t (z2a r::env))&&endR r)))):=by
 cases r;simp only[tydR,zxs,z1a5,z1xn,Rel.kids_mk,Rel.terms_mk,Rel.aggs_mk,Rel.rows_mk,Rel.cols_mk]
noncomputable def z85(t:Term)(env:List (List Int)):Bool:=tydT t env
noncomputable def z9k(r:Rel)(env:List (List Int)):Bool:=tydR r env
def zmv(m:Nat):FnC Un:=fnF2 (dS .term) (dL .ints) fun t env=>z2o (2*t.ht) m ([t.sz≤2000000,clT t≤2000000000,tyT t,env.length+t.ht≤8000000],z9b (z85 t env))
def zmw(m:Nat):FnC Un:=fnF2 (dS .rel) (dL .ints) fun r env=>z2o (2*r.ht+1) m ([r.sz≤2000000,clR r≤2000000000,tyR r,env.length+r.ht≤8000000],z9b (z9k r env))
def zf3(m:Nat):Mc Un:=mcF_ [(24,zmv m),(42,zmw m),(60,z1oo),(61,zu4),(62,z24f)] [] [] [] []
def zio:Nat→NS:=nsF_ [(3,{ts:=bl 198 118,bs:=bl 198 4,nm:=[(.sl 5,792)],cs:=true}),(9,{ts:=bl 198 182,bs:=bl 198 4,nm:=[(.sl 5,793)],cs:=true})] true
def z86(t:Term)(env:List (List Int))(v0:Int)(v1:List Int):S Un:=(st 198 198 794 0 [(1,al .ints env),(2,ax 2),(4,ab false),(5,ao 792),(6,ai v0)] [(2,bg .term t)] [(792,some ⟨(0:Nat),Ty.int,v1,some (0:Nat),true⟩)])
def z6r(t:Term)(env:List (List Int))(v1:List Int)(v2:Int):S Un:=(st 198 198 794 0 [(1,al .ints env),(2,ax 2),(4,ab false),(5,ao 793),(7,ai v2)] [(2,bg .term t)] [(793,some ⟨(0:Nat),Ty.int,v1,some (0:Nat),true⟩)])
def zmx(m:Nat):S Un→Option (EX Un):=lpF_ (zf3 m) zio Tryz.f24 [1,1,0,1,2,2] 3
def zmy(m:Nat):S Un→Option (EX Un):=lpF_ (zf3 m) zio Tryz.f24 [1,1,1,0,1,2,2] 9
def zmz(m:Nat):Exit→S Un→Option (RF Un):=cxF_ (zf3 m) zio Tryz.f24 [1,1,0,1,2] [.d]
def zgg(m:Nat):Exit→S Un→Option (RF Un):=cxF_ (zf3 m) zio Tryz.f24 [1,1,1,0,1,2] [.d]
def z1a6(m:Nat)(t:Term)(env:List (List Int)):Option (RF Un):=fnF_ (zf3 m) zio Tryz.f24 2 [.d] [.d (.agg (enc Ty.term t)),.d (.v (.dat (U:=Un) Ty.ints env))]
theorem z24m(m:Nat)(t:Term)(env:List (List Int)):z1a6 m t env=(zmx m (z86 t env (0:Int) ([]))).bind (zd (zmz m)):=by kernel_rfl
theorem z1a7(m:Nat)(t:Term)(env:List (List Int))(v0:Int)(v1:List Int):zmx m (z86 t env v0 v1)=cndO (decide (v0<(↑t.kids.length:Int))) (obO (0≤v0∧v0<(↑t.kids.length:Int)) (obO ((2:Nat)*(Term.ids (t.kids.getD v0.toNat zb)).ht<m) (obO ((Term.ids (t.kids.getD v0.toNat zb)).sz≤(2000000:Nat)) (obO (clT (Term.ids (t.kids.getD v0.toNat zb))≤(2000000000:Nat)) (obO (tyT (Term.ids (t.kids.getD v0.toNat zb))) (obO (env.length+(Term.ids (t.kids.getD v0.toNat zb)).ht≤(8000000:Nat)) (cndO (!z85 (Term.ids (t.kids.getD v0.toNat zb)) env) (some (.ret,(z86 t env v0 v1))) (obO (0≤v0∧v0<(↑t.kids.length:Int)) (obO ((v1.length+[Term.type (t.kids.getD v0.toNat zb)].length)*(8:Nat)≤ze) (zmx m (z86 t env (IntKind.i64.wrap (v0+1)) (v1++[Term.type (t.kids.getD v0.toNat zb)])))))))))))) (some (.exit 0,(z86 t env v0 v1))):=lpQ_ (by kernel_rfl)
theorem z1ju(m:Nat)(t:Term)(env:List (List Int))(v0:Int)(v1:List Int):zmz m .ret (z86 t env v0 v1)=some (z9b (false)):=by kernel_rfl
theorem z1ox(m:Nat)(t:Term)(env:List (List Int))(v0:Int)(v1:List Int):zmz m (.exit 0) (z86 t env v0 v1)=(zmy m (z6r t env v1 (0:Int))).bind (zd (zgg m)):=by kernel_rfl
theorem z1a8(m:Nat)(t:Term)(env:List (List Int))(v1:List Int)(v2:Int):zmy m (z6r t env v1 v2)=cndO (decide (v2<(↑t.sub.length:Int))) (obO (0≤v2∧v2<(↑t.sub.length:Int)) (obO ((2:Nat)*(Rel.ids (t.sub.getD v2.toNat za)).ht+(1:Nat)<m) (obO ((Rel.ids (t.sub.getD v2.toNat za)).sz≤(2000000:Nat)) (obO (clR (Rel.ids (t.sub.getD v2.toNat za))≤(2000000000:Nat)) (obO (tyR (Rel.ids (t.sub.getD v2.toNat za))) (obO (env.length+(Rel.ids (t.sub.getD v2.toNat za)).ht≤(8000000:Nat)) (cndO (!z9k (Rel.ids (t.sub.getD v2.toNat za)) env) (some (.ret,(z6r t env v1 v2))) (zmy m (z6r t env v1 (IntKind.i64.wrap (v2+1))))))))))) (some (.exit 2,(z6r t env v1 v2))):=lpQ_ (by kernel_rfl)
theorem z1jv(m:Nat)(t:Term)(env:List (List Int))(v1:List Int)(v2:Int):zgg m .ret (z6r t env v1 v2)=some (z9b (false)):=by kernel_rfl
theorem z1oy(m:Nat)(t:Term)(env:List (List Int))(v1:List Int)(v2:Int):zgg m (.exit 2) (z6r t env v1 v2)=cndO (t.op==1) (cndO (t.v.kind==0) (some (z9b (true))) (some (z9b (t.v.kind==t.type)))) (cndO (t.op==2) (cndO (decide (t.depth<(↑env.length:Int))) (obO (0≤t.depth∧t.depth<(↑env.length:Int)) (cndO (decide (t.at_<(↑(List.length (env.getD t.depth.toNat [])):Int))) (obO (0≤t.depth∧t.depth<(↑env.length:Int)) (obO (0≤t.at_∧t.at_<(↑(List.length (env.getD t.depth.toNat [])):Int)) (some (z9b (List.getD (env.getD t.depth.toNat []) t.at_.toNat (0:Int)==t.type))))) (some (z9b (false))))) (some (z9b (false)))) (cndO (t.op==24) (cndO ((zog t.name v1).snd ==0) (some (z9b ((zog t.name v1).fst ==t.type))) (some (z9b (false)))) (cndO (t.op==27) (some (z9b (t.type==1))) (cndO (t.op==26) (cndO ((↑t.sub.length:Int)==(1:Int)) (obO ((0:Int)≤(0:Int)∧(0:Int)<(↑t.sub.length:Int)) (cndO ((↑(Rel.cols (t.sub.getD 0 za)).length:Int)==(1:Int)) (obO ((0:Int)≤(0:Int)∧(0:Int)<(↑t.sub.length:Int)) (obO ((0:Int)≤(0:Int)∧(0:Int)<(↑(Rel.cols (t.sub.getD 0 za)).length:Int)) (some (z9b (((Rel.cols (t.sub.getD 0 za)).getD 0 z9t).type ==t.type))))) (some (z9b (false))))) (some (z9b (false)))) (cndO (t.op==28) (cndO ((↑t.sub.length:Int) !=(1:Int)) (some (z9b (false))) (obO ((0:Int)≤(0:Int)∧(0:Int)<(↑t.sub.length:Int)) (cndO ((↑(Rel.cols (t.sub.getD 0 za)).length:Int) !=(1:Int)) (some (z9b (false))) (cndO ((↑v1.length:Int) !=(1:Int)) (some (z9b (false))) (obO ((0:Int)≤(0:Int)∧(0:Int)<(↑v1.length:Int)) (obO ((0:Int)≤(0:Int)∧(0:Int)<(↑t.sub.length:Int)) (obO ((0:Int)≤(0:Int)∧(0:Int)<(↑(Rel.cols (t.sub.getD 0 za)).length:Int)) (cndO ((z61 (v1.getD 0 (0:Int)) ((Rel.cols (t.sub.getD 0 za)).getD 0 z9t).type).snd) (some (z9b (t.type==1))) (some (z9b (false))))))))))) (obO (v1.length≤(2000000:Nat)) (cndO ((z11s t.op v1).snd ==0) (some (z9b ((z11s t.op v1).fst ==t.type))) (some (z9b (false)))))))))):=by kernel_rfl
theorem z1a9{α β:Type}{L:S Un→Option (EX Un)}{st:Int→S Un}{C:Exit→S Un→Option β}(R:Bool→Option β){l:List α}{d:α}{e:Exit}(q:α→Bool)(hl:l.length≤9223372036854775807)
  (step:∀(i:Nat)(x:α),(i:Int)<(l.length:Int)→l.getD i d=x→x∈l→L (st i)=if q x=true then L (st (IntKind.i64.wrap ((i:Int)+1)))else some (.ret,st i))
  (stop:L (st (l.length:Int))=some (e,st (l.length:Int)))(r1:∀i:Int,C .ret (st i)=R false)(r2:C e (st (l.length:Int))=R true):(L (st 0)).bind (zd C)=R (l.all q):=by
 have key:∀(k i:Nat),i+k=l.length→(L (st i)).bind (zd C)=R ((l.drop i).all q):=by
  intro k
  induction k with
  |zero=>
   intro i hi;obtain rfl:i=l.length:=by omega
   rw[stop,y3c];exact r2
  |succ k ih=>
   intro i hi;have hlt:i<l.length:=by omega
   rw[step i l[i] (by omega) (by rw[yd,ya hlt];rfl) (y1z hlt),y1l hlt,y1h];cases hq:q l[i]
   ·rw[if_neg (by decide)];exact r1 _
   ·rw[if_pos rfl,z1f (by omega),y1b];exact ih (i+1) (by omega)
 exact key l.length 0 (by omega)
theorem za4{R:Bool→RF Un}{a x:Bool}{X:Option (RF Un)}(h:a=true→X=some (R x)):cndO a X (some (R false))=some (R (a&&x)):=by
 cases a
 ·rfl
 ·exact h rfl
theorem z2ox{R:Bool→RF Un}{a x:Bool}{X:Option (RF Un)}(h:a=false→X=some (R x)):cndO a (some (R true)) X=some (R (a||x)):=by
 cases a
 ·exact h rfl
 ·rfl
theorem z14n{R:Bool→RF Un}{a b x:Bool}{X:Option (RF Un)}(e:a=!b)(h:b=true→X=some (R x)):cndO a (some (R false)) X=some (R (b&&x)):=by
 subst e;cases b
 ·rfl
 ·exact h rfl
theorem z11t{R:Bool→RF Un}{a:Bool}{p:Prop}[Decidable p]{x y:Bool}{X Y:Option (RF Un)}(e:(a=true)↔p)(hx:p→X=some (R x))(hy:Y=some (R y)):cndO a X Y=some (R (if p then x else y)):=by
 cases a
 ·rw[if_neg (fun c=>Bool.false_ne_true (e.2 c))];exact hy
 ·rw[if_pos (e.1 rfl)];exact hx (e.1 rfl)
theorem z2n4(m:Nat)(t:Term)(env:List (List Int))(l:List Int)(i:Int)(h:l.length≤2000000)(hy:t.op=2→0≤t.depth∧0≤t.at_):zgg m (.exit 2) (z6r t env l i)=some (z9b (endT t env l)):=by
 rw[z1oy];unfold endT;have q:∀k:Int,((t.op==k)=true)↔t.op=k:=fun k=>beq_iff_eq;refine z11t (q 1) (fun _=>z2ox fun _=>rfl) (z11t (q 2) (fun c=>?_) (z11t (q 24) (fun _=>za4 fun _=>rfl) (z11t (q 27) (fun _=>rfl) (z11t (q 26) (fun _=>za4 fun c=>?_) (z11t (q 28) (fun _=>z14n rfl fun c=>?_) ?_)))))
 ·refine za4 fun c1=>?_;rw[decide_eq_true_eq]at c1;rw[z6 ⟨(hy c).1,c1⟩];refine za4 fun c2=>?_;rw[decide_eq_true_eq]at c2;rw[z6 ⟨(hy c).1,c1⟩,z6 ⟨(hy c).2,c2⟩]
 ·rw[beq_iff_eq]at c;rw[z6 (by omega)];refine za4 fun c2=>?_;rw[beq_iff_eq]at c2;rw[z6 (by omega),z6 (by omega)]
 ·rw[beq_iff_eq]at c;rw[z6 (by omega)];refine z14n rfl fun c2=>z14n rfl fun c3=>?_;rw[beq_iff_eq]at c2 c3;rw[z6 (by omega),z6 (by omega),z6 (by omega)];exact za4 fun _=>rfl
 ·rw[z6 h];exact za4 fun _=>rfl
theorem z1u8(m:Nat)(t:Term)(env:List (List Int))(ht:WS .term t)(_he:WL .ints env)(hm:2*t.ht<m+1)(h:t.sz≤2000000)(hc:clT t≤2000000000)(hy:tyT t)(hl:env.length+t.ht≤8000000):z1a6 m t env=some (z9b (z85 t env)):=by
 obtain⟨y1,y2,y3⟩:=(z2h0 t).1 hy;have c0:=z24k t;have h3:=t.sz_eq;have hkl:=z60 t.kids
 have l2:=z1a9 (L:=zmy m) (st:=fun i=>z6r t env (t.kids.map Term.type) i) (C:=zgg m) (e:=.exit 2) (fun b=>some (z9b (b&&endT t env (t.kids.map Term.type)))) (l:=t.sub) (d:=za) (fun r=>tydR r env) (ht.term_sub).len
  (fun i k hi hk hmem=>by
   have h1:=Term.ht_sub hmem;have h2:=zm0 hmem;have h4:=zgb hmem;rw[z1a8];simp only[z8,hi,decide_true,if_true,and_true,y5,hk,Rel.ids_eq];rw[z6 (by omega),z6 (by omega),z6 (by omega),z6 (by omega),z6 (z1jt y3 k hmem),z6 (by omega)];unfold z9k
   cases tydR k env<;>rfl)
  (by rw[z1a8];simp[z8]) (fun i=>by rw[y1w];exact z1jv _ _ _ _ _)
  (by rw[y1b];exact z2n4 m t env _ _ (by rw[yu];omega) y1)
 rw[z24m,z85,z2n2,y3r]
 exact z1a9 (L:=zmx m) (st:=fun i=>z86 t env i ((t.kids.take i.toNat).map Term.type)) (C:=zmz m) (e:=.exit 0) (fun b=>some (z9b (b&&(t.sub.all (fun r=>tydR r env)&&endT t env (t.kids.map Term.type))))) (l:=t.kids) (d:=zb) (fun t=>tydT t env) (ht.term_kids).len
  (fun i k hi hk hmem=>by
   have h1:=Term.ht_kid hmem;have h2:=zlz hmem;have h4:=zkh hmem;have hil:i<t.kids.length:=by omega
   have e:(t.kids.take (i+1)).map Term.type=(t.kids.take i).map Term.type++[k.type]:=by
    rw[y3d,y4d,←hk,yd,ya hil];rfl
   rw[z1a7,z3g hil (ht.term_kids).len];simp only[z8,hi,decide_true,if_true,and_true,y5,hk,Term.ids_eq];rw[z6 (by omega),z6 (by omega),z6 (by omega),z6 (by omega),z6 (z14m y2 k hmem),z6 (by omega),z6 (by omega),z6 (by unfold ze;rw[yu,yq,yf];omega),←e];unfold z85
   cases tydT k env<;>rfl)
  (by rw[z1a7];simp[z8]) (fun i=>by rw[y1w];exact z1ju _ _ _ _ _) (by
   rw[y1b,z1ox,y5,y2s]
   exact l2)
abbrev z1jw(m:Nat):Prop:=FnOK 24 (zmv m)∧FnOK 42 (zmw m)
theorem z20d(m:Nat)(hG:z1jw m):FnOK 24 (zmv (m+1)):=fnK2 zt zr (M:=(zf3 m)) rfl ⟨hG.1,hG.2,z29c,zzu,z2gv,trivial⟩ trivial trivial trivial trivial Tryz.func24 fun t env=>GiF.r fun w o=>z1u8 m t env (wfA_ w 0) (wfA_ w 1) (obA_ o 0) (obA_ o 1) (obA_ o 2) (obA_ o 3) (obA_ o 4)
def z51(m:Nat):Mc Un:=mcF_ [(42,zmw m),(79,z1jj),(80,z103),(24,zmv m),(81,z1ov),(25,zqa),(31,z1gr)] [] [] [] []
def z3u:Nat→NS:=nsF_ [(2,{ts:=bl 107 54,bs:=bl 107 4,nm:=[],cs:=true}),(7,{ts:=bl 107 86,bs:=bl 107 4,nm:=[],cs:=true}),(13,{ts:=bl 107 404,bs:=bl 107 4,nm:=[(.sl 7,428)],cs:=true}),(18,{ts:=bl 107 660,bs:=bl 107 4,nm:=[(.sl 7,429)],cs:=true}),(21,{ts:=bl 107 1684,bs:=bl 107 4,nm:=[(.sl 7,430)],cs:=true})] true
def zn0(r:Rel):=zgf (Rel.mk r.op r.table r.cols r.kids r.terms r.aggs r.keys r.limit r.skip r.all r.rows)
def z87(r:Rel)(env:List (List Int))(v0:Int):S Un:=(st 107 107 431 0 [(1,al .ints env),(2,ax 2),(4,ab false),(5,ai v0)] [(2,bg .rel r)] [])
def z88(r:Rel)(env:List (List Int))(v1:Int):S Un:=(st 107 107 431 0 [(1,al .ints env),(2,ax 2),(4,ab false),(6,ai v1)] [(2,bg .rel r)] [])
def z75(r:Rel)(env:List (List Int))(v2:Int):S Un:=(st 107 107 431 0 [(2,ax 2),(4,ab false),(7,ao 428),(8,ai v2)] [(2,bg .rel r)] [(428,some ⟨(0:Nat),Ty.ints,z2a (Rel.ids r)::env,some (0:Nat),true⟩)])
def z52(r:Rel)(env:List (List Int))(v3:Int):S Un:=(st 107 107 431 0 [(2,ax 2),(4,ab false),(7,ao 429),(9,ai v3)] [(2,bg .rel r)] [(429,some ⟨(0:Nat),Ty.ints,z2a (Rel.ids r)::env,some (0:Nat),true⟩)])
def z76(r:Rel)(env:List (List Int))(v3:Int)(v4:Int):S Un:=(st 107 107 431 0 [(2,ax 2),(4,ab false),(7,ao 430),(9,ai v3),(10,ai v4)] [(2,bg .rel r)] [(430,some ⟨(0:Nat),Ty.ints,z2a (Rel.ids r)::env,some (0:Nat),true⟩)])
def zn1(m:Nat):S Un→Option (EX Un):=lpF_ (z51 m) z3u Tryz.f42 [1,0,1,2,2] 2
def zn2(m:Nat):S Un→Option (EX Un):=lpF_ (z51 m) z3u Tryz.f42 [1,1,0,1,2,2] 7
def zjk(m:Nat):S Un→Option (EX Un):=lpF_ (z51 m) z3u Tryz.f42 [1,1,1,1,0,1,2,2] 13
def zb5(m:Nat):S Un→Option (EX Un):=lpF_ (z51 m) z3u Tryz.f42 [1,1,1,1,1,0,1,2,2] 18
noncomputable def z16g:Code:=sub (sub (zf Tryz.f42) [1,1,1,1,1,0,1,2,2]) [1,0,2,1,2,2]
def zjl(m:Nat):S Un→Option (EX Un):=z1l (z3u 21) (fun s Q=>awf (z51 m) z3u z16g s Q)
def zn3(m:Nat):Exit→S Un→Option (RF Un):=cxF_ (z51 m) z3u Tryz.f42 [1,0,1,2] [.d]
def zn4(m:Nat):Exit→S Un→Option (RF Un):=cxF_ (z51 m) z3u Tryz.f42 [1,1,0,1,2] [.d]
def zjm(m:Nat):Exit→S Un→Option (RF Un):=cxF_ (z51 m) z3u Tryz.f42 [1,1,1,1,0,1,2] [.d]
def zjn(m:Nat):Exit→S Un→Option (RF Un):=cxF_ (z51 m) z3u Tryz.f42 [1,1,1,1,1,0,1,2] [.d]
def zjo(m:Nat):Exit→S Un→Option (EX Un):=ctxF (z51 m) z3u (sub (zf Tryz.f42) [1,1,1,1,1,0,1,2,2]) [1,0,2,1,2] (zco (z3u 18) (zb5 m))
def z1aa(m:Nat)(r:Rel)(env:List (List Int)):Option (RF Un):=fnF_ (z51 m) z3u Tryz.f42 3 [.d] [.d (.agg (enc Ty.rel r)),.d (.v (.dat (U:=Un) Ty.ints env))]
theorem z24n(m:Nat)(r:Rel)(env:List (List Int)):z1aa m r env=(zn1 m (z87 r env (0:Int))).bind (zd (zn3 m)):=by kernel_rfl
theorem z1ab(m:Nat)(r:Rel)(env:List (List Int))(v0:Int):zn1 m (z87 r env v0)=cndO (decide (v0<(↑r.kids.length:Int))) (obO (0≤v0∧v0<(↑r.kids.length:Int)) (obO ((2:Nat)*(Rel.ids (r.kids.getD v0.toNat za)).ht+(1:Nat)<m) (obO ((Rel.ids (r.kids.getD v0.toNat za)).sz≤(2000000:Nat)) (obO (clR (Rel.ids (r.kids.getD v0.toNat za))≤(2000000000:Nat)) (obO (tyR (Rel.ids (r.kids.getD v0.toNat za))) (obO (env.length+(Rel.ids (r.kids.getD v0.toNat za)).ht≤(8000000:Nat)) (cndO (!z9k (Rel.ids (r.kids.getD v0.toNat za)) env) (some (.ret,(z87 r env v0))) (zn1 m (z87 r env (IntKind.i64.wrap (v0+1))))))))))) (some (.exit 0,(z87 r env v0))):=lpQ_ (by kernel_rfl)
theorem z1jx(m:Nat)(r:Rel)(env:List (List Int))(v0:Int):zn3 m .ret (z87 r env v0)=some (z9b (false)):=by kernel_rfl
theorem z1oz(m:Nat)(r:Rel)(env:List (List Int))(v0:Int):zn3 m (.exit 0) (z87 r env v0)=(zn2 m (z88 r env (0:Int))).bind (zd (zn4 m)):=by kernel_rfl
theorem z1ac(m:Nat)(r:Rel)(env:List (List Int))(v1:Int):zn2 m (z88 r env v1)=cndO (decide (v1<(↑r.rows.length:Int))) (obO (0≤v1∧v1<(↑r.rows.length:Int)) (cndO (!z8y (r.rows.getD v1.toNat []) r.cols) (some (.ret,(z88 r env v1))) (zn2 m (z88 r env (IntKind.i64.wrap (v1+1)))))) (some (.exit 2,(z88 r env v1))):=lpQ_ (by kernel_rfl)
theorem z1jy(m:Nat)(r:Rel)(env:List (List Int))(v1:Int):zn4 m .ret (z88 r env v1)=some (z9b (false)):=by kernel_rfl
theorem z1p0(m:Nat)(r:Rel)(env:List (List Int))(v1:Int):zn4 m (.exit 2) (z88 r env v1)=obO (clR (Rel.ids r)≤(2000000000:Nat)) (obO (([z2a (Rel.ids r)].length+env.length)*(24:Nat)≤ze) ((zjk m (z75 r env (0:Int))).bind (zd (zjm m)))):=by kernel_rfl
theorem z16h(m:Nat)(r:Rel)(env:List (List Int))(v2:Int):zjk m (z75 r env v2)=cndO (decide (v2<(↑r.terms.length:Int))) (obO (0≤v2∧v2<(↑r.terms.length:Int)) (obO ((2:Nat)*(Term.ids (r.terms.getD v2.toNat zb)).ht<m) (obO ((Term.ids (r.terms.getD v2.toNat zb)).sz≤(2000000:Nat)) (obO (clT (Term.ids (r.terms.getD v2.toNat zb))≤(2000000000:Nat)) (obO (tyT (Term.ids (r.terms.getD v2.toNat zb))) (obO ((z2a (Rel.ids r)::env).length+(Term.ids (r.terms.getD v2.toNat zb)).ht≤(8000000:Nat)) (cndO (!z85 (Term.ids (r.terms.getD v2.toNat zb)) (z2a (Rel.ids r)::env)) (some (.ret,(z75 r env v2))) (zjk m (z75 r env (IntKind.i64.wrap (v2+1))))))))))) (some (.exit 4,(z75 r env v2))):=lpQ_ (by kernel_rfl)
theorem z1e4(m:Nat)(r:Rel)(env:List (List Int))(v2:Int):zjm m .ret (z75 r env v2)=some (z9b (false)):=by kernel_rfl
theorem z1jz(m:Nat)(r:Rel)(env:List (List Int))(v2:Int):zjm m (.exit 4) (z75 r env v2)=(zb5 m (z52 r env (0:Int))).bind (zd (zjn m)):=by kernel_rfl
theorem z16i(m:Nat)(r:Rel)(env:List (List Int))(v3:Int):zb5 m (z52 r env v3)=cndO (decide (v3<(↑r.aggs.length:Int))) ((zjl m (z76 r env v3 (0:Int))).bind (zd (zjo m))) (some (.exit 6,(z52 r env v3))):=lpQ_ (by kernel_rfl)
theorem z1k0(m:Nat)(r:Rel)(env:List (List Int))(v3:Int):zjn m (.exit 6) (z52 r env v3)=obO (z1a3 (Rel.ids r)) (cndO ((zn0 r).snd) (obO (r.cols.length≤(2000000000:Nat)) (some (z9b (zxq (zn0 r).fst (z1c r.cols))))) (some (z9b (false)))):=by kernel_rfl
theorem z16j(m:Nat)(r:Rel)(env:List (List Int))(v3:Int)(v4:Int):zjl m (z76 r env v3 v4)=obO (0≤v3∧v3<(↑r.aggs.length:Int)) (cndO (decide (v4<(↑(Agg.t (r.aggs.getD v3.toNat zq)).length:Int))) (obO (0≤v3∧v3<(↑r.aggs.length:Int)) (obO (0≤v4∧v4<(↑(Agg.t (r.aggs.getD v3.toNat zq)).length:Int)) (obO ((2:Nat)*(Term.ids ((Agg.t (r.aggs.getD v3.toNat zq)).getD v4.toNat zb)).ht<m) (obO ((Term.ids ((Agg.t (r.aggs.getD v3.toNat zq)).getD v4.toNat zb)).sz≤(2000000:Nat)) (obO (clT (Term.ids ((Agg.t (r.aggs.getD v3.toNat zq)).getD v4.toNat zb))≤(2000000000:Nat)) (obO (tyT (Term.ids ((Agg.t (r.aggs.getD v3.toNat zq)).getD v4.toNat zb))) (obO ((z2a (Rel.ids r)::env).length+(Term.ids ((Agg.t (r.aggs.getD v3.toNat zq)).getD v4.toNat zb)).ht≤(8000000:Nat)) (cndO (!z85 (Term.ids ((Agg.t (r.aggs.getD v3.toNat zq)).getD v4.toNat zb)) (z2a (Rel.ids r)::env)) (some (.ret,(z76 r env v3 v4))) (zjl m (z76 r env v3 (IntKind.i64.wrap (v4+1)))))))))))) (some (.exit 8,(z76 r env v3 v4)))):=(zc0 (z3u 21) z16g _).trans (by kernel_rfl)
theorem z1e5(m:Nat)(r:Rel)(env:List (List Int))(v3:Int)(v4:Int):zjo m .ret (z76 r env v3 v4)=some (.ret,(z52 r env v3)):=by kernel_rfl
theorem z1e6(m:Nat)(r:Rel)(env:List (List Int))(v3:Int):zjn m .ret (z52 r env v3)=some (z9b (false)):=by kernel_rfl
theorem z1k1(m:Nat)(r:Rel)(env:List (List Int))(v3:Int)(v4:Int):zjo m (.exit 8) (z76 r env v3 v4)=zb5 m (z52 r env (IntKind.i64.wrap (v3+1))):=by kernel_rfl
theorem z1u9(m:Nat)(r:Rel)(env:List (List Int))(hr:WS .rel r)(_he:WL .ints env)(hm:2*r.ht+1<m+1)(h:r.sz≤2000000)(hc:clR r≤2000000000)(hy:tyR r)(hl:env.length+r.ht≤8000000):z1aa m r env=some (z9b (z9k r env)):=by
 obtain⟨y1,y2,y3,y4⟩:=(z2h1 r).1 hy;obtain⟨p1,p2⟩:=zvw r;have c0:=zbo r;have h3:=r.sz_eq;have hcr:zn0 r=zgf r:=by unfold zn0;exact congrArg zgf (by cases r;rfl)
 have l4:=z2x (L:=zb5 m) (st:=fun i=>z52 r env i) (C:=zjn m) (e:=.exit 6) (fun b=>some (z9b (b&&endR r))) (l:=r.aggs) (d:=zq) (fun a=>a.t.all fun t=>tydT t (z2a r::env)) (hr.rel_aggs).len
  (fun i k hi hk hmem=>by
   have hka:=z1jq hmem;rw[z2gw]at hka
   have li:=z2x (L:=zjl m) (st:=fun j=>z76 r env i j) (C:=zjo m) (e:=.exit 8) (fun b=>if b=true then zb5 m (z52 r env (IntKind.i64.wrap ((i:Int)+1)))else some (.ret,z52 r env i)) (l:=k.t) (d:=zb) (fun t=>tydT t (z2a r::env)) (by have:=z60 k.t;have:=zoc hmem;have:=k.sz_eq;omega)
    (fun j t hj ht htm=>by
     obtain⟨h1,h2⟩:=p2 k hmem t htm;have h4:=zkh htm;rw[z16j];simp only[hk,z8,hi,hj,decide_true,if_true,and_true,y5,ht,Term.ids_eq,Rel.ids_eq];rw[z6 (by omega),z6 (by omega),z6 (by omega),z6 (by omega),z6 (by omega),z6 (by omega),z6 (z14m ((z2h2 k).1 (z24l y4 k hmem)) t htm),z6 (by rw[yt];omega)];unfold z85
     cases tydT t (z2a r::env)<;>rfl)
    (by rw[z16j];simp only[z8,y5,hk,decide_eq_true_eq];rw[z6 (by omega),if_neg (by omega)]) (fun j=>z1e5 _ _ _ _ _) (fun j=>z1k1 _ _ _ _ _)
   rw[z16i];simp only[z8,hi,decide_true,if_true]
   exact li)
  (by rw[z16i];simp[z8]) (fun i=>by rw[y1w];exact z1e6 _ _ _ _) (fun i=>by
   rw[y1b,z1k0,hcr,Rel.ids_eq,z6 (show z1a3 r from⟨y1,h,hc⟩),z6 (show r.cols.length≤2000000000 by omega)];unfold endR
   cases(zgf r).2<;>rfl)
 have l3:=z2x (L:=zjk m) (st:=fun i=>z75 r env i) (C:=zjm m) (e:=.exit 4) (fun b=>some (z9b (b&&(r.aggs.all (fun a=>a.t.all fun t=>tydT t (z2a r::env))&&endR r)))) (l:=r.terms) (d:=zb) (fun t=>tydT t (z2a r::env)) (hr.rel_terms).len
  (fun i k hi hk hmem=>by
   obtain⟨h1,h2⟩:=p1 k hmem;have h4:=zkh hmem;rw[z16h];simp only[z8,hi,decide_true,if_true,and_true,y5,hk,Term.ids_eq,Rel.ids_eq];rw[z6 (by omega),z6 (by omega),z6 (by omega),z6 (by omega),z6 (z14m y3 k hmem),z6 (by rw[yt];omega)];unfold z85
   cases tydT k (z2a r::env)<;>rfl)
  (by rw[z16h];simp[z8]) (fun i=>by rw[y1w];exact z1e4 _ _ _ _) (fun i=>by rw[y1b];exact(z1jz _ _ _ _).trans l4)
 have l2:=z2x (L:=zn2 m) (st:=fun i=>z88 r env i) (C:=zn4 m) (e:=.exit 2) (fun b=>some (z9b (b&&(r.terms.all (fun t=>tydT t (z2a r::env))&&(r.aggs.all (fun a=>a.t.all fun t=>tydT t (z2a r::env))&&endR r))))) (l:=r.rows) (d:=[]) (fun x=>z8y x r.cols) (hr.rel_rows).len
  (fun i k hi hk hmem=>by
   rw[z1ac];simp only[z8,hi,decide_true,if_true,and_true,y5,hk];rw[z6 (by omega)]
   cases z8y k r.cols<;>rfl)
  (by rw[z1ac];simp[z8]) (fun i=>by rw[y1w];exact z1jy _ _ _ _) (fun i=>by
   rw[y1b,z1p0,Rel.ids_eq,z6 hc,z6 (by unfold ze;rw[yf];omega)]
   exact l3)
 rw[z24n,z9k,z2n3]
 exact z2x (L:=zn1 m) (st:=fun i=>z87 r env i) (C:=zn3 m) (e:=.exit 0) (fun b=>some (z9b (b&&(r.rows.all (fun x=>z8y x r.cols)&&(r.terms.all (fun t=>tydT t (z2a r::env))&&(r.aggs.all (fun a=>a.t.all fun t=>tydT t (z2a r::env))&&endR r)))))) (l:=r.kids) (d:=za) (fun t=>tydR t env) (hr.rel_kids).len
  (fun i k hi hk hmem=>by
   have h1:=Rel.ht_kid hmem;have h2:=z9x hmem;have h4:=zgb hmem;rw[z1ab];simp only[z8,hi,decide_true,if_true,and_true,y5,hk,Rel.ids_eq];rw[z6 (by omega),z6 (by omega),z6 (by omega),z6 (by omega),z6 (z1jt y2 k hmem),z6 (by omega)];unfold z9k
   cases tydR k env<;>rfl)
  (by rw[z1ab];simp[z8]) (fun i=>by rw[y1w];exact z1jx _ _ _ _) (fun i=>by rw[y1b];exact(z1oz _ _ _ _).trans l2)
theorem z20e(m:Nat)(hG:z1jw m):FnOK 42 (zmw (m+1)):=fnK2 zt zr (M:=(z51 m)) rfl ⟨hG.2,z1xj,z19z,hG.1,z29f,zw0,z24i,trivial⟩ trivial trivial trivial trivial Tryz.func42 fun r env=>GiF.r fun w o=>z1u9 m r env (wfA_ w 0) (wfA_ w 1) (obA_ o 0) (obA_ o 1) (obA_ o 2) (obA_ o 3) (obA_ o 4)
theorem zn5:∀m,z1jw m
 |0=>⟨fnZ2,fnZ2⟩
 |m+1=>⟨z20d m (zn5 m),z20e m (zn5 m)⟩
def z107:FnC Un:=fnF2 (dS .term) (dL .ints) fun t env=>([t.sz≤2000000,clT t≤2000000000,tyT t,env.length+t.ht≤8000000],z9b (z85 t env))
theorem z24o:FnOK 24 z107:=fnA2 fun m=>(zn5 m).1
def z1gt:FnC Un:=fnF2 (dS .rel) (dL .ints) fun r env=>([r.sz≤2000000,clR r≤2000000000,tyR r,env.length+r.ht≤8000000],z9b (z9k r env))
theorem z24p:FnOK 42 z1gt:=fnA2 fun m=>(zn5 m).2
end
end B
namespace B
open Go Go.RowKit
set_option maxRecDepth 100000
noncomputable section
attribute [local irreducible] awp ctxK zw z1a retQ z1m awf ctxF z1l
def z1gu:Mc Un:=mcF_ [(29,zma)] [] [] [] []
def z1ad(r:Rel)(db:List Data):Option (RF Un):=fnF_ z1gu z28d Tryz.f22 0 [.d] [.d (.agg (enc Ty.rel r)),.d (.v (.dat (U:=Un) Ty.data db))]
theorem z24q(r:Rel)(db:List Data):z1ad r db=obO ((Rel.ids r).sz≤(2000000:Nat)) (some (z9b (decide ((z6n (Rel.ids r) db).snd >20000)))):=by kernel_rfl
def zrl(r:Rel)(db:List Data):Bool:=decide ((z6n r db).2 >20000)
theorem z1ua(r:Rel)(db:List Data)(_hr:WS .rel r)(_hd:WL .data db)(h:r.sz≤2000000):z1ad r db=some (z9b (zrl r db)):=by
 rw[z24q,Rel.ids_eq,z6 h];rfl
def z1gv:FnC Un:=fnF2 (dS .rel) (dL .data) fun r db=>([r.sz≤2000000],z9b (zrl r db))
theorem z24r:FnOK 22 z1gv:=fnK2 zt zr (M:=z1gu) rfl ⟨z168,trivial⟩ trivial trivial trivial trivial Tryz.func22 fun r db=>GiF.r fun w o=>z1ua r db (wfA_ w 0) (wfA_ w 1) (obA_ o 0)
def zf4:Mc Un:=mcF_ [(40,z1fz),(28,zu2),(33,z1xc),(41,z1oe),(42,z1gt),(22,z1gv)] [] [] [] []
def z9l:Nat→NS:=nsF_ [(5,{ts:=bl 84 118,bs:=bl 84 4,nm:=[],cs:=true}),(9,{ts:=bl 84 246,bs:=bl 84 4,nm:=[],cs:=true})] true
def z6s(r:Rel)(db:List Data)(v0:Int)(v1:Int):S Un:=(st 84 84 336 0 [(1,al .data db),(2,ax 2),(4,ab false),(5,ai v0),(6,ai v1)] [(2,bg .rel r)] [])
def z6t(r:Rel)(db:List Data)(v0:Int)(v1:Int)(v2:Int):S Un:=(st 84 84 336 0 [(1,al .data db),(2,ax 2),(4,ab false),(5,ai (IntKind.i64.wrap (v0+(↑(db.getD v1.toNat z38).rows.length:Int)))),(6,ai v1),(7,ai v2)] [(2,bg .rel r)] [])
def ze2(r:Rel)(db:List Data)(v0:Int)(v1:Int):S Un:=(st 84 84 336 0 [(1,al .data db),(2,ax 2),(4,ab false),(5,ai (IntKind.i64.wrap (v0+(↑(db.getD v1.toNat z38).rows.length:Int)))),(6,ai v1)] [(2,bg .rel r)] [])
def zd7:S Un→Option (EX Un):=lpF_ zf4 z9l Tryz.f11 [1,1,1,0,1,2,2] 5
noncomputable def z1ae:Code:=sub (sub (zf Tryz.f11) [1,1,1,0,1,2,2]) [1,0,2,1,1,2,2]
def zn6:S Un→Option (EX Un):=z1l (z9l 9) (fun s Q=>awf zf4 z9l z1ae s Q)
def zgh:Exit→S Un→Option (RF Un):=cxF_ zf4 z9l Tryz.f11 [1,1,1,0,1,2] [.d]
def zn7:Exit→S Un→Option (EX Un):=ctxF zf4 z9l (sub (zf Tryz.f11) [1,1,1,0,1,2,2]) [1,0,2,1,1,2] (zco (z9l 5) zd7)
def z1af(r:Rel)(db:List Data):Option (RF Un):=fnF_ zf4 z9l Tryz.f11 0 [.d] [.d (.agg (enc Ty.rel r)),.d (.v (.dat (U:=Un) Ty.data db))]
theorem z24s(r:Rel)(db:List Data):z1af r db=obO ((Rel.ids r).sz≤(2000000:Nat)) (cndO (decide (zdq (Rel.ids r)>1000)) (some (z9b (false))) ((zd7 (z6s r db (0:Int) (0:Int))).bind (zd zgh))):=by kernel_rfl
theorem z1ag(r:Rel)(db:List Data)(v0:Int)(v1:Int):zd7 (z6s r db v0 v1)=cndO (decide (v1<(↑db.length:Int))) (cndO (decide (v1<5)) (obO (0≤v1∧v1<(↑db.length:Int)) ((zn6 (z6t r db v0 v1 (0:Int))).bind (zd zn7))) (some (.exit 0,(z6s r db v0 v1)))) (some (.exit 0,(z6s r db v0 v1))):=lpQ_ (by kernel_rfl)
theorem z1p1(r:Rel)(db:List Data)(v0:Int)(v1:Int):zgh (.exit 0) (z6s r db v0 v1)=cndO (decide (v0≤12)) (cndO (decide ((↑db.length:Int)≤(4:Int))) (obO ((Rel.ids r).sz≤(2000000:Nat)) (cndO (decide (zc9 (Rel.ids r)≤24)) (obO (z2j [] (Rel.ids r).ht) (cndO (z9v (Rel.ids r) []) (obO ((Rel.ids r).sz≤(2000000:Nat)) (cndO (zcb (Rel.ids r) db) (obO ((Rel.ids r).sz≤(2000000:Nat)) (obO (clR (Rel.ids r)≤(2000000000:Nat)) (obO (tyR (Rel.ids r)) (obO (0+(Rel.ids r).ht≤(8000000:Nat)) (cndO (z9k (Rel.ids r) []) (obO ((Rel.ids r).sz≤(2000000:Nat)) (some (z9b (!zrl (Rel.ids r) db)))) (some (z9b (false)))))))) (some (z9b (false))))) (some (z9b (false))))) (some (z9b (false))))) (some (z9b (false)))) (some (z9b (false))):=by kernel_rfl
theorem z1ah(r:Rel)(db:List Data)(v0:Int)(v1:Int)(v2:Int):zn6 (z6t r db v0 v1 v2)=obO (0≤v1∧v1<(↑db.length:Int)) (cndO (decide (v2<(↑(db.getD v1.toNat z38).rows.length:Int))) (cndO (decide (v2<9)) (obO (0≤v1∧v1<(↑db.length:Int)) (obO (0≤v2∧v2<(↑(db.getD v1.toNat z38).rows.length:Int)) (cndO (decide ((↑(List.length ((db.getD v1.toNat z38).rows.getD v2.toNat [])):Int)>(6:Int))) (some (.ret,(z6t r db v0 v1 v2))) (zn6 (z6t r db v0 v1 (IntKind.i64.wrap (v2+1))))))) (some (.exit 2,(z6t r db v0 v1 v2)))) (some (.exit 2,(z6t r db v0 v1 v2)))):=(zc0 (z9l 9) z1ae _).trans (by kernel_rfl)
theorem z1k2(r:Rel)(db:List Data)(v0:Int)(v1:Int)(v2:Int):zn7 .ret (z6t r db v0 v1 v2)=some (.ret,(ze2 r db v0 v1)):=by kernel_rfl
theorem z1k3(r:Rel)(db:List Data)(v0:Int)(v1:Int):zgh .ret (ze2 r db v0 v1)=some (z9b (false)):=by kernel_rfl
theorem z1p2(r:Rel)(db:List Data)(v0:Int)(v1:Int)(v2:Int):zn7 (.exit 2) (z6t r db v0 v1 v2)=zd7 (z6s r db (IntKind.i64.wrap (v0+(↑(db.getD v1.toNat z38).rows.length:Int))) (IntKind.i64.wrap (v1+1))):=by kernel_rfl
theorem z2h3{α β:Type}{L:S Un→Option (EX Un)}{st er:Int→S Un}{C:Exit→S Un→Option β}(R:Bool→Option β){l:List α}{d:α}{e:Exit}(q:α→Bool)(hl:l.length≤9223372036854775807)
  (step:∀(i:Nat)(x:α),(i:Int)<(l.length:Int)→l.getD i d=x→x∈l→L (st i)=if q x=true then L (st (IntKind.i64.wrap ((i:Int)+1)))else some (.ret,er i))
  (stop:L (st (l.length:Int))=some (e,st (l.length:Int)))(r1:∀i:Int,C .ret (er i)=R false)(r2:C e (st (l.length:Int))=R true):(L (st 0)).bind (zd C)=R (l.all q):=by
 have key:∀(k i:Nat),i+k=l.length→(L (st i)).bind (zd C)=R ((l.drop i).all q):=by
  intro k
  induction k with
  |zero=>
   intro i hi;obtain rfl:i=l.length:=by omega
   rw[stop,y3c];exact r2
  |succ k ih=>
   intro i hi;have hlt:i<l.length:=by omega
   rw[step i l[i] (by omega) (by grind) (y1z hlt),y1l hlt,y1h];cases hq:q l[i]
   ·exact r1 _
   ·rw[if_pos rfl,z1f (by omega),y1b];grind
 exact key l.length 0 (by omega)
theorem z1xo{α:Type}{l:List α}{n i:Nat}{d x:α}(h:(i:Int)<((l.take n).length:Int))(hx:(l.take n).getD i d=x):l.getD i d=x∧i<l.length∧i<n:=by
 grind
def sumD(n:Int)(d:Data):Int:=IntKind.i64.wrap (n+(d.rows.length:Int))
def z2de(d:Data):Bool:=(d.rows.take 9).all fun x=>!decide ((x.length:Int)>6)
noncomputable def z1ai(r:Rel)(db:List Data)(n:Int):Bool:=decide (n≤12)&&(decide ((db.length:Int)≤4)&&(decide (zc9 r≤24)&&(z9v r []&&(zcb r db&&(z9k r []&& !zrl r db)))))
noncomputable def zl0(r:Rel)(db:List Data):Bool:=!decide (zdq r>1000)&&((db.take 5).all z2de&&z1ai r db ((db.take 5).foldl sumD 0))
mutual
theorem z14o:∀t:Term,t.ht≤t.sz
 | .mk op v depth at_ name kids sub type=>by
  have:=zqf kids;have:=z14p sub;simp only[Term.ht,Term.sz];omega
theorem zqf:∀l:List Term,htTs l≤szTs l
 |[]=>y6 _
 |t::l=>by
  have:=z14o t;have:=zqf l;simp only[htTs,szTs];omega
theorem z2h4:∀a:Agg,a.ht≤a.sz
 | .mk name distinct t=>by
  have:=zqf t;simp only[Agg.ht,Agg.sz];omega
theorem z1p3:∀l:List Agg,htAs l≤szAs l
 |[]=>y6 _
 |t::l=>by
  have:=z2h4 t;have:=z1p3 l;simp only[htAs,szAs];omega
theorem z1aj:∀r:Rel,r.ht≤r.sz
 | .mk op table cols kids terms aggs keys limit skip all rows=>by
  have:=z14p kids;have:=zqf terms;have:=z1p3 aggs;simp only[Rel.ht,Rel.sz];omega
theorem z14p:∀l:List Rel,htRs l≤szRs l
 |[]=>y6 _
 |t::l=>by
  have:=z1aj t;have:=z14p l;simp only[htRs,szRs];omega
end
theorem z4s{r:Rel}{env:List Int}(h:zlu r env=true):((r.kids.length:Int)=z3s r.op∧0≤z3s r.op)∧(∀k∈r.kids,zlu k env=true)∧(r.cols.length:Int)=z29 r∧(∀t∈r.terms,zcr t (z94 r::env)=true)∧(∀a∈r.aggs,∀t∈a.t,zcr t (z94 r::env)=true)∧zeh r env=true:=by
 rw[z23v,yp,yp,yp,ztp,y1f]at h;obtain⟨⟨⟨h1,h2⟩,h4⟩,h3⟩:=h;unfold z11a at h1;simp at h1;obtain⟨⟨h5,h6⟩,h7⟩:=h1;refine⟨⟨h6,h5⟩,h2,by grind,?_,?_,h3⟩
 ·intro t ht;unfold z37 at h7;have e:r.op=3∨r.op=4∨r.op=5∨r.op=6∨r.op=7:=by
   grind
  grind[zeh,zev,zcr,z94,List.all_eq_true]
 ·intro a ha t ht;unfold z37 at h7;have e:r.op=7:=by
   grind
  unfold zeh at h3;rw[if_neg (by omega),if_neg (by omega),if_neg (by omega),if_neg (by omega),if_neg (by omega),if_pos e,yp,z144]at h3;have q:=y1f.1 h3.2 a ha;simp_all[z23u,yp,zev,y1f]
theorem z14q{t:Term}{env:List Int}(h:zcr t env=true):zvr t env=true∧(∀k∈t.kids,zcr k env=true)∧(∀k∈t.sub,zlu k env=true):=by
 rw[z1xb,yp,yp,zev,ztp,y1f,y1g,yp,decide_eq_true_eq,y1f]at h;have hs:(t.sub.length:Int)=zkd t:=by
  simp_all[zvr,yp,decide_eq_true_eq]
 grind[List.length_pos_of_mem,zkd]
theorem z24t:∀(n:Nat),(∀(t:Term)(env:List Int),t.ht<n→zcr t env=true→tyT t)∧(∀(r:Rel)(env:List Int),r.ht<n→zlu r env=true→tyR r):=by
 have ts:∀(l:List Term),(∀t∈l,tyT t)→tyTs l:=by
  intro l
  induction l with
  |nil=>intro _;trivial
  |cons t l ih=>intro h;exact⟨h t y10,ih fun x hx=>h x (y12 _ hx)⟩
 have rs:∀(l:List Rel),(∀t∈l,tyR t)→tyRs l:=by
  intro l
  induction l with
  |nil=>intro _;trivial
  |cons t l ih=>intro h;exact⟨h t y10,ih fun x hx=>h x (y12 _ hx)⟩
 have as_:∀(l:List Agg),(∀t∈l,tyA t)→tyAs l:=by
  intro l
  induction l with
  |nil=>intro _;trivial
  |cons t l ih=>intro h;exact⟨h t y10,ih fun x hx=>h x (y12 _ hx)⟩
 intro n
 induction n with
 |zero=>simp
 |succ n ih=>
  constructor
  ·intro t env hn h;obtain⟨h1,h2,h3⟩:=z14q h;refine(z2h0 t).2 ⟨fun c=>?_,ts _ fun k hk=>ih.1 k env (by have:=Term.ht_kid hk;omega) (h2 k hk),rs _ fun k hk=>ih.2 k env (by have:=Term.ht_sub hk;omega) (h3 k hk)⟩;unfold zvr zus at h1;grind
  ·intro r env hn h;obtain⟨p1,p2⟩:=zvw r;obtain⟨⟨h1,_⟩,h2,_,h3,h4,_⟩:=z4s h;refine(z2h1 r).2 ⟨fun c=>?_,rs _ fun k hk=>ih.2 k env (by have:=Rel.ht_kid hk;omega) (h2 k hk),ts _ fun t ht=>ih.1 t _ (by grind) (h3 t ht),as_ _ fun a ha=>(z2h2 a).2 (ts _ fun t ht=>ih.1 t _ (by grind) (h4 a ha t ht))⟩;grind[z3s]
theorem z2km{r:Rel}{env:List Int}(h:zlu r env=true):tyR r:=(z24t (r.ht+1)).2 r env (y2l _) h
theorem z2df(r:Rel)(db:List Data)(n:Int)(i:Int)(h:r.sz≤2000000)(hh:r.ht≤2000000)(hc:clR r≤2000000000):zgh (.exit 0) (z6s r db n i)=some (z9b (z1ai r db n)):=by
 rw[z1p1,Rel.ids_eq];refine za4 fun _=>za4 fun _=>?_;rw[z6 h];refine za4 fun _=>?_;rw[z6 (by grind[z2j,List.length_nil])];refine za4 fun c=>?_;rw[z6 h];refine za4 fun _=>?_;rw[z6 h,z6 hc,z6 (z2km c),z6 (by omega)];refine za4 fun _=>?_;rw[z6 h]
theorem z1ub(r:Rel)(db:List Data)(_hr:WS .rel r)(hd:WL .data db)(h:r.sz≤2000000)(hc:clR r≤2000000000):z1af r db=some (z9b (zl0 r db)):=by
 have hh:=z1aj r;have hlt:(db.take 5).length≤5:=by grind
 have key:=z2h3 (L:=zd7) (st:=fun i=>z6s r db (((db.take 5).take i.toNat).foldl sumD 0) i) (er:=fun i=>ze2 r db (((db.take 5).take i.toNat).foldl sumD 0) i) (C:=zgh) (e:=.exit 0) (fun b=>some (z9b (b&&z1ai r db ((db.take 5).foldl sumD 0)))) (l:=db.take 5) (d:=z38) z2de (by omega)
  (fun i d hi hd hmem=>by
   obtain⟨g1,g2,g3⟩:=z1xo hi hd;have hil:i<(db.take 5).length:=by omega
   have e:((db.take 5).take (i+1)).foldl sumD 0=sumD (((db.take 5).take i).foldl sumD 0) d:=by
    rw[y3d,y2e,←hd,yd,ya hil];rfl
   have li:=fun(n:Int)=>z1a9 (L:=zn6) (st:=fun j=>z6t r db n i j) (C:=zn7) (e:=.exit 2) (fun b=>if b=true then zd7 (z6s r db (sumD n d) (IntKind.i64.wrap ((i:Int)+1)))else some (.ret,ze2 r db n i)) (l:=d.rows.take 9) (d:=[]) (fun x=>!decide ((x.length:Int)>6)) (by grind)
    (fun j x hj hx _=>by
     obtain⟨f1,f2,f3⟩:=z1xo hj hx;rw[z1ah];simp only[g1,f1,y5];rw[z6 (by omega),z8,if_pos (by grind),z8,if_pos (by grind),z6 (by omega),z6 (by omega)]
     cases decide ((x.length:Int)>6)<;>rfl)
    (by
     rw[z1ah];simp only[g1,y5,z8,decide_eq_true_eq];rw[z6 (by omega),yq]
     grind)
    (fun j=>z1k2 _ _ _ _ _) (by rw[z1p2,y5,g1];rfl)
   rw[z1ag,z3g hil (by omega)];simp;rw[z8,if_pos (by grind),z8,if_pos (by grind),z6 (by omega),e];refine(li _).trans ?_
   rw[z3g hil (by omega)];rfl)
  (by
   rw[z1ag];simp only[z8,decide_eq_true_eq,yq]
   grind)
  (fun i=>by simp[y1w,z1k3])
  (by rw[y1b,y5,y2s];grind[z2df])
 rw[z24s,Rel.ids_eq,z6 h];refine(z14n (x:=(db.take 5).all z2de&&z1ai r db ((db.take 5).foldl sumD 0)) (by simp) fun _=>key)
def z109:FnC Un:=fnF2 (dS .rel) (dL .data) fun r db=>([r.sz≤2000000,clR r≤2000000000],z9b (zl0 r db))
theorem z24u:FnOK 11 z109:=fnK2 zt zr (M:=zf4) rfl ⟨z244,z1g6,z2d1,z293,z24p,z24r,trivial⟩ trivial trivial trivial trivial Tryz.func11 fun r db=>GiF.r fun w o=>z1ub r db (wfA_ w 0) (wfA_ w 1) (obA_ o 0) (obA_ o 1)
end
end B
end Go.Proofs.YtjfpbchdcbhfgaaGreat
