/- Part 10 of the proof: Slight5 Slight6 Slight7 Slight8. -/
import Derived.Test.YtjfpbchdcbhfgaaGreatNse9
set_option linter.unusedVariables false
set_option linter.unusedSimpArgs false
namespace Go.Proofs.YtjfpbchdcbhfgaaGreat
namespace B
open Go Go.RowKit
set_option maxRecDepth 100000
noncomputable section
attribute [local irreducible] awp ctxK zu z1a retQ z1m awf ctxF z1k
def zpf:Mc Un:=mcF_ [(108,zlt),(107,zlx),(105,zi2)] [] [] [] []
def zz1:Nat→NS:=nsF_ [(3,{ts:=bl 42 61,bs:=bl 42 0,nm:=[(.sl 4,168)],cs:=true})] true
def z7x(l:List Int)(v0:Int)(v1:List Int):S Un:=(st 42 42 169 0 [(0,al .int l),(2,ai (0:Int)),(3,ai (0:Int)),(4,ao 168),(5,ai v0)] [] [(168,some ⟨(0:Nat),Ty.int,v1,some (0:Nat),true⟩)])
def zjx(l:List Int)(v0:Int)(v1:List Int)(v2:Int):S Un:=(st 42 42 169 0 [(0,al .int l),(2,ai (0:Int)),(3,ai v2),(4,ao 168),(5,ai v0)] [] [(168,some ⟨(0:Nat),Ty.int,v1,some (0:Nat),true⟩)])
def zcj:S Un→Option (EX Un):=lpF_ zpf zz1 Tryz.f111 [1,1,0,1,2,2] 3
def zlz:Exit→S Un→Option (RF Un):=cxF_ zpf zz1 Tryz.f111 [1,1,0,1,2] [.d,.d]
def z18a(l:List Int):Option (RF Un):=fnF_ zpf zz1 Tryz.f111 1 [.d,.d] [.d (.v (.dat (U:=Un) Ty.int l))]
theorem z22f(l:List Int):z18a l=(zcj (z7x l (0:Int) ([]))).bind (zd zlz):=by kernel_rfl
def zm0(l:List Int)(v0:Int)(v1:List Int):Option (EX Un):=obO (0≤v0∧v0<(↑l.length:Int)) (obO ((v1.length+[l.getD v0.toNat (0:Int)].length)*(8:Nat)≤zh) (zcj (z7x l (IntKind.i64.wrap (v0+1)) (v1++[l.getD v0.toNat (0:Int)]))))
theorem z18b(l:List Int)(v0:Int)(v1:List Int):zcj (z7x l v0 v1)=cndO (decide (v0<(↑l.length:Int))) (obO (¬(2:Int)=(0:Int)) (cndO (v0.tmod (2:Int)==(0:Int)) (cndO (decide (IntKind.i64.wrap (v0+1)<(↑l.length:Int))) (obO (0≤v0∧v0<(↑l.length:Int)) (cndO (!z6k (l.getD v0.toNat (0:Int)) (1:Int)) (some (.ret,(zjx l v0 v1 (9:Int)))) (zcj (z7x l (IntKind.i64.wrap (v0+1)) v1)))) (zm0 l v0 v1)) (zm0 l v0 v1))) (some (.exit 0,(z7x l v0 v1))):=lpQ_ (by kernel_rfl)
theorem z1i5(l:List Int)(v0:Int)(v1:List Int)(v2:Int):zlz .ret (zjx l v0 v1 v2)=some (z7v ((0:Int),v2)):=by kernel_rfl
theorem z1my(l:List Int)(v0:Int)(v1:List Int):zlz (.exit 0) (z7x l v0 v1)=some (z7v ((zo (z3g v1).fst (z3g v1).snd).fst,(zo (z3g v1).fst (z3g v1).snd).snd)):=by kernel_rfl
def z203(l:List Int)(vs:List Int)(i:Nat):Option (List Int):=if i % 2=0∧i+1<l.length then(if z6k (l.getD i 0) 1=true then some vs else none)else some (vs++[l.getD i 0])
def zwt(l:List Int):Int×Int:=match z1by (z203 l) [] (List.range l.length)with|some vs=>zo (z3g vs).1 (z3g vs).2|none=>(0,9)
theorem z1se(l:List Int)(_hl:WL .int l)(h:l.length≤2000000):z18a l=some (z7v (zwt l)):=by
 rw[z22f]
 exact z22d (L:=zcj) (st:=fun(vs:List Int) i=>z7x l i vs) (rt:=fun(vs:List Int) i=>zjx l i vs 9) (C:=zlz) (e:=.exit 0) (fun o=>some (z7v (match o with|some vs=>zo (z3g vs).1 (z3g vs).2|none=>(0,9)))) (l:=List.range l.length) (d:=0) (z203 l) (fun i vs=>vs.length≤i) (by grind)
  (fun vs i k hi hk _ hI=>by
   rw[y2r]at hi;have hk':k=i:=by grind
   subst hk';refine⟨fun b hb=>?_,?_⟩
   ·unfold z203 at hb;grind
   ·have et:zm0 l (k:Int) vs=zcj (z7x l (IntKind.i64.wrap ((k:Int)+1)) (vs++[l.getD k 0])):=by
     grind[zm0,Int.toNat_natCast,z6,zh,List.length_singleton]
    rw[z18b,et];unfold z203;simp only[z8,hi,decide_true,if_true,and_true,y5,beq_iff_eq,decide_eq_true_eq];rw[z1p (by omega),z6 (by simp)];by_cases c1:k % 2=0
    ·by_cases c2:k+1<l.length
     ·rw[if_pos (show(k:Int)+1<(l.length:Int) by omega),z6 (by omega),if_pos (show k % 2=0∧k+1<l.length from⟨c1,c2⟩)];grind
     grind
    grind)
  (fun vs=>by rw[y2r,z18b];simp[z8]) (fun a i=>z1i5 _ _ _ _) (fun a=>z1my _ _ _) [] (y7 _)
def z1f8:FnC Un:=fnF1 (dL .int) fun l=>([l.length≤2000000],z7v (zwt l))
theorem z22g:FnOK 111 z1f8:=fnK1 zx (M:=zpf) rfl ⟨zpb,zrr,zly,trivial⟩ trivial trivial trivial trivial Tryz.func111 fun l=>GiF.r fun w o=>z1se l (wfA_ w 0) (obA_ o 0)
def z1vv:Mc Un:=mcF_ [(110,zt4),(105,zi2),(108,zlt)] [] [] [] []
def z13e(name:ByteArray)(k:Int):Option (RF Un):=fnF_ z1vv z26d Tryz.f134 0 [.d,.d] [.d (.v (cs name)),.d (.v (.s (.int .i64 k)))]
theorem z2b9(name:ByteArray)(k:Int):z13e name k=cndO (name.toList==(ByteArray.mk #[99,111,117,110,116]).toList) (some (z7v ((zo (2:Int) (z4r k)).fst,(zo (2:Int) (z4r k)).snd))) (cndO (name.toList==(ByteArray.mk #[115,117,109]).toList) (some (z7v ((zo (2:Int) (z6k k (2:Int))).fst,(zo (2:Int) (z6k k (2:Int))).snd))) (cndO (name.toList==(ByteArray.mk #[109,105,110]).toList) (some (z7v ((zo k (z4r k)).fst,(zo k (z4r k)).snd))) (cndO (name.toList==(ByteArray.mk #[109,97,120]).toList) (some (z7v ((zo k (z4r k)).fst,(zo k (z4r k)).snd))) (some (z7v ((0:Int),(6:Int))))))):=by kernel_rfl
theorem ex_c{R:Int×Int→RF Un}{c:Bool}{x y:Option (RF Un)}(hx:c=true→∃p,x=some (R p))(hy:c=false→∃p,y=some (R p)):∃p,cndO c x y=some (R p):=by
 cases c
 ·exact hy rfl
 ·exact hx rfl
noncomputable def z204(R:Int×Int→RF Un)(o:Option (RF Un)):Int×Int:=@Classical.epsilon (Int×Int) ⟨(0,0)⟩ fun p=>o=some (R p)
theorem z1i6{R:Int×Int→RF Un}{o:Option (RF Un)}(h:∃p,o=some (R p)):o=some (R (z204 R o)):=@Classical.epsilon_spec (Int×Int) (fun p=>o=some (R p)) h
noncomputable def z1bz(name:ByteArray)(k:Int):Int×Int:=z204 z7v (z13e name k)
theorem z22h(name:ByteArray)(k:Int)(_hn:WStr name)(_hk:WI k):z13e name k=some (z7v (z1bz name k)):=by
 refine z1i6 ?_;rw[z2b9]
 repeat' first|exact⟨_,rfl⟩|refine ex_c (fun _=>?_) (fun _=>?_)
def z1vw:FnC Un:=fnF2 dStr (dI .i64) fun name k=>([],z7v (z1bz name k))
theorem z2ba:FnOK 134 z1vw:=fnK2 z3y z1c (M:=z1vv) rfl ⟨zyz,zly,zpb,trivial⟩ trivial trivial trivial trivial Tryz.func134 fun name k=>GiF.r fun w _=>z22h name k (wfA_ w 0) (wfA_ w 1)
def z1mz:Mc Un:=mcF_ [(106,z13d),(105,zi2),(107,zlx)] [] [] [] []
def zz2(name:ByteArray)(l:List Int):Option (RF Un):=fnF_ z1mz z26d Tryz.f60 0 [.d,.d] [.d (.v (cs name)),.d (.v (.dat (U:=Un) Ty.int l))]
def zz3(name:ByteArray)(l:List Int):Option (RF Un):=cndO (name.toList==(ByteArray.mk #[108,101,110,103,116,104]).toList) (some (z7v ((zo (2:Int) (z1s l (3:Int))).fst,(zo (2:Int) (z1s l (3:Int))).snd))) (cndO (name.toList==(ByteArray.mk #[108,111,119,101,114]).toList) (some (z7v ((zo (3:Int) (z1s l (3:Int))).fst,(zo (3:Int) (z1s l (3:Int))).snd))) (cndO (name.toList==(ByteArray.mk #[117,112,112,101,114]).toList) (some (z7v ((zo (3:Int) (z1s l (3:Int))).fst,(zo (3:Int) (z1s l (3:Int))).snd))) (cndO (name.toList==(ByteArray.mk #[97,98,115]).toList) (some (z7v ((zo (2:Int) (z1s l (2:Int))).fst,(zo (2:Int) (z1s l (2:Int))).snd))) (some (z7v ((zo (z3g l).fst (z3g l).snd).fst,(zo (z3g l).fst (z3g l).snd).snd))))))
def z1f9(name:ByteArray)(l:List Int):Option (RF Un):=cndO (!name.toList==(ByteArray.mk #[99,111,97,108,101,115,99,101]).toList) (some (z7v ((0:Int),(11:Int)))) (zz3 name l)
def zi4(name:ByteArray)(l:List Int):Option (RF Un):=cndO (decide ((↑l.length:Int)<(1:Int))) (some (z7v ((0:Int),(11:Int)))) (cndO (decide ((↑l.length:Int)>(1:Int))) (z1f9 name l) (zz3 name l))
theorem z27a(name:ByteArray)(l:List Int):zz2 name l=cndO (name.toList==(ByteArray.mk #[108,101,110,103,116,104]).toList) (zi4 name l) (cndO (name.toList==(ByteArray.mk #[108,111,119,101,114]).toList) (zi4 name l) (cndO (name.toList==(ByteArray.mk #[117,112,112,101,114]).toList) (zi4 name l) (cndO (name.toList==(ByteArray.mk #[97,98,115]).toList) (zi4 name l) (cndO (name.toList==(ByteArray.mk #[99,111,97,108,101,115,99,101]).toList) (zi4 name l) (cndO (name.toList==(ByteArray.mk #[110,117,108,108,105,102]).toList) (cndO (decide ((↑l.length:Int)<(2:Int))) (some (z7v ((0:Int),(11:Int)))) (cndO (decide ((↑l.length:Int)>(2:Int))) (z1f9 name l) (zz3 name l))) (some (z7v ((0:Int),(6:Int))))))))):=by kernel_rfl
noncomputable def znr(name:ByteArray)(l:List Int):Int×Int:=z204 z7v (zz2 name l)
theorem z1yi(name:ByteArray)(l:List Int)(_hn:WStr name)(_hl:WL .int l):zz2 name l=some (z7v (znr name l)):=by
 refine z1i6 ?_;rw[z27a]
 repeat' first|exact⟨_,rfl⟩|refine ex_c (fun _=>?_) (fun _=>?_)
def z1n0:FnC Un:=fnF2 dStr (dL .int) fun name l=>([],z7v (znr name l))
theorem z27b:FnOK 60 z1n0:=fnK2 z3y zx (M:=z1mz) rfl ⟨z1f5,zly,zrr,trivial⟩ trivial trivial trivial trivial Tryz.func60 fun name l=>GiF.r fun w _=>z1yi name l (wfA_ w 0) (wfA_ w 1)
def z22i:Mc Un:=mcF_ [(109,z1mx),(107,zlx),(106,z13d),(105,zi2),(110,zt4),(111,z1f8)] [] [] [] []
def z18c(op:Int)(l:List Int):Option (RF Un):=fnF_ z22i z26d Tryz.f62 0 [.d,.d] [.d (.v (.s (.int .i64 op))),.d (.v (.dat (U:=Un) Ty.int l))]
theorem z2eu(op:Int)(l:List Int):z18c op l=cndO ((zjw op).snd ==0) (some (z7v ((0:Int),(1:Int)))) (cndO (decide ((↑l.length:Int)<(zjw op).fst)) (some (z7v ((0:Int),(11:Int)))) (cndO (decide ((↑l.length:Int)>(zjw op).snd)) (some (z7v ((0:Int),(11:Int)))) (cndO (op==3) (some (z7v ((zo (2:Int) (z1s l (2:Int))).fst,(zo (2:Int) (z1s l (2:Int))).snd))) (cndO (op==5) (some (z7v ((zo (2:Int) (z1s l (2:Int))).fst,(zo (2:Int) (z1s l (2:Int))).snd))) (cndO (op==6) (some (z7v ((zo (2:Int) (z1s l (2:Int))).fst,(zo (2:Int) (z1s l (2:Int))).snd))) (cndO (op==7) (some (z7v ((zo (2:Int) (z1s l (2:Int))).fst,(zo (2:Int) (z1s l (2:Int))).snd))) (cndO (op==8) (some (z7v ((zo (2:Int) (z1s l (2:Int))).fst,(zo (2:Int) (z1s l (2:Int))).snd))) (cndO (op==9) (some (z7v ((zo (2:Int) (z1s l (2:Int))).fst,(zo (2:Int) (z1s l (2:Int))).snd))) (cndO (op==4) (some (z7v ((zo (1:Int) (z1s l (1:Int))).fst,(zo (1:Int) (z1s l (1:Int))).snd))) (cndO (op==17) (some (z7v ((zo (1:Int) (z1s l (1:Int))).fst,(zo (1:Int) (z1s l (1:Int))).snd))) (cndO (op==18) (some (z7v ((zo (1:Int) (z1s l (1:Int))).fst,(zo (1:Int) (z1s l (1:Int))).snd))) (cndO (op==10) (some (z7v ((zo (3:Int) (z1s l (3:Int))).fst,(zo (3:Int) (z1s l (3:Int))).snd))) (cndO (op==20) (some (z7v ((zo (1:Int) (z1s l (3:Int))).fst,(zo (1:Int) (z1s l (3:Int))).snd))) (cndO (op==19) (obO ((0:Int)≤(0:Int)∧(0:Int)<(↑l.length:Int)) (some (z7v ((zo (1:Int) (z4r (l.getD 0 (0:Int)))).fst,(zo (1:Int) (z4r (l.getD 0 (0:Int)))).snd)))) (cndO (op==23) (obO (l.length≤(2000000:Nat)) (some (z7v ((zwt l).fst,(zwt l).snd)))) (some (z7v ((zo (1:Int) (z3g l).snd).fst,(zo (1:Int) (z3g l).snd).snd)))))))))))))))))):=by kernel_rfl
noncomputable def z10v(op:Int)(l:List Int):Int×Int:=z204 z7v (z18c op l)
theorem z27c(op:Int)(l:List Int)(_ho:WI op)(_hl:WL .int l)(h:l.length≤2000000):z18c op l=some (z7v (z10v op l)):=by
 refine z1i6 ?_;rw[z2eu];refine ex_c (fun _=>⟨_,rfl⟩) (fun _=>?_);refine ex_c (fun _=>⟨_,rfl⟩) (fun h1=>?_);have h2:op=19→0<l.length:=fun e=>by
  have e2:(zjw 19).1=1:=rfl;grind
 repeat' first|exact⟨_,rfl⟩|(rw[z6 h])|(refine ex_c (fun c=>?_) (fun _=>?_))|(rw[z6 ⟨y27 _,by grind⟩])
def z22j:FnC Un:=fnF2 (dI .i64) (dL .int) fun op l=>([l.length≤2000000],z7v (z10v op l))
theorem z2ev:FnOK 62 z22j:=fnK2 z1c zx (M:=z22i) rfl ⟨z279,zrr,z1f5,zly,zyz,z22g,trivial⟩ trivial trivial trivial trivial Tryz.func62 fun op l=>GiF.r fun w o=>z27c op l (wfA_ w 0) (wfA_ w 1) (obA_ o 0)
end
end B
namespace B
open Go Go.RowKit
set_option maxRecDepth 100000
noncomputable section
attribute [local irreducible] awp ctxK zu z1a retQ z1m awf ctxF z1k
def zz5:Nat→NS:=nsF_ [(3,{ts:=bl 21 25,bs:=bl 21 0,nm:=[(.sl 3,84)],cs:=true})] true
def zck(l:List Col)(v0:Int)(v1:List Int):S Un:=(st 21 21 85 0 [(0,al .col l),(3,ao 84),(4,ai v0)] [] [(84,some ⟨(0:Nat),Ty.int,v1,some (0:Nat),true⟩)])
def zm1:S Un→Option (EX Un):=lpF_ z1dq zz5 Tryz.f25 [1,1,0,1,2,2] 3
def z18d:Exit→S Un→Option (RF Un):=cxF_ z1dq zz5 Tryz.f25 [1,1,0,1,2] [.d]
def z18e(l:List Col):Option (RF Un):=fnF_ z1dq zz5 Tryz.f25 1 [.d] [.d (.v (.dat (U:=Un) Ty.col l))]
theorem z22k(l:List Col):z18e l=(zm1 (zck l (0:Int) ([]))).bind (zd z18d):=by kernel_rfl
theorem z18f(l:List Col)(v0:Int)(v1:List Int):zm1 (zck l v0 v1)=cndO (decide (v0<(↑l.length:Int))) (obO (0≤v0∧v0<(↑l.length:Int)) (obO ((v1.length+[(l.getD v0.toNat ze8).type].length)*(8:Nat)≤zh) (zm1 (zck l (IntKind.i64.wrap (v0+1)) (v1++[(l.getD v0.toNat ze8).type]))))) (some (.exit 0,(zck l v0 v1))):=lpQ_ (by kernel_rfl)
theorem z1n1(l:List Col)(v0:Int)(v1:List Int):z18d (.exit 0) (zck l v0 v1)=some (zno (v1)):=by kernel_rfl
def z1e(l:List Col):List Int:=l.map fun c=>c.type
theorem z1n2:∀(l:List Col)(n:List Int),l.foldl (fun n c=>n++[c.type]) n=n++z1e l
 |[],n=>by simp[z1e]
 |c::l,n=>by rw[yt,z1n2 l];simp[z1e]
theorem z1sf(l:List Col)(hl:WL .col l)(h:l.length≤2000000000):z18e l=some (zno (z1e l)):=by
 obtain⟨lp,_⟩:=z1n (e:=.exit 0) (L:=zm1) (st:=fun(n:List Int) i=>zck l i n) (l:=l) (d:=ze8) (g:=fun n c=>n++[c.type]) (fun i n=>n.length=i) hl.len
  (fun n i c hi hc hI=>by
   rw[z18f];simp only[z8,hi,decide_true,if_true,and_true,y5,hc]
   grind[z6,zh,List.length_singleton])
  (fun n _=>by rw[z18f];simp[z8]) [] rfl
 rw[z1n2,yx]at lp;rw[z22k];refine(zg lp).trans ?_;rw[z1n1]
def zek:FnC Un:=fnF1 (dL .col) fun l=>([l.length≤2000000000],zno (z1e l))
theorem zm2:FnOK 25 zek:=fnK1 zx (M:=z1dq) rfl trivial trivial trivial trivial trivial Tryz.func25 fun l=>GiF.r fun w o=>z1sf l (wfA_ w 0) (obA_ o 0)
def zz6:Nat→NS:=nsF_ [(2,{ts:=bl 32 51,bs:=bl 32 0,nm:=[],cs:=true})] true
def z6l(a:List Int)(b:List Int)(v0:Int):S Un:=(st 32 32 128 0 [(0,al .int a),(1,al .int b),(4,ab false),(5,ai v0)] [] [])
def zm3:S Un→Option (EX Un):=lpF_ z1dq zz6 Tryz.f31 [1,0,1,2,2] 2
def zm4:Exit→S Un→Option (RF Un):=cxF_ z1dq zz6 Tryz.f31 [1,0,1,2] [.d]
def z18g(a:List Int)(b:List Int):Option (RF Un):=fnF_ z1dq zz6 Tryz.f31 0 [.d] [.d (.v (.dat (U:=Un) Ty.int a)),.d (.v (.dat (U:=Un) Ty.int b))]
theorem z22l(a:List Int)(b:List Int):z18g a b=(zm3 (z6l a b (0:Int))).bind (zd zm4):=by kernel_rfl
theorem z18h(a:List Int)(b:List Int)(v0:Int):zm3 (z6l a b v0)=cndO (decide (v0<(↑a.length:Int))) (cndO (decide (v0<(↑b.length:Int))) (obO (0≤v0∧v0<(↑a.length:Int)) (obO (0≤v0∧v0<(↑b.length:Int)) (cndO (a.getD v0.toNat (0:Int) !=b.getD v0.toNat (0:Int)) (some (.ret,(z6l a b v0))) (zm3 (z6l a b (IntKind.i64.wrap (v0+1))))))) (some (.exit 0,(z6l a b v0)))) (some (.exit 0,(z6l a b v0))):=lpQ_ (by kernel_rfl)
theorem z1i7(a:List Int)(b:List Int)(v0:Int):zm4 .ret (z6l a b v0)=some (z91 (false)):=by kernel_rfl
theorem z1n3(a:List Int)(b:List Int)(v0:Int):zm4 (.exit 0) (z6l a b v0)=some (z91 ((↑a.length:Int)==(↑b.length:Int))):=by kernel_rfl
def zqp(a b:List Int):Bool:=(List.range (min a.length b.length)).all (fun i=>a.getD i 0==b.getD i 0)&&((a.length:Int)==(b.length:Int))
theorem z1sg(a b:List Int)(ha:WL .int a)(_hb:WL .int b):z18g a b=some (z91 (zqp a b)):=by
 have hlen:=ha.len;rw[z22l]
 exact z2t (L:=zm3) (st:=fun i=>z6l a b i) (C:=zm4) (e:=.exit 0) (fun x=>some (z91 (x&&((a.length:Int)==(b.length:Int))))) (l:=List.range (min a.length b.length)) (d:=0) (fun i=>a.getD i 0==b.getD i 0) (by grind)
  (fun i k hi hk _=>by
   rw[y2r]at hi;have hk':k=i:=by grind
   subst hk';rw[z18h];simp only[z8,y5,decide_eq_true_eq];rw[if_pos (show(k:Int)<(a.length:Int) by omega),if_pos (show(k:Int)<(b.length:Int) by omega),z6 (by omega),z6 (by omega)]
   simp)
  (by
   rw[y2r,z18h];simp only[z8,decide_eq_true_eq]
   grind)
  (fun i=>by simp[y1q,z1i7]) (fun i=>by simp[y1c,z1n3])
def zpi:FnC Un:=fnF2 (dL .int) (dL .int) fun a b=>([],z91 (zqp a b))
theorem z18i:FnOK 31 zpi:=fnK2 zx zx (M:=z1dq) rfl trivial trivial trivial trivial trivial Tryz.func31 fun a b=>GiF.r fun w _=>z1sg a b (wfA_ w 0) (wfA_ w 1)
def zpj:Mc Un:=mcF_ [(25,zek)] [] [] [] []
def zz8:Nat→NS:=nsF_ [(3,{ts:=bl 23 26,bs:=bl 23 2,nm:=[(.sl 3,92)],cs:=true})] true
def zcl(r:Rel)(v0:Int)(v1:List Int):S Un:=(st 23 23 93 0 [(1,ax 1),(3,ao 92),(4,ai v0)] [(1,bg .rel r)] [(92,some ⟨(0:Nat),Ty.int,v1,some (0:Nat),true⟩)])
def zm5:S Un→Option (EX Un):=lpF_ zpj zz8 Tryz.f80 [1,1,0,1,2,2] 3
def z18j:Exit→S Un→Option (RF Un):=cxF_ zpj zz8 Tryz.f80 [1,1,0,1,2] [.d]
def z18k(r:Rel):Option (RF Un):=fnF_ zpj zz8 Tryz.f80 1 [.d] [.d (.agg (enc Ty.rel r))]
theorem z22m(r:Rel):z18k r=(zm5 (zcl r (0:Int) ([]))).bind (zd z18j):=by kernel_rfl
theorem z18l(r:Rel)(v0:Int)(v1:List Int):zm5 (zcl r v0 v1)=cndO (decide (v0<(↑r.kids.length:Int))) (obO (0≤v0∧v0<(↑r.kids.length:Int)) (obO ((Rel.cols (r.kids.getD v0.toNat za)).length≤(2000000000:Nat)) (obO ((v1.length+(z1e (Rel.cols (r.kids.getD v0.toNat za))).length)*(8:Nat)≤zh) (zm5 (zcl r (IntKind.i64.wrap (v0+1)) (v1++z1e (Rel.cols (r.kids.getD v0.toNat za)))))))) (some (.exit 0,(zcl r v0 v1))):=lpQ_ (by kernel_rfl)
theorem z1n4(r:Rel)(v0:Int)(v1:List Int):z18j (.exit 0) (zcl r v0 v1)=some (zno (v1)):=by kernel_rfl
mutual
def clT:Term→Nat
 | .mk _ _ _ _ _ kids sub _=>clTs kids+clRs sub
def clTs:List Term→Nat
 |[]=>0
 |t::l=>clT t+clTs l
def clA:Agg→Nat
 | .mk _ _ t=>clTs t
def clAs:List Agg→Nat
 |[]=>0
 |a::l=>clA a+clAs l
def clR:Rel→Nat
 | .mk _ _ cols kids terms aggs _ _ _ _ _=>cols.length+clRs kids+clTs terms+clAs aggs
def clRs:List Rel→Nat
 |[]=>0
 |r::l=>clR r+clRs l
end
theorem z22n(t:Term):clT t=clTs t.kids+clRs t.sub:=by cases t;rfl
theorem z2ew(a:Agg):clA a=clTs a.t:=by cases a;rfl
theorem ze0(r:Rel):clR r=r.cols.length+clRs r.kids+clTs r.terms+clAs r.aggs:=by cases r;rfl
theorem zjy{t:Term}:∀{l:List Term},t∈l→clT t≤clTs l
 |x::l,h=>by
  simp only[clTs];rcases yf.1 h with rfl|h
  ·omega
  ·have:=zjy h;omega
theorem zft{t:Rel}:∀{l:List Rel},t∈l→clR t≤clRs l
 |x::l,h=>by
  simp only[clRs];rcases yf.1 h with rfl|h
  ·omega
  ·have:=zft h;omega
theorem z1i8{t:Agg}:∀{l:List Agg},t∈l→clA t≤clAs l
 |x::l,h=>by
  simp only[clAs];rcases yf.1 h with rfl|h
  ·omega
  ·have:=z1i8 h;omega
def z29(r:Rel):List Int:=r.kids.foldl (fun n k=>n++z1e k.cols) []
theorem z1sh(r:Rel)(hr:WS .rel r)(h:clR r≤2000000000):z18k r=some (zno (z29 r)):=by
 have h0:=ze0 r
 obtain⟨lp,_⟩:=z1n (e:=.exit 0) (L:=zm5) (st:=fun(n:List Int) i=>zcl r i n) (l:=r.kids) (d:=za) (g:=fun n k=>n++z1e k.cols) (fun i n=>n.length+clRs (r.kids.drop i)≤2000000000) (hr.rel_kids).len
  (fun n i k hi hk hI=>by
   have hd:=zka (d:=za) (show i<r.kids.length by omega);rw[hd,hk]at hI;simp only[clRs]at hI;have h1:=ze0 k;have h2:(z1e k.cols).length=k.cols.length:=by unfold z1e;simp
   rw[z18l];simp only[z8,hi,decide_true,if_true,and_true,y5,hk]
   grind[z6,zh])
  (fun n _=>by rw[z18l];simp[z8]) [] (by grind)
 rw[z22m];refine(zg lp).trans ?_;rw[z1n4];rfl
def zz9:FnC Un:=fnF1 (dS .rel) fun r=>([clR r≤2000000000],zno (z29 r))
theorem z18m:FnOK 80 zz9:=fnK1 zr (M:=zpj) rfl ⟨zm2,trivial⟩ trivial trivial trivial trivial Tryz.func80 fun r=>GiF.r fun w o=>z1sh r (wfA_ w 0) (obA_ o 0)
def z7o:Mc Un:=mcF_ [(25,zek),(134,z1vw),(61,zt5),(80,zz9)] [] [] [] []
def z4i(r:List Int×Bool):RF Un:=([.c (.sl (U:=Un) Ty.int r.1 false),.c (.s (.bool r.2))],[])
def z8x:Nat→NS:=nsF_ [(8,{ts:=bl 162 50,bs:=bl 162 2,nm:=[(.sl 4,648)],cs:=true}),(15,{ts:=bl 162 194,bs:=bl 162 2,nm:=[(.sl 6,649)],cs:=true}),(19,{ts:=bl 162 334,bs:=bl 162 2,nm:=[(.sl 6,650)],cs:=true}),(35,{ts:=bl 162 61452,bs:=bl 162 0,nm:=[(.sl 14,651)],cs:=true})] true
def zza(r:Rel)(v4:Int):=z1bz (Agg.name (r.aggs.getD v4.toNat zq)) (Term.type ((Agg.t (r.aggs.getD v4.toNat zq)).getD 0 zb))
def zzb(r:Rel)(v4:Int):=z1bz (Agg.name (r.aggs.getD v4.toNat zq)) (2:Int)
def zel(r:Rel)(v0:Int)(v1:List Int):S Un:=(st 162 162 652 0 [(1,ax 1),(4,ao 648),(5,ai v0)] [(1,bg .rel r)] [(648,some ⟨(0:Nat),Ty.int,v1,some (0:Nat),true⟩)])
def z7y(r:Rel)(v2:Int)(v3:List Int):S Un:=(st 162 162 652 0 [(1,ax 1),(6,ao 649),(7,ai v2)] [(1,bg .rel r)] [(649,some ⟨(0:Nat),Ty.int,v3,some (0:Nat),true⟩)])
def z5i(r:Rel)(v3:List Int)(v4:Int):S Un:=(st 162 162 652 0 [(1,ax 1),(6,ao 650),(8,ai v4)] [(1,bg .rel r)] [(650,some ⟨(0:Nat),Ty.int,v3,some (0:Nat),true⟩)])
def za4(r:Rel)(v3:List Int)(v4:Int):S Un:=(st 162 162 652 0 [(1,ax 1),(2,AV.one (A.c (C.sl Ty.int [] true))),(3,ab false),(6,ao 650),(8,ai v4)] [(1,bg .rel r)] [(650,some ⟨(0:Nat),Ty.int,v3,some (0:Nat),true⟩)])
def z4s(r:Rel)(v5:Int)(v6:List Int):S Un:=(st 162 162 652 0 [(2,AV.one (A.c (C.sl Ty.int [] true))),(3,ab false),(12,al .int (z1e (Rel.cols (r.kids.getD 0 za)))),(13,al .int (z1e (Rel.cols (r.kids.getD 1 za)))),(14,ao 651),(15,ai v5)] [] [(651,some ⟨(0:Nat),Ty.int,v6,some (0:Nat),true⟩)])
def zpk:S Un→Option (EX Un):=lpF_ z7o z8x Tryz.f81 [1,0,1,2,1,4,1,3,1,0,1,2,2] 8
def zfu:S Un→Option (EX Un):=lpF_ z7o z8x Tryz.f81 [1,0,1,2,1,4,1,4,1,3,1,0,1,2,2] 15
def z7z:S Un→Option (EX Un):=lpF_ z7o z8x Tryz.f81 [1,0,1,2,1,4,1,4,1,3,1,1,0,1,2,2] 19
def zfv:S Un→Option (EX Un):=lpF_ z7o z8x Tryz.f81 [1,0,1,2,1,4,1,4,1,4,1,3,1,1,0,1,2,2] 35
def zzc:Exit→S Un→Option (RF Un):=cxF_ z7o z8x Tryz.f81 [1,0,1,2,1,4,1,3,1,0,1,2] [.d,.d]
def zv4:Exit→S Un→Option (RF Un):=cxF_ z7o z8x Tryz.f81 [1,0,1,2,1,4,1,4,1,3,1,0,1,2] [.d,.d]
def zfw:Exit→S Un→Option (RF Un):=cxF_ z7o z8x Tryz.f81 [1,0,1,2,1,4,1,4,1,3,1,1,0,1,2] [.d,.d]
def zm6:Exit→S Un→Option (RF Un):=cxF_ z7o z8x Tryz.f81 [1,0,1,2,1,4,1,4,1,4,1,3,1,1,0,1,2] [.d,.d]
def zpl(r:Rel):Option (RF Un):=fnF_ z7o z8x Tryz.f81 4 [.d,.d] [.d (.agg (enc Ty.rel r))]
def zi6(r:Rel):Option (RF Un):=obO ((0:Int)≤(0:Int)∧(0:Int)<(↑r.kids.length:Int)) (obO ((Rel.cols (r.kids.getD 0 za)).length≤(2000000000:Nat)) (obO ((0:Int)≤(1:Int)∧(1:Int)<(↑r.kids.length:Int)) (obO ((Rel.cols (r.kids.getD 1 za)).length≤(2000000000:Nat)) ((zfv (z4s r (0:Int) ([]))).bind (zd zm6)))))
theorem z27d(r:Rel):zpl r=cndO (r.op==1) (obO (r.cols.length≤(2000000000:Nat)) (some (z4i (z1e r.cols,true)))) (cndO (r.op==2) (obO (r.cols.length≤(2000000000:Nat)) (some (z4i (z1e r.cols,true)))) (cndO (r.op==4) ((zpk (zel r (0:Int) ([]))).bind (zd zzc)) (cndO (r.op==7) ((zfu (z7y r (0:Int) ([]))).bind (zd zv4)) (cndO (r.op==9) (zi6 r) (cndO (r.op==10) (zi6 r) (cndO (r.op==11) (zi6 r) (obO (clR (Rel.ids r)≤(2000000000:Nat)) (some (z4i (z29 (Rel.ids r),true)))))))))):=by kernel_rfl
theorem z1fa(r:Rel)(v0:Int)(v1:List Int):zpk (zel r v0 v1)=cndO (decide (v0<(↑r.terms.length:Int))) (obO (0≤v0∧v0<(↑r.terms.length:Int)) (obO ((v1.length+[Term.type (r.terms.getD v0.toNat zb)].length)*(8:Nat)≤zh) (zpk (zel r (IntKind.i64.wrap (v0+1)) (v1++[Term.type (r.terms.getD v0.toNat zb)]))))) (some (.exit 1,(zel r v0 v1))):=lpQ_ (by kernel_rfl)
theorem z1si(r:Rel)(v0:Int)(v1:List Int):zzc (.exit 1) (zel r v0 v1)=some (z4i (v1,true)):=by kernel_rfl
theorem z18n(r:Rel)(v2:Int)(v3:List Int):zfu (z7y r v2 v3)=cndO (decide (v2<(↑r.terms.length:Int))) (obO (0≤v2∧v2<(↑r.terms.length:Int)) (obO ((v3.length+[Term.type (r.terms.getD v2.toNat zb)].length)*(8:Nat)≤zh) (zfu (z7y r (IntKind.i64.wrap (v2+1)) (v3++[Term.type (r.terms.getD v2.toNat zb)]))))) (some (.exit 3,(z7y r v2 v3))):=lpQ_ (by kernel_rfl)
theorem z1n5(r:Rel)(v2:Int)(v3:List Int):zv4 (.exit 3) (z7y r v2 v3)=(z7z (z5i r v3 (0:Int))).bind (zd zfw):=by kernel_rfl
theorem z18o(r:Rel)(v3:List Int)(v4:Int):z7z (z5i r v3 v4)=cndO (decide (v4<(↑r.aggs.length:Int))) (obO (0≤v4∧v4<(↑r.aggs.length:Int)) (cndO (decide ((↑(Agg.t (r.aggs.getD v4.toNat zq)).length:Int)>(0:Int))) (obO (0≤v4∧v4<(↑r.aggs.length:Int)) (obO ((0:Int)≤(0:Int)∧(0:Int)<(↑(Agg.t (r.aggs.getD v4.toNat zq)).length:Int)) (obO (0≤v4∧v4<(↑r.aggs.length:Int)) (cndO ((zza r v4).snd !=0) (some (.ret,(za4 r v3 v4))) (obO ((v3.length+[(zza r v4).fst].length)*(8:Nat)≤zh) (z7z (z5i r (v3++[(zza r v4).fst]) (IntKind.i64.wrap (v4+1))))))))) (obO (0≤v4∧v4<(↑r.aggs.length:Int)) (cndO ((zzb r v4).snd !=0) (some (.ret,(za4 r v3 v4))) (obO ((v3.length+[(zzb r v4).fst].length)*(8:Nat)≤zh) (z7z (z5i r (v3++[(zzb r v4).fst]) (IntKind.i64.wrap (v4+1))))))))) (some (.exit 5,(z5i r v3 v4))):=lpQ_ (by kernel_rfl)
theorem z1i9(r:Rel)(v3:List Int)(v4:Int):zfw .ret (za4 r v3 v4)=some (z4i ([],false)):=by kernel_rfl
theorem z1n6(r:Rel)(v3:List Int)(v4:Int):zfw (.exit 5) (z5i r v3 v4)=some (z4i (v3,true)):=by kernel_rfl
theorem z18p(r:Rel)(v5:Int)(v6:List Int):zfv (z4s r v5 v6)=cndO (decide (v5<(↑(z1e (Rel.cols (r.kids.getD 0 za))).length:Int))) (cndO (decide (v5<(↑(z1e (Rel.cols (r.kids.getD 1 za))).length:Int))) (obO (0≤v5∧v5<(↑(z1e (Rel.cols (r.kids.getD 0 za))).length:Int)) (obO (0≤v5∧v5<(↑(z1e (Rel.cols (r.kids.getD 1 za))).length:Int)) (cndO (!(z5w ((z1e (Rel.cols (r.kids.getD 0 za))).getD v5.toNat (0:Int)) ((z1e (Rel.cols (r.kids.getD 1 za))).getD v5.toNat (0:Int))).snd) (some (.ret,(z4s r v5 v6))) (obO ((v6.length+[(z5w ((z1e (Rel.cols (r.kids.getD 0 za))).getD v5.toNat (0:Int)) ((z1e (Rel.cols (r.kids.getD 1 za))).getD v5.toNat (0:Int))).fst].length)*(8:Nat)≤zh) (zfv (z4s r (IntKind.i64.wrap (v5+1)) (v6++[(z5w ((z1e (Rel.cols (r.kids.getD 0 za))).getD v5.toNat (0:Int)) ((z1e (Rel.cols (r.kids.getD 1 za))).getD v5.toNat (0:Int))).fst]))))))) (some (.exit 7,(z4s r v5 v6)))) (some (.exit 7,(z4s r v5 v6))):=lpQ_ (by kernel_rfl)
theorem z1ia(r:Rel)(v5:Int)(v6:List Int):zm6 .ret (z4s r v5 v6)=some (z4i ([],false)):=by kernel_rfl
theorem z1n7(r:Rel)(v5:Int)(v6:List Int):zm6 (.exit 7) (z4s r v5 v6)=some (z4i (v6,(↑(z1e (Rel.cols (r.kids.getD 0 za))).length:Int)==(↑(z1e (Rel.cols (r.kids.getD 1 za))).length:Int))):=by kernel_rfl
theorem zwu{σ ρ:Type}{R:ρ→RF Un}{L:S Un→Option (EX Un)}{C:Exit→S Un→Option (RF Un)}{st:σ→Int→S Un}{n:Nat}(hn:n≤9223372036854775807)(Inv:Nat→σ→Prop)
  (step:∀(a:σ)(i:Nat),i<n→Inv i a→(∃b,Inv (i+1) b∧L (st a (i:Int))=L (st b (IntKind.i64.wrap ((i:Int)+1))))∨∃p,(L (st a (i:Int))).bind (zd C)=some (R p))
  (stop:∀a,Inv n a→∃p,(L (st a (n:Int))).bind (zd C)=some (R p))(a:σ)(h0:Inv 0 a):∃p,(L (st a (0:Int))).bind (zd C)=some (R p):=by
 have key:∀(k i:Nat)(a:σ),i+k=n→Inv i a→∃p,(L (st a (i:Int))).bind (zd C)=some (R p):=by
  intro k
  induction k with
  |zero=>
   grind
  |succ k ih=>
   grind[step,z3e]
 exact key n 0 a (by omega) h0
theorem z13f{ρ:Type}{R:ρ→RF Un}{c:Bool}{x y:Option (RF Un)}(hx:c=true→∃p,x=some (R p))(hy:c=false→∃p,y=some (R p)):∃p,cndO c x y=some (R p):=by
 cases c
 ·exact hy rfl
 ·exact hx rfl
noncomputable def z2ex(R:List Int×Bool→RF Un)(o:Option (RF Un)):List Int×Bool:=@Classical.epsilon (List Int×Bool) ⟨([],false)⟩ fun p=>o=some (R p)
theorem z2ey{R:List Int×Bool→RF Un}{o:Option (RF Un)}(h:∃p,o=some (R p)):o=some (R (z2ex R o)):=@Classical.epsilon_spec (List Int×Bool) (fun p=>o=some (R p)) h
noncomputable def zfx(r:Rel):List Int×Bool:=z2ex z4i (zpl r)
def z18q(r:Rel):Prop:=((r.op=9∨r.op=10∨r.op=11)→2≤r.kids.length)∧r.sz≤2000000∧clR r≤2000000000
theorem z18r(r:Rel)(hk:2≤r.kids.length)(hc:clR r≤2000000000):∃p,zi6 r=some (z4i p):=by
 have c0:∀i,i<r.kids.length→(Rel.cols (r.kids.getD i za)).length≤2000000000:=fun i hi=>by
  have h1:=zft (z8i (l:=r.kids) (d:=za) hi);grind[ze0,za]
 unfold zi6;rw[z6 (by omega),z6 (c0 0 (by omega)),z6 (by omega),z6 (c0 1 (by omega))];generalize ha:z1e (Rel.cols (r.kids.getD 0 za))=a;generalize hb:z1e (Rel.cols (r.kids.getD 1 za))=b;have hal:a.length≤2000000000:=by grind[z1e,List.length_map]
 refine zwu (L:=zfv) (C:=zm6) (st:=fun(v:List Int) i=>z4s r i v) (n:=min a.length b.length) (by omega) (fun i v=>v.length≤i)
  (fun v i hi hI=>?_) (fun v hI=>?_) [] (yb _)
 ·rw[z18p];simp only[ha,hb,y5];cases hJ:(z5w (a.getD i 0) (b.getD i 0)).2 with
  |false=>exact .inr ⟨_,by rw[z8,if_pos (by grind),z8,if_pos (by grind),z6 (by omega),z6 (by omega)];exact z1ia _ _ _⟩
  |true=>
   exact .inl ⟨v++[(z5w (a.getD i 0) (b.getD i 0)).1],by grind,by
    rw[z8,if_pos (by grind),z8,if_pos (by grind),z6 (by omega),z6 (by omega),z8,if_neg (by simp),z6 (by grind[zh,List.length_singleton])]⟩
 ·have e:zfv (z4s r ((min a.length b.length:Nat):Int) v)=some (.exit 7,z4s r ((min a.length b.length:Nat):Int) v):=by
   rw[z18p];simp only[ha,hb,z8,decide_eq_true_eq];grind
  grind[zg,trans,z1n7]
theorem z2ez(r:Rel)(hr:WS .rel r)(h:z18q r):∃p,zpl r=some (z4i p):=by
 obtain⟨hk,hs,hc⟩:=h;have h0:=ze0 r;have h3:=r.sz_eq;have hl:=z5v r.terms;have hla:=z1he r.aggs;rw[z27d];rw[z6 (show r.cols.length≤2000000000 by omega),Rel.ids_eq,z6 hc];refine z13f (fun _=>⟨_,rfl⟩) fun _=>z13f (fun _=>⟨_,rfl⟩) fun _=>z13f (fun _=>?_) fun _=>z13f (fun _=>?_) fun _=>z13f (fun c=>z18r r (hk (.inl (by grind))) hc) fun _=>z13f (fun c=>z18r r (hk (.inr (.inl (by grind)))) hc) fun _=>z13f (fun c=>z18r r (hk (.inr (.inr (by grind)))) hc) fun _=>⟨_,rfl⟩
 ·refine zwu (L:=zpk) (C:=zzc) (st:=fun(v:List Int) i=>zel r i v) (n:=r.terms.length) (by omega) (fun i v=>v.length≤i) (fun v i hi hI=>.inl ?_) (fun v hI=>?_) [] (yb _)
  ·exact⟨v++[Term.type (r.terms.getD i zb)],by grind,by
    rw[z1fa,y5,z8,if_pos (by grind),z6 (by omega),z6 (by grind[zh,List.length_singleton])]⟩
  ·exact⟨_,(zg (by rw[z1fa,z8,if_neg (by simp)])).trans (z1si _ _ _)⟩
 ·refine zwu (L:=zfu) (C:=zv4) (st:=fun(v:List Int) i=>z7y r i v) (n:=r.terms.length) (by omega) (fun i v=>v.length≤i) (fun v i hi hI=>.inl ?_) (fun v hI=>?_) [] (yb _)
  ·exact⟨v++[Term.type (r.terms.getD i zb)],by grind,by
    rw[z18n,y5,z8,if_pos (by grind),z6 (by omega),z6 (by grind[zh,List.length_singleton])]⟩
  ·rw[zg (show zfu (z7y r (r.terms.length:Int) v)=some (.exit 3,z7y r (r.terms.length:Int) v) by rw[z18n,z8,if_neg (by simp)]),z1n5];refine zwu (L:=z7z) (C:=zfw) (st:=fun(v:List Int) i=>z5i r v i) (n:=r.aggs.length) (by omega) (fun i v=>v.length≤4000000+i) (fun v i hi hI=>?_) (fun v hI=>?_) v (by omega)
   ·rw[z18o,y5,z8,if_pos (by grind),z6 (by omega)]
    have step:∀p:Int×Int,(∃b:List Int,b.length≤4000000+(i+1)∧cndO (p.2 !=0) (some (.ret,za4 r v i)) (obO ((v.length+[p.1].length)*(8:Nat)≤zh) (z7z (z5i r (v++[p.1]) (IntKind.i64.wrap ((i:Int)+1)))))=z7z (z5i r b (IntKind.i64.wrap ((i:Int)+1))))∨
      ∃q,(cndO (p.2 !=0) (some (.ret,za4 r v i)) (obO ((v.length+[p.1].length)*(8:Nat)≤zh) (z7z (z5i r (v++[p.1]) (IntKind.i64.wrap ((i:Int)+1)))))).bind (zd zfw)=some (z4i q):=fun p=>by
     cases hp:(p.2 !=0)with
     |true=>exact .inr ⟨_,z1i9 _ _ _⟩
     |false=>exact .inl ⟨v++[p.1],by grind,by rw[z8,if_neg (by simp),z6 (by grind[zh,List.length_singleton])]⟩
    by_cases c:(↑(Agg.t (r.aggs.getD i zq)).length:Int)>(0:Int)
    all_goals simp_all[z8,if_pos,z6,step,if_neg]
   ·exact⟨_,(zg (by rw[z18o,z8,if_neg (by simp)])).trans (z1n6 _ _ _)⟩
theorem z1yj(r:Rel)(hr:WS .rel r)(h:z18q r):zpl r=some (z4i (zfx r)):=z2ey (z2ez r hr h)
def z1n8:FnC Un:=fnF1 (dS .rel) fun r=>([z18q r],z4i (zfx r))
theorem z27e:FnOK 81 z1n8:=fnK1 zr (M:=z7o) rfl ⟨zm2,z2ba,zz0,z18m,trivial⟩ trivial trivial trivial trivial Tryz.func81 fun r=>GiF.r fun w o=>z1yj r (wfA_ w 0) (obA_ o 0)
end
end B
namespace B
open Go Go.RowKit
set_option maxRecDepth 100000
noncomputable section
attribute [local irreducible] awp ctxK zu z1a retQ z1m awf ctxF z1k
mutual
def tyT:Term→Prop
 | .mk op _ depth at_ _ kids sub _=>(op=2→0≤depth∧0≤at_)∧tyTs kids∧tyRs sub
def tyTs:List Term→Prop
 |[]=>True
 |t::l=>tyT t∧tyTs l
def tyA:Agg→Prop
 | .mk _ _ t=>tyTs t
def tyAs:List Agg→Prop
 |[]=>True
 |a::l=>tyA a∧tyAs l
def tyR:Rel→Prop
 | .mk op _ _ kids terms aggs _ _ _ _ _=>((op=9∨op=10∨op=11)→2≤kids.length)∧tyRs kids∧tyTs terms∧tyAs aggs
def tyRs:List Rel→Prop
 |[]=>True
 |r::l=>tyR r∧tyRs l
end
theorem z2f0(t:Term):tyT t↔((t.op=2→0≤t.depth∧0≤t.at_)∧tyTs t.kids∧tyRs t.sub):=by cases t;rfl
theorem z2f1(r:Rel):tyR r↔(((r.op=9∨r.op=10∨r.op=11)→2≤r.kids.length)∧tyRs r.kids∧tyTs r.terms∧tyAs r.aggs):=by cases r;rfl
theorem z2f2(a:Agg):tyA a↔tyTs a.t:=by cases a;rfl
theorem z13g:∀{l:List Term},tyTs l→∀t∈l,tyT t
 |x::l,h,t,ht=>by
  rcases yf.1 ht with rfl|ht
  ·exact h.1
  ·exact z13g h.2 t ht
theorem z1ib:∀{l:List Rel},tyRs l→∀t∈l,tyR t
 |x::l,h,t,ht=>by
  rcases yf.1 ht with rfl|ht
  ·exact h.1
  ·exact z1ib h.2 t ht
theorem z22o:∀{l:List Agg},tyAs l→∀a∈l,tyA a
 |x::l,h,t,ht=>by
  rcases yf.1 ht with rfl|ht
  ·exact h.1
  ·exact z22o h.2 t ht
noncomputable def endT(t:Term)(env:List (List Int))(l:List Int):Bool:=
 if t.op=1 then t.v.kind==0||t.v.kind==t.type
 else if t.op=2 then decide (t.depth<(env.length:Int))&&(decide (t.at_<((env.getD t.depth.toNat []).length:Int))&&(env.getD t.depth.toNat []).getD t.at_.toNat 0==t.type)
 else if t.op=24 then(znr t.name l).2 ==0&&(znr t.name l).1 ==t.type
 else if t.op=27 then t.type==1
 else if t.op=26 then(t.sub.length:Int)==1&&(((Rel.cols (t.sub.getD 0 za)).length:Int)==1&&((Rel.cols (t.sub.getD 0 za)).getD 0 ze8).type ==t.type)
 else if t.op=28 then(t.sub.length:Int)==1&&(((Rel.cols (t.sub.getD 0 za)).length:Int)==1&&((l.length:Int)==1&&((z5w (l.getD 0 0) ((Rel.cols (t.sub.getD 0 za)).getD 0 ze8).type).2 &&t.type==1)))
 else(z10v t.op l).2 ==0&&(z10v t.op l).1 ==t.type
noncomputable def endR(r:Rel):Bool:=(zfx r).2 &&zqp (zfx r).1 (z1e r.cols)
mutual
noncomputable def tydT:Term→List (List Int)→Bool
 | .mk op v depth at_ name kids sub type,env=>z1c0 kids env&&z1n9 sub env&&endT (.mk op v depth at_ name kids sub type) env (kids.map Term.type)
noncomputable def z1c0:List Term→List (List Int)→Bool
 |[],_=>true
 |t::l,env=>tydT t env&&z1c0 l env
noncomputable def tydA:Agg→List (List Int)→Bool
 | .mk _ _ t,env=>z1c0 t env
noncomputable def z205:List Agg→List (List Int)→Bool
 |[],_=>true
 |a::l,env=>tydA a env&&z205 l env
noncomputable def tydR:Rel→List (List Int)→Bool
 | .mk op table cols kids terms aggs keys limit skip all rows,env=>z1n9 kids env&&(rows.all (fun x=>z8p x cols)&&(z1c0 terms (z29 (.mk op table cols kids terms aggs keys limit skip all rows)::env)&&(z205 aggs (z29 (.mk op table cols kids terms aggs keys limit skip all rows)::env)&&endR (.mk op table cols kids terms aggs keys limit skip all rows))))
noncomputable def z1n9:List Rel→List (List Int)→Bool
 |[],_=>true
 |r::l,env=>tydR r env&&z1n9 l env
end
theorem zwv(env:List (List Int)):∀l:List Term,z1c0 l env=l.all fun t=>tydT t env
 |[]=>rfl
 |t::l=>by simp only[z1c0,y1g,zwv env l]
theorem z18s(env:List (List Int)):∀l:List Rel,z1n9 l env=l.all fun t=>tydR t env
 |[]=>rfl
 |t::l=>by simp only[z1n9,y1g,z18s env l]
theorem z1vx(env:List (List Int)):∀l:List Agg,z205 l env=l.all fun a=>a.t.all fun t=>tydT t env
 |[]=>rfl
 | .mk _ _ t::l=>by simp only[z205,tydA,y1g,z1vx env l,zwv,Agg.t_mk]
theorem z2kw(t:Term)(env:List (List Int)):tydT t env=(t.kids.all (fun k=>tydT k env)&&t.sub.all (fun k=>tydR k env)&&endT t env (t.kids.map Term.type)):=by cases t;simp only[tydT,zwv,z18s,Term.kids_mk,Term.sub_mk]
theorem z2kx(r:Rel)(env:List (List Int)):tydR r env=(r.kids.all (fun k=>tydR k env)&&(r.rows.all (fun x=>z8p x r.cols)&&(r.terms.all (fun t=>tydT t (z29 r::env))&&(r.aggs.all (fun a=>a.t.all fun t=>tydT t (z29 r::env))&&endR r)))):=by
 cases r;simp only[tydR,zwv,z18s,z1vx,Rel.kids_mk,Rel.terms_mk,Rel.aggs_mk,Rel.rows_mk,Rel.cols_mk]
noncomputable def zb9(t:Term)(env:List (List Int)):Bool:=tydT t env
noncomputable def z9a(r:Rel)(env:List (List Int)):Bool:=tydR r env
def zm7(m:Nat):FnC Un:=fnF2 (dS .term) (dL .ints) fun t env=>z2k (2*t.ht) m ([t.sz≤2000000,clT t≤2000000000,tyT t,env.length+t.ht≤8000000],z91 (zb9 t env))
def zm8(m:Nat):FnC Un:=fnF2 (dS .rel) (dL .ints) fun r env=>z2k (2*r.ht+1) m ([r.sz≤2000000,clR r≤2000000000,tyR r,env.length+r.ht≤8000000],z91 (z9a r env))
def zem(m:Nat):Mc Un:=mcF_ [(24,zm7 m),(42,zm8 m),(60,z1n0),(61,zt5),(62,z22j)] [] [] [] []
def zi7:Nat→NS:=nsF_ [(3,{ts:=bl 198 118,bs:=bl 198 4,nm:=[(.sl 5,792)],cs:=true}),(9,{ts:=bl 198 182,bs:=bl 198 4,nm:=[(.sl 5,793)],cs:=true})] true
def z80(t:Term)(env:List (List Int))(v0:Int)(v1:List Int):S Un:=(st 198 198 794 0 [(1,al .ints env),(2,ax 2),(4,ab false),(5,ao 792),(6,ai v0)] [(2,bg .term t)] [(792,some ⟨(0:Nat),Ty.int,v1,some (0:Nat),true⟩)])
def z6m(t:Term)(env:List (List Int))(v1:List Int)(v2:Int):S Un:=(st 198 198 794 0 [(1,al .ints env),(2,ax 2),(4,ab false),(5,ao 793),(7,ai v2)] [(2,bg .term t)] [(793,some ⟨(0:Nat),Ty.int,v1,some (0:Nat),true⟩)])
def zm9(m:Nat):S Un→Option (EX Un):=lpF_ (zem m) zi7 Tryz.f24 [1,1,0,1,2,2] 3
def zma(m:Nat):S Un→Option (EX Un):=lpF_ (zem m) zi7 Tryz.f24 [1,1,1,0,1,2,2] 9
def zmb(m:Nat):Exit→S Un→Option (RF Un):=cxF_ (zem m) zi7 Tryz.f24 [1,1,0,1,2] [.d]
def zfy(m:Nat):Exit→S Un→Option (RF Un):=cxF_ (zem m) zi7 Tryz.f24 [1,1,1,0,1,2] [.d]
def z18t(m:Nat)(t:Term)(env:List (List Int)):Option (RF Un):=fnF_ (zem m) zi7 Tryz.f24 2 [.d] [.d (.agg (enc Ty.term t)),.d (.v (.dat (U:=Un) Ty.ints env))]
theorem z22p(m:Nat)(t:Term)(env:List (List Int)):z18t m t env=(zm9 m (z80 t env (0:Int) ([]))).bind (zd (zmb m)):=by kernel_rfl
theorem z18u(m:Nat)(t:Term)(env:List (List Int))(v0:Int)(v1:List Int):zm9 m (z80 t env v0 v1)=cndO (decide (v0<(↑t.kids.length:Int))) (obO (0≤v0∧v0<(↑t.kids.length:Int)) (obO ((2:Nat)*(Term.ids (t.kids.getD v0.toNat zb)).ht<m) (obO ((Term.ids (t.kids.getD v0.toNat zb)).sz≤(2000000:Nat)) (obO (clT (Term.ids (t.kids.getD v0.toNat zb))≤(2000000000:Nat)) (obO (tyT (Term.ids (t.kids.getD v0.toNat zb))) (obO (env.length+(Term.ids (t.kids.getD v0.toNat zb)).ht≤(8000000:Nat)) (cndO (!zb9 (Term.ids (t.kids.getD v0.toNat zb)) env) (some (.ret,(z80 t env v0 v1))) (obO (0≤v0∧v0<(↑t.kids.length:Int)) (obO ((v1.length+[Term.type (t.kids.getD v0.toNat zb)].length)*(8:Nat)≤zh) (zm9 m (z80 t env (IntKind.i64.wrap (v0+1)) (v1++[Term.type (t.kids.getD v0.toNat zb)])))))))))))) (some (.exit 0,(z80 t env v0 v1))):=lpQ_ (by kernel_rfl)
theorem z1ic(m:Nat)(t:Term)(env:List (List Int))(v0:Int)(v1:List Int):zmb m .ret (z80 t env v0 v1)=some (z91 (false)):=by kernel_rfl
theorem z1na(m:Nat)(t:Term)(env:List (List Int))(v0:Int)(v1:List Int):zmb m (.exit 0) (z80 t env v0 v1)=(zma m (z6m t env v1 (0:Int))).bind (zd (zfy m)):=by kernel_rfl
theorem z18v(m:Nat)(t:Term)(env:List (List Int))(v1:List Int)(v2:Int):zma m (z6m t env v1 v2)=cndO (decide (v2<(↑t.sub.length:Int))) (obO (0≤v2∧v2<(↑t.sub.length:Int)) (obO ((2:Nat)*(Rel.ids (t.sub.getD v2.toNat za)).ht+(1:Nat)<m) (obO ((Rel.ids (t.sub.getD v2.toNat za)).sz≤(2000000:Nat)) (obO (clR (Rel.ids (t.sub.getD v2.toNat za))≤(2000000000:Nat)) (obO (tyR (Rel.ids (t.sub.getD v2.toNat za))) (obO (env.length+(Rel.ids (t.sub.getD v2.toNat za)).ht≤(8000000:Nat)) (cndO (!z9a (Rel.ids (t.sub.getD v2.toNat za)) env) (some (.ret,(z6m t env v1 v2))) (zma m (z6m t env v1 (IntKind.i64.wrap (v2+1))))))))))) (some (.exit 2,(z6m t env v1 v2))):=lpQ_ (by kernel_rfl)
theorem z1id(m:Nat)(t:Term)(env:List (List Int))(v1:List Int)(v2:Int):zfy m .ret (z6m t env v1 v2)=some (z91 (false)):=by kernel_rfl
theorem z1nb(m:Nat)(t:Term)(env:List (List Int))(v1:List Int)(v2:Int):zfy m (.exit 2) (z6m t env v1 v2)=cndO (t.op==1) (cndO (t.v.kind==0) (some (z91 (true))) (some (z91 (t.v.kind==t.type)))) (cndO (t.op==2) (cndO (decide (t.depth<(↑env.length:Int))) (obO (0≤t.depth∧t.depth<(↑env.length:Int)) (cndO (decide (t.at_<(↑(List.length (env.getD t.depth.toNat [])):Int))) (obO (0≤t.depth∧t.depth<(↑env.length:Int)) (obO (0≤t.at_∧t.at_<(↑(List.length (env.getD t.depth.toNat [])):Int)) (some (z91 (List.getD (env.getD t.depth.toNat []) t.at_.toNat (0:Int)==t.type))))) (some (z91 (false))))) (some (z91 (false)))) (cndO (t.op==24) (cndO ((znr t.name v1).snd ==0) (some (z91 ((znr t.name v1).fst ==t.type))) (some (z91 (false)))) (cndO (t.op==27) (some (z91 (t.type==1))) (cndO (t.op==26) (cndO ((↑t.sub.length:Int)==(1:Int)) (obO ((0:Int)≤(0:Int)∧(0:Int)<(↑t.sub.length:Int)) (cndO ((↑(Rel.cols (t.sub.getD 0 za)).length:Int)==(1:Int)) (obO ((0:Int)≤(0:Int)∧(0:Int)<(↑t.sub.length:Int)) (obO ((0:Int)≤(0:Int)∧(0:Int)<(↑(Rel.cols (t.sub.getD 0 za)).length:Int)) (some (z91 (((Rel.cols (t.sub.getD 0 za)).getD 0 ze8).type ==t.type))))) (some (z91 (false))))) (some (z91 (false)))) (cndO (t.op==28) (cndO ((↑t.sub.length:Int) !=(1:Int)) (some (z91 (false))) (obO ((0:Int)≤(0:Int)∧(0:Int)<(↑t.sub.length:Int)) (cndO ((↑(Rel.cols (t.sub.getD 0 za)).length:Int) !=(1:Int)) (some (z91 (false))) (cndO ((↑v1.length:Int) !=(1:Int)) (some (z91 (false))) (obO ((0:Int)≤(0:Int)∧(0:Int)<(↑v1.length:Int)) (obO ((0:Int)≤(0:Int)∧(0:Int)<(↑t.sub.length:Int)) (obO ((0:Int)≤(0:Int)∧(0:Int)<(↑(Rel.cols (t.sub.getD 0 za)).length:Int)) (cndO ((z5w (v1.getD 0 (0:Int)) ((Rel.cols (t.sub.getD 0 za)).getD 0 ze8).type).snd) (some (z91 (t.type==1))) (some (z91 (false))))))))))) (obO (v1.length≤(2000000:Nat)) (cndO ((z10v t.op v1).snd ==0) (some (z91 ((z10v t.op v1).fst ==t.type))) (some (z91 (false)))))))))):=by kernel_rfl
theorem z18w{α β:Type}{L:S Un→Option (EX Un)}{st:Int→S Un}{C:Exit→S Un→Option β}(R:Bool→Option β){l:List α}{d:α}{e:Exit}(q:α→Bool)(hl:l.length≤9223372036854775807)
  (step:∀(i:Nat)(x:α),(i:Int)<(l.length:Int)→l.getD i d=x→x∈l→L (st i)=if q x=true then L (st (IntKind.i64.wrap ((i:Int)+1)))else some (.ret,st i))
  (stop:L (st (l.length:Int))=some (e,st (l.length:Int)))(r1:∀i:Int,C .ret (st i)=R false)(r2:C e (st (l.length:Int))=R true):(L (st 0)).bind (zd C)=R (l.all q):=by
 have key:∀(k i:Nat),i+k=l.length→(L (st i)).bind (zd C)=R ((l.drop i).all q):=by
  intro k
  induction k with
  |zero=>
   intro i hi;obtain rfl:i=l.length:=by omega
   rw[stop,y3o];exact r2
  |succ k ih=>
   intro i hi;have hlt:i<l.length:=by omega
   rw[step i l[i] (by omega) (by rw[ye,y9 hlt];rfl) (y1z hlt),y1m hlt,y1g];cases hq:q l[i]
   ·rw[if_neg (by decide)];exact r1 _
   ·rw[if_pos rfl,z1p (by omega),y1c];exact ih (i+1) (by omega)
 exact key l.length 0 (by omega)
theorem z9s{R:Bool→RF Un}{a x:Bool}{X:Option (RF Un)}(h:a=true→X=some (R x)):cndO a X (some (R false))=some (R (a&&x)):=by
 cases a
 ·rfl
 ·exact h rfl
theorem z2mo{R:Bool→RF Un}{a x:Bool}{X:Option (RF Un)}(h:a=false→X=some (R x)):cndO a (some (R true)) X=some (R (a||x)):=by
 cases a
 ·exact h rfl
 ·rfl
theorem z13h{R:Bool→RF Un}{a b x:Bool}{X:Option (RF Un)}(e:a=!b)(h:b=true→X=some (R x)):cndO a (some (R false)) X=some (R (b&&x)):=by
 subst e;cases b
 ·rfl
 ·exact h rfl
theorem z10w{R:Bool→RF Un}{a:Bool}{p:Prop}[Decidable p]{x y:Bool}{X Y:Option (RF Un)}(e:(a=true)↔p)(hx:p→X=some (R x))(hy:Y=some (R y)):cndO a X Y=some (R (if p then x else y)):=by
 cases a
 ·rw[if_neg (fun c=>Bool.false_ne_true (e.2 c))];exact hy
 ·rw[if_pos (e.1 rfl)];exact hx (e.1 rfl)
theorem z2ky(m:Nat)(t:Term)(env:List (List Int))(l:List Int)(i:Int)(h:l.length≤2000000)(hy:t.op=2→0≤t.depth∧0≤t.at_):zfy m (.exit 2) (z6m t env l i)=some (z91 (endT t env l)):=by
 rw[z1nb];unfold endT;have q:∀k:Int,((t.op==k)=true)↔t.op=k:=fun k=>beq_iff_eq;refine z10w (q 1) (fun _=>z2mo fun _=>rfl) (z10w (q 2) (fun c=>?_) (z10w (q 24) (fun _=>z9s fun _=>rfl) (z10w (q 27) (fun _=>rfl) (z10w (q 26) (fun _=>z9s fun c=>?_) (z10w (q 28) (fun _=>z13h rfl fun c=>?_) ?_)))))
 ·refine z9s fun c1=>?_;rw[decide_eq_true_eq]at c1;rw[z6 ⟨(hy c).1,c1⟩];refine z9s fun c2=>?_;rw[decide_eq_true_eq]at c2;rw[z6 ⟨(hy c).1,c1⟩,z6 ⟨(hy c).2,c2⟩]
 ·rw[beq_iff_eq]at c;rw[z6 (by omega)];refine z9s fun c2=>?_;rw[beq_iff_eq]at c2;rw[z6 (by omega),z6 (by omega)]
 ·rw[beq_iff_eq]at c;rw[z6 (by omega)];refine z13h rfl fun c2=>z13h rfl fun c3=>?_;rw[beq_iff_eq]at c2 c3;rw[z6 (by omega),z6 (by omega),z6 (by omega)];exact z9s fun _=>rfl
 ·rw[z6 h];exact z9s fun _=>rfl
theorem z1sj(m:Nat)(t:Term)(env:List (List Int))(ht:WS .term t)(_he:WL .ints env)(hm:2*t.ht<m+1)(h:t.sz≤2000000)(hc:clT t≤2000000000)(hy:tyT t)(hl:env.length+t.ht≤8000000):z18t m t env=some (z91 (zb9 t env)):=by
 obtain⟨y1,y2,y3⟩:=(z2f0 t).1 hy;have c0:=z22n t;have h3:=t.sz_eq;have hkl:=z5v t.kids
 have l2:=z18w (L:=zma m) (st:=fun i=>z6m t env (t.kids.map Term.type) i) (C:=zfy m) (e:=.exit 2) (fun b=>some (z91 (b&&endT t env (t.kids.map Term.type)))) (l:=t.sub) (d:=za) (fun r=>tydR r env) (ht.term_sub).len
  (fun i k hi hk hmem=>by
   have h1:=Term.ht_sub hmem;have h2:=zld hmem;have h4:=zft hmem;rw[z18v];simp only[z8,hi,decide_true,if_true,and_true,y5,hk,Rel.ids_eq];rw[z6 (by omega),z6 (by omega),z6 (by omega),z6 (by omega),z6 (z1ib y3 k hmem),z6 (by omega)];unfold z9a
   cases tydR k env<;>rfl)
  (by rw[z18v];simp[z8]) (fun i=>by rw[y1q];exact z1id _ _ _ _ _)
  (by rw[y1c];exact z2ky m t env _ _ (by rw[yz];omega) y1)
 rw[z22p,zb9,z2kw,y3n]
 exact z18w (L:=zm9 m) (st:=fun i=>z80 t env i ((t.kids.take i.toNat).map Term.type)) (C:=zmb m) (e:=.exit 0) (fun b=>some (z91 (b&&(t.sub.all (fun r=>tydR r env)&&endT t env (t.kids.map Term.type))))) (l:=t.kids) (d:=zb) (fun t=>tydT t env) (ht.term_kids).len
  (fun i k hi hk hmem=>by
   have h1:=Term.ht_kid hmem;have h2:=zlc hmem;have h4:=zjy hmem;have hil:i<t.kids.length:=by omega
   have e:(t.kids.take (i+1)).map Term.type=(t.kids.take i).map Term.type++[k.type]:=by
    rw[y3p,y4a,←hk,ye,y9 hil];rfl
   rw[z18u,z3e hil (ht.term_kids).len];simp only[z8,hi,decide_true,if_true,and_true,y5,hk,Term.ids_eq];rw[z6 (by omega),z6 (by omega),z6 (by omega),z6 (by omega),z6 (z13g y2 k hmem),z6 (by omega),z6 (by omega),z6 (by unfold zh;rw[yz,yu,yg];omega),←e];unfold zb9
   cases tydT k env<;>rfl)
  (by rw[z18u];simp[z8]) (fun i=>by rw[y1q];exact z1ic _ _ _ _ _) (by
   rw[y1c,z1na,y5,y3i]
   exact l2)
abbrev z1ie(m:Nat):Prop:=FnOK 24 (zm7 m)∧FnOK 42 (zm8 m)
theorem z1yk(m:Nat)(hG:z1ie m):FnOK 24 (zm7 (m+1)):=fnK2 zr zx (M:=(zem m)) rfl ⟨hG.1,hG.2,z27b,zz0,z2ev,trivial⟩ trivial trivial trivial trivial Tryz.func24 fun t env=>GiF.r fun w o=>z1sj m t env (wfA_ w 0) (wfA_ w 1) (obA_ o 0) (obA_ o 1) (obA_ o 2) (obA_ o 3) (obA_ o 4)
def z4z(m:Nat):Mc Un:=mcF_ [(42,zm8 m),(79,z1i1),(80,zz9),(24,zm7 m),(81,z1n8),(25,zek),(31,zpi)] [] [] [] []
def z3s:Nat→NS:=nsF_ [(2,{ts:=bl 107 54,bs:=bl 107 4,nm:=[],cs:=true}),(7,{ts:=bl 107 86,bs:=bl 107 4,nm:=[],cs:=true}),(13,{ts:=bl 107 404,bs:=bl 107 4,nm:=[(.sl 7,428)],cs:=true}),(18,{ts:=bl 107 660,bs:=bl 107 4,nm:=[(.sl 7,429)],cs:=true}),(21,{ts:=bl 107 1684,bs:=bl 107 4,nm:=[(.sl 7,430)],cs:=true})] true
def zmc(r:Rel):=zfx (Rel.mk r.op r.table r.cols r.kids r.terms r.aggs r.keys r.limit r.skip r.all r.rows)
def z81(r:Rel)(env:List (List Int))(v0:Int):S Un:=(st 107 107 431 0 [(1,al .ints env),(2,ax 2),(4,ab false),(5,ai v0)] [(2,bg .rel r)] [])
def z82(r:Rel)(env:List (List Int))(v1:Int):S Un:=(st 107 107 431 0 [(1,al .ints env),(2,ax 2),(4,ab false),(6,ai v1)] [(2,bg .rel r)] [])
def z6y(r:Rel)(env:List (List Int))(v2:Int):S Un:=(st 107 107 431 0 [(2,ax 2),(4,ab false),(7,ao 428),(8,ai v2)] [(2,bg .rel r)] [(428,some ⟨(0:Nat),Ty.ints,z29 (Rel.ids r)::env,some (0:Nat),true⟩)])
def z50(r:Rel)(env:List (List Int))(v3:Int):S Un:=(st 107 107 431 0 [(2,ax 2),(4,ab false),(7,ao 429),(9,ai v3)] [(2,bg .rel r)] [(429,some ⟨(0:Nat),Ty.ints,z29 (Rel.ids r)::env,some (0:Nat),true⟩)])
def z6z(r:Rel)(env:List (List Int))(v3:Int)(v4:Int):S Un:=(st 107 107 431 0 [(2,ax 2),(4,ab false),(7,ao 430),(9,ai v3),(10,ai v4)] [(2,bg .rel r)] [(430,some ⟨(0:Nat),Ty.ints,z29 (Rel.ids r)::env,some (0:Nat),true⟩)])
def zmd(m:Nat):S Un→Option (EX Un):=lpF_ (z4z m) z3s Tryz.f42 [1,0,1,2,2] 2
def zme(m:Nat):S Un→Option (EX Un):=lpF_ (z4z m) z3s Tryz.f42 [1,1,0,1,2,2] 7
def zj1(m:Nat):S Un→Option (EX Un):=lpF_ (z4z m) z3s Tryz.f42 [1,1,1,1,0,1,2,2] 13
def zau(m:Nat):S Un→Option (EX Un):=lpF_ (z4z m) z3s Tryz.f42 [1,1,1,1,1,0,1,2,2] 18
noncomputable def z154:Code:=sub (sub (ze Tryz.f42) [1,1,1,1,1,0,1,2,2]) [1,0,2,1,2,2]
def zj2(m:Nat):S Un→Option (EX Un):=z1k (z3s 21) (fun s Q=>awf (z4z m) z3s z154 s Q)
def zmf(m:Nat):Exit→S Un→Option (RF Un):=cxF_ (z4z m) z3s Tryz.f42 [1,0,1,2] [.d]
def zmg(m:Nat):Exit→S Un→Option (RF Un):=cxF_ (z4z m) z3s Tryz.f42 [1,1,0,1,2] [.d]
def zj3(m:Nat):Exit→S Un→Option (RF Un):=cxF_ (z4z m) z3s Tryz.f42 [1,1,1,1,0,1,2] [.d]
def zj4(m:Nat):Exit→S Un→Option (RF Un):=cxF_ (z4z m) z3s Tryz.f42 [1,1,1,1,1,0,1,2] [.d]
def zj5(m:Nat):Exit→S Un→Option (EX Un):=ctxF (z4z m) z3s (sub (ze Tryz.f42) [1,1,1,1,1,0,1,2,2]) [1,0,2,1,2] (zc4 (z3s 18) (zau m))
def z18x(m:Nat)(r:Rel)(env:List (List Int)):Option (RF Un):=fnF_ (z4z m) z3s Tryz.f42 3 [.d] [.d (.agg (enc Ty.rel r)),.d (.v (.dat (U:=Un) Ty.ints env))]
theorem z22q(m:Nat)(r:Rel)(env:List (List Int)):z18x m r env=(zmd m (z81 r env (0:Int))).bind (zd (zmf m)):=by kernel_rfl
theorem z18y(m:Nat)(r:Rel)(env:List (List Int))(v0:Int):zmd m (z81 r env v0)=cndO (decide (v0<(↑r.kids.length:Int))) (obO (0≤v0∧v0<(↑r.kids.length:Int)) (obO ((2:Nat)*(Rel.ids (r.kids.getD v0.toNat za)).ht+(1:Nat)<m) (obO ((Rel.ids (r.kids.getD v0.toNat za)).sz≤(2000000:Nat)) (obO (clR (Rel.ids (r.kids.getD v0.toNat za))≤(2000000000:Nat)) (obO (tyR (Rel.ids (r.kids.getD v0.toNat za))) (obO (env.length+(Rel.ids (r.kids.getD v0.toNat za)).ht≤(8000000:Nat)) (cndO (!z9a (Rel.ids (r.kids.getD v0.toNat za)) env) (some (.ret,(z81 r env v0))) (zmd m (z81 r env (IntKind.i64.wrap (v0+1))))))))))) (some (.exit 0,(z81 r env v0))):=lpQ_ (by kernel_rfl)
theorem z1if(m:Nat)(r:Rel)(env:List (List Int))(v0:Int):zmf m .ret (z81 r env v0)=some (z91 (false)):=by kernel_rfl
theorem z1nc(m:Nat)(r:Rel)(env:List (List Int))(v0:Int):zmf m (.exit 0) (z81 r env v0)=(zme m (z82 r env (0:Int))).bind (zd (zmg m)):=by kernel_rfl
theorem z18z(m:Nat)(r:Rel)(env:List (List Int))(v1:Int):zme m (z82 r env v1)=cndO (decide (v1<(↑r.rows.length:Int))) (obO (0≤v1∧v1<(↑r.rows.length:Int)) (cndO (!z8p (r.rows.getD v1.toNat []) r.cols) (some (.ret,(z82 r env v1))) (zme m (z82 r env (IntKind.i64.wrap (v1+1)))))) (some (.exit 2,(z82 r env v1))):=lpQ_ (by kernel_rfl)
theorem z1ig(m:Nat)(r:Rel)(env:List (List Int))(v1:Int):zmg m .ret (z82 r env v1)=some (z91 (false)):=by kernel_rfl
theorem z1nd(m:Nat)(r:Rel)(env:List (List Int))(v1:Int):zmg m (.exit 2) (z82 r env v1)=obO (clR (Rel.ids r)≤(2000000000:Nat)) (obO (([z29 (Rel.ids r)].length+env.length)*(24:Nat)≤zh) ((zj1 m (z6y r env (0:Int))).bind (zd (zj3 m)))):=by kernel_rfl
theorem z155(m:Nat)(r:Rel)(env:List (List Int))(v2:Int):zj1 m (z6y r env v2)=cndO (decide (v2<(↑r.terms.length:Int))) (obO (0≤v2∧v2<(↑r.terms.length:Int)) (obO ((2:Nat)*(Term.ids (r.terms.getD v2.toNat zb)).ht<m) (obO ((Term.ids (r.terms.getD v2.toNat zb)).sz≤(2000000:Nat)) (obO (clT (Term.ids (r.terms.getD v2.toNat zb))≤(2000000000:Nat)) (obO (tyT (Term.ids (r.terms.getD v2.toNat zb))) (obO ((z29 (Rel.ids r)::env).length+(Term.ids (r.terms.getD v2.toNat zb)).ht≤(8000000:Nat)) (cndO (!zb9 (Term.ids (r.terms.getD v2.toNat zb)) (z29 (Rel.ids r)::env)) (some (.ret,(z6y r env v2))) (zj1 m (z6y r env (IntKind.i64.wrap (v2+1))))))))))) (some (.exit 4,(z6y r env v2))):=lpQ_ (by kernel_rfl)
theorem z1cr(m:Nat)(r:Rel)(env:List (List Int))(v2:Int):zj3 m .ret (z6y r env v2)=some (z91 (false)):=by kernel_rfl
theorem z1ih(m:Nat)(r:Rel)(env:List (List Int))(v2:Int):zj3 m (.exit 4) (z6y r env v2)=(zau m (z50 r env (0:Int))).bind (zd (zj4 m)):=by kernel_rfl
theorem z156(m:Nat)(r:Rel)(env:List (List Int))(v3:Int):zau m (z50 r env v3)=cndO (decide (v3<(↑r.aggs.length:Int))) ((zj2 m (z6z r env v3 (0:Int))).bind (zd (zj5 m))) (some (.exit 6,(z50 r env v3))):=lpQ_ (by kernel_rfl)
theorem z1ii(m:Nat)(r:Rel)(env:List (List Int))(v3:Int):zj4 m (.exit 6) (z50 r env v3)=obO (z18q (Rel.ids r)) (cndO ((zmc r).snd) (obO (r.cols.length≤(2000000000:Nat)) (some (z91 (zqp (zmc r).fst (z1e r.cols))))) (some (z91 (false)))):=by kernel_rfl
theorem z157(m:Nat)(r:Rel)(env:List (List Int))(v3:Int)(v4:Int):zj2 m (z6z r env v3 v4)=obO (0≤v3∧v3<(↑r.aggs.length:Int)) (cndO (decide (v4<(↑(Agg.t (r.aggs.getD v3.toNat zq)).length:Int))) (obO (0≤v3∧v3<(↑r.aggs.length:Int)) (obO (0≤v4∧v4<(↑(Agg.t (r.aggs.getD v3.toNat zq)).length:Int)) (obO ((2:Nat)*(Term.ids ((Agg.t (r.aggs.getD v3.toNat zq)).getD v4.toNat zb)).ht<m) (obO ((Term.ids ((Agg.t (r.aggs.getD v3.toNat zq)).getD v4.toNat zb)).sz≤(2000000:Nat)) (obO (clT (Term.ids ((Agg.t (r.aggs.getD v3.toNat zq)).getD v4.toNat zb))≤(2000000000:Nat)) (obO (tyT (Term.ids ((Agg.t (r.aggs.getD v3.toNat zq)).getD v4.toNat zb))) (obO ((z29 (Rel.ids r)::env).length+(Term.ids ((Agg.t (r.aggs.getD v3.toNat zq)).getD v4.toNat zb)).ht≤(8000000:Nat)) (cndO (!zb9 (Term.ids ((Agg.t (r.aggs.getD v3.toNat zq)).getD v4.toNat zb)) (z29 (Rel.ids r)::env)) (some (.ret,(z6z r env v3 v4))) (zj2 m (z6z r env v3 (IntKind.i64.wrap (v4+1)))))))))))) (some (.exit 8,(z6z r env v3 v4)))):=(zbk (z3s 21) z154 _).trans (by kernel_rfl)
theorem z1cs(m:Nat)(r:Rel)(env:List (List Int))(v3:Int)(v4:Int):zj5 m .ret (z6z r env v3 v4)=some (.ret,(z50 r env v3)):=by kernel_rfl
theorem z1ct(m:Nat)(r:Rel)(env:List (List Int))(v3:Int):zj4 m .ret (z50 r env v3)=some (z91 (false)):=by kernel_rfl
theorem z1ij(m:Nat)(r:Rel)(env:List (List Int))(v3:Int)(v4:Int):zj5 m (.exit 8) (z6z r env v3 v4)=zau m (z50 r env (IntKind.i64.wrap (v3+1))):=by kernel_rfl
theorem z1sk(m:Nat)(r:Rel)(env:List (List Int))(hr:WS .rel r)(_he:WL .ints env)(hm:2*r.ht+1<m+1)(h:r.sz≤2000000)(hc:clR r≤2000000000)(hy:tyR r)(hl:env.length+r.ht≤8000000):z18x m r env=some (z91 (z9a r env)):=by
 obtain⟨y1,y2,y3,y4⟩:=(z2f1 r).1 hy;obtain⟨p1,p2⟩:=zv0 r;have c0:=ze0 r;have h3:=r.sz_eq;have hcr:zmc r=zfx r:=by unfold zmc;exact congrArg zfx (by cases r;rfl)
 have l4:=z2t (L:=zau m) (st:=fun i=>z50 r env i) (C:=zj4 m) (e:=.exit 6) (fun b=>some (z91 (b&&endR r))) (l:=r.aggs) (d:=zq) (fun a=>a.t.all fun t=>tydT t (z29 r::env)) (hr.rel_aggs).len
  (fun i k hi hk hmem=>by
   have hka:=z1i8 hmem;rw[z2ew]at hka
   have li:=z2t (L:=zj2 m) (st:=fun j=>z6z r env i j) (C:=zj5 m) (e:=.exit 8) (fun b=>if b=true then zau m (z50 r env (IntKind.i64.wrap ((i:Int)+1)))else some (.ret,z50 r env i)) (l:=k.t) (d:=zb) (fun t=>tydT t (z29 r::env)) (by have:=z5v k.t;have:=znn hmem;have:=k.sz_eq;omega)
    (fun j t hj ht htm=>by
     obtain⟨h1,h2⟩:=p2 k hmem t htm;have h4:=zjy htm;rw[z157];simp only[hk,z8,hi,hj,decide_true,if_true,and_true,y5,ht,Term.ids_eq,Rel.ids_eq];rw[z6 (by omega),z6 (by omega),z6 (by omega),z6 (by omega),z6 (by omega),z6 (by omega),z6 (z13g ((z2f2 k).1 (z22o y4 k hmem)) t htm),z6 (by rw[yr];omega)];unfold zb9
     cases tydT t (z29 r::env)<;>rfl)
    (by rw[z157];simp only[z8,y5,hk,decide_eq_true_eq];rw[z6 (by omega),if_neg (by omega)]) (fun j=>z1cs _ _ _ _ _) (fun j=>z1ij _ _ _ _ _)
   rw[z156];simp only[z8,hi,decide_true,if_true]
   exact li)
  (by rw[z156];simp[z8]) (fun i=>by rw[y1q];exact z1ct _ _ _ _) (fun i=>by
   rw[y1c,z1ii,hcr,Rel.ids_eq,z6 (show z18q r from⟨y1,h,hc⟩),z6 (show r.cols.length≤2000000000 by omega)];unfold endR
   cases(zfx r).2<;>rfl)
 have l3:=z2t (L:=zj1 m) (st:=fun i=>z6y r env i) (C:=zj3 m) (e:=.exit 4) (fun b=>some (z91 (b&&(r.aggs.all (fun a=>a.t.all fun t=>tydT t (z29 r::env))&&endR r)))) (l:=r.terms) (d:=zb) (fun t=>tydT t (z29 r::env)) (hr.rel_terms).len
  (fun i k hi hk hmem=>by
   obtain⟨h1,h2⟩:=p1 k hmem;have h4:=zjy hmem;rw[z155];simp only[z8,hi,decide_true,if_true,and_true,y5,hk,Term.ids_eq,Rel.ids_eq];rw[z6 (by omega),z6 (by omega),z6 (by omega),z6 (by omega),z6 (z13g y3 k hmem),z6 (by rw[yr];omega)];unfold zb9
   cases tydT k (z29 r::env)<;>rfl)
  (by rw[z155];simp[z8]) (fun i=>by rw[y1q];exact z1cr _ _ _ _) (fun i=>by rw[y1c];exact(z1ih _ _ _ _).trans l4)
 have l2:=z2t (L:=zme m) (st:=fun i=>z82 r env i) (C:=zmg m) (e:=.exit 2) (fun b=>some (z91 (b&&(r.terms.all (fun t=>tydT t (z29 r::env))&&(r.aggs.all (fun a=>a.t.all fun t=>tydT t (z29 r::env))&&endR r))))) (l:=r.rows) (d:=[]) (fun x=>z8p x r.cols) (hr.rel_rows).len
  (fun i k hi hk hmem=>by
   rw[z18z];simp only[z8,hi,decide_true,if_true,and_true,y5,hk];rw[z6 (by omega)]
   cases z8p k r.cols<;>rfl)
  (by rw[z18z];simp[z8]) (fun i=>by rw[y1q];exact z1ig _ _ _ _) (fun i=>by
   rw[y1c,z1nd,Rel.ids_eq,z6 hc,z6 (by unfold zh;rw[yg];omega)]
   exact l3)
 rw[z22q,z9a,z2kx]
 exact z2t (L:=zmd m) (st:=fun i=>z81 r env i) (C:=zmf m) (e:=.exit 0) (fun b=>some (z91 (b&&(r.rows.all (fun x=>z8p x r.cols)&&(r.terms.all (fun t=>tydT t (z29 r::env))&&(r.aggs.all (fun a=>a.t.all fun t=>tydT t (z29 r::env))&&endR r)))))) (l:=r.kids) (d:=za) (fun t=>tydR t env) (hr.rel_kids).len
  (fun i k hi hk hmem=>by
   have h1:=Rel.ht_kid hmem;have h2:=z9m hmem;have h4:=zft hmem;rw[z18y];simp only[z8,hi,decide_true,if_true,and_true,y5,hk,Rel.ids_eq];rw[z6 (by omega),z6 (by omega),z6 (by omega),z6 (by omega),z6 (z1ib y2 k hmem),z6 (by omega)];unfold z9a
   cases tydR k env<;>rfl)
  (by rw[z18y];simp[z8]) (fun i=>by rw[y1q];exact z1if _ _ _ _) (fun i=>by rw[y1c];exact(z1nc _ _ _ _).trans l2)
theorem z1yl(m:Nat)(hG:z1ie m):FnOK 42 (zm8 (m+1)):=fnK2 zr zx (M:=(z4z m)) rfl ⟨hG.2,z1vt,z18m,hG.1,z27e,zm2,z18i,trivial⟩ trivial trivial trivial trivial Tryz.func42 fun r env=>GiF.r fun w o=>z1sk m r env (wfA_ w 0) (wfA_ w 1) (obA_ o 0) (obA_ o 1) (obA_ o 2) (obA_ o 3) (obA_ o 4)
theorem zv5:∀m,z1ie m
 |0=>⟨fnZ2,fnZ2⟩
 |m+1=>⟨z1yk m (zv5 m),z1yl m (zv5 m)⟩
def z1fb:FnC Un:=fnF2 (dS .rel) (dL .ints) fun r env=>([r.sz≤2000000,clR r≤2000000000,tyR r,env.length+r.ht≤8000000],z91 (z9a r env))
theorem z22r:FnOK 42 z1fb:=fnA2 fun m=>(zv5 m).2
end
end B
namespace B
open Go Go.RowKit
set_option maxRecDepth 100000
noncomputable section
attribute [local irreducible] awp ctxK zu z1a retQ z1m awf ctxF z1k
def z1fc:Mc Un:=mcF_ [(29,z17z)] [] [] [] []
def z190(r:Rel)(db:List Data):Option (RF Un):=fnF_ z1fc z26d Tryz.f22 0 [.d] [.d (.agg (enc Ty.rel r)),.d (.v (.dat (U:=Un) Ty.data db))]
theorem z22s(r:Rel)(db:List Data):z190 r db=obO ((Rel.ids r).sz≤(2000000:Nat)) (some (z91 (decide ((z7l (Rel.ids r) db).snd >20000)))):=by kernel_rfl
def zqq(r:Rel)(db:List Data):Bool:=decide ((z7l r db).2 >20000)
theorem z1sl(r:Rel)(db:List Data)(_hr:WS .rel r)(_hd:WL .data db)(h:r.sz≤2000000):z190 r db=some (z91 (zqq r db)):=by
 rw[z22s,Rel.ids_eq,z6 h];rfl
def z1fd:FnC Un:=fnF2 (dS .rel) (dL .data) fun r db=>([r.sz≤2000000],z91 (zqq r db))
theorem z22t:FnOK 22 z1fd:=fnK2 zr zx (M:=z1fc) rfl ⟨z1y5,trivial⟩ trivial trivial trivial trivial Tryz.func22 fun r db=>GiF.r fun w o=>z1sl r db (wfA_ w 0) (wfA_ w 1) (obA_ o 0)
def zen:Mc Un:=mcF_ [(40,z1ej),(28,z1mf),(33,z1vm),(41,z1mq),(42,z1fb),(22,z1fd)] [] [] [] []
def z9b:Nat→NS:=nsF_ [(5,{ts:=bl 84 118,bs:=bl 84 4,nm:=[],cs:=true}),(9,{ts:=bl 84 246,bs:=bl 84 4,nm:=[],cs:=true})] true
def z6n(r:Rel)(db:List Data)(v0:Int)(v1:Int):S Un:=(st 84 84 336 0 [(1,al .data db),(2,ax 2),(4,ab false),(5,ai v0),(6,ai v1)] [(2,bg .rel r)] [])
def z6o(r:Rel)(db:List Data)(v0:Int)(v1:Int)(v2:Int):S Un:=(st 84 84 336 0 [(1,al .data db),(2,ax 2),(4,ab false),(5,ai (IntKind.i64.wrap (v0+(↑(db.getD v1.toNat z37).rows.length:Int)))),(6,ai v1),(7,ai v2)] [(2,bg .rel r)] [])
def zdg(r:Rel)(db:List Data)(v0:Int)(v1:Int):S Un:=(st 84 84 336 0 [(1,al .data db),(2,ax 2),(4,ab false),(5,ai (IntKind.i64.wrap (v0+(↑(db.getD v1.toNat z37).rows.length:Int)))),(6,ai v1)] [(2,bg .rel r)] [])
def zcm:S Un→Option (EX Un):=lpF_ zen z9b Tryz.f11 [1,1,1,0,1,2,2] 5
noncomputable def z191:Code:=sub (sub (ze Tryz.f11) [1,1,1,0,1,2,2]) [1,0,2,1,1,2,2]
def zmh:S Un→Option (EX Un):=z1k (z9b 9) (fun s Q=>awf zen z9b z191 s Q)
def zfz:Exit→S Un→Option (RF Un):=cxF_ zen z9b Tryz.f11 [1,1,1,0,1,2] [.d]
def zmi:Exit→S Un→Option (EX Un):=ctxF zen z9b (sub (ze Tryz.f11) [1,1,1,0,1,2,2]) [1,0,2,1,1,2] (zc4 (z9b 5) zcm)
def z192(r:Rel)(db:List Data):Option (RF Un):=fnF_ zen z9b Tryz.f11 0 [.d] [.d (.agg (enc Ty.rel r)),.d (.v (.dat (U:=Un) Ty.data db))]
theorem z22u(r:Rel)(db:List Data):z192 r db=obO ((Rel.ids r).sz≤(2000000:Nat)) (cndO (decide (zd4 (Rel.ids r)>1000)) (some (z91 (false))) ((zcm (z6n r db (0:Int) (0:Int))).bind (zd zfz))):=by kernel_rfl
theorem z193(r:Rel)(db:List Data)(v0:Int)(v1:Int):zcm (z6n r db v0 v1)=cndO (decide (v1<(↑db.length:Int))) (cndO (decide (v1<5)) (obO (0≤v1∧v1<(↑db.length:Int)) ((zmh (z6o r db v0 v1 (0:Int))).bind (zd zmi))) (some (.exit 0,(z6n r db v0 v1)))) (some (.exit 0,(z6n r db v0 v1))):=lpQ_ (by kernel_rfl)
theorem z1ne(r:Rel)(db:List Data)(v0:Int)(v1:Int):zfz (.exit 0) (z6n r db v0 v1)=cndO (decide (v0≤12)) (cndO (decide ((↑db.length:Int)≤(4:Int))) (obO ((Rel.ids r).sz≤(2000000:Nat)) (cndO (decide (zfp (Rel.ids r)≤24)) (obO (z2m [] (Rel.ids r).ht) (cndO (z9k (Rel.ids r) []) (obO ((Rel.ids r).sz≤(2000000:Nat)) (cndO (zbt (Rel.ids r) db) (obO ((Rel.ids r).sz≤(2000000:Nat)) (obO (clR (Rel.ids r)≤(2000000000:Nat)) (obO (tyR (Rel.ids r)) (obO (0+(Rel.ids r).ht≤(8000000:Nat)) (cndO (z9a (Rel.ids r) []) (obO ((Rel.ids r).sz≤(2000000:Nat)) (some (z91 (!zqq (Rel.ids r) db)))) (some (z91 (false)))))))) (some (z91 (false))))) (some (z91 (false))))) (some (z91 (false))))) (some (z91 (false)))) (some (z91 (false))):=by kernel_rfl
theorem z194(r:Rel)(db:List Data)(v0:Int)(v1:Int)(v2:Int):zmh (z6o r db v0 v1 v2)=obO (0≤v1∧v1<(↑db.length:Int)) (cndO (decide (v2<(↑(db.getD v1.toNat z37).rows.length:Int))) (cndO (decide (v2<9)) (obO (0≤v1∧v1<(↑db.length:Int)) (obO (0≤v2∧v2<(↑(db.getD v1.toNat z37).rows.length:Int)) (cndO (decide ((↑(List.length ((db.getD v1.toNat z37).rows.getD v2.toNat [])):Int)>(6:Int))) (some (.ret,(z6o r db v0 v1 v2))) (zmh (z6o r db v0 v1 (IntKind.i64.wrap (v2+1))))))) (some (.exit 2,(z6o r db v0 v1 v2)))) (some (.exit 2,(z6o r db v0 v1 v2)))):=(zbk (z9b 9) z191 _).trans (by kernel_rfl)
theorem z1ik(r:Rel)(db:List Data)(v0:Int)(v1:Int)(v2:Int):zmi .ret (z6o r db v0 v1 v2)=some (.ret,(zdg r db v0 v1)):=by kernel_rfl
theorem z1il(r:Rel)(db:List Data)(v0:Int)(v1:Int):zfz .ret (zdg r db v0 v1)=some (z91 (false)):=by kernel_rfl
theorem z1nf(r:Rel)(db:List Data)(v0:Int)(v1:Int)(v2:Int):zmi (.exit 2) (z6o r db v0 v1 v2)=zcm (z6n r db (IntKind.i64.wrap (v0+(↑(db.getD v1.toNat z37).rows.length:Int))) (IntKind.i64.wrap (v1+1))):=by kernel_rfl
theorem z2f3{α β:Type}{L:S Un→Option (EX Un)}{st er:Int→S Un}{C:Exit→S Un→Option β}(R:Bool→Option β){l:List α}{d:α}{e:Exit}(q:α→Bool)(hl:l.length≤9223372036854775807)
  (step:∀(i:Nat)(x:α),(i:Int)<(l.length:Int)→l.getD i d=x→x∈l→L (st i)=if q x=true then L (st (IntKind.i64.wrap ((i:Int)+1)))else some (.ret,er i))
  (stop:L (st (l.length:Int))=some (e,st (l.length:Int)))(r1:∀i:Int,C .ret (er i)=R false)(r2:C e (st (l.length:Int))=R true):(L (st 0)).bind (zd C)=R (l.all q):=by
 have key:∀(k i:Nat),i+k=l.length→(L (st i)).bind (zd C)=R ((l.drop i).all q):=by
  intro k
  induction k with
  |zero=>
   intro i hi;obtain rfl:i=l.length:=by omega
   rw[stop,y3o];exact r2
  |succ k ih=>
   intro i hi;have hlt:i<l.length:=by omega
   rw[step i l[i] (by omega) (by grind) (y1z hlt),y1m hlt,y1g];cases hq:q l[i]
   ·exact r1 _
   ·rw[if_pos rfl,z1p (by omega),y1c];grind
 exact key l.length 0 (by omega)
theorem z1vy{α:Type}{l:List α}{n i:Nat}{d x:α}(h:(i:Int)<((l.take n).length:Int))(hx:(l.take n).getD i d=x):l.getD i d=x∧i<l.length∧i<n:=by
 grind
def sumD(n:Int)(d:Data):Int:=IntKind.i64.wrap (n+(d.rows.length:Int))
def z2bc(d:Data):Bool:=(d.rows.take 9).all fun x=>!decide ((x.length:Int)>6)
noncomputable def z195(r:Rel)(db:List Data)(n:Int):Bool:=decide (n≤12)&&(decide ((db.length:Int)≤4)&&(decide (zfp r≤24)&&(z9k r []&&(zbt r db&&(z9a r []&& !zqq r db)))))
noncomputable def zke(r:Rel)(db:List Data):Bool:=!decide (zd4 r>1000)&&((db.take 5).all z2bc&&z195 r db ((db.take 5).foldl sumD 0))
mutual
theorem z2bd:∀t:Term,t.ht≤t.sz
 | .mk op v depth at_ name kids sub type=>by
  have:=zpm kids;have:=z13i sub;simp only[Term.ht,Term.sz];omega
theorem zpm:∀l:List Term,htTs l≤szTs l
 |[]=>y7 _
 |t::l=>by
  have:=z2bd t;have:=zpm l;simp only[htTs,szTs];omega
theorem z2f4:∀a:Agg,a.ht≤a.sz
 | .mk name distinct t=>by
  have:=zpm t;simp only[Agg.ht,Agg.sz];omega
theorem z1ng:∀l:List Agg,htAs l≤szAs l
 |[]=>y7 _
 |t::l=>by
  have:=z2f4 t;have:=z1ng l;simp only[htAs,szAs];omega
theorem z196:∀r:Rel,r.ht≤r.sz
 | .mk op table cols kids terms aggs keys limit skip all rows=>by
  have:=z13i kids;have:=zpm terms;have:=z1ng aggs;simp only[Rel.ht,Rel.sz];omega
theorem z13i:∀l:List Rel,htRs l≤szRs l
 |[]=>y7 _
 |t::l=>by
  have:=z196 t;have:=z13i l;simp only[htRs,szRs];omega
end
theorem z5z{r:Rel}{env:List Int}(h:zl7 r env=true):((r.kids.length:Int)=z3q r.op∧0≤z3q r.op)∧(∀k∈r.kids,zl7 k env=true)∧(r.cols.length:Int)=z27 r∧(∀t∈r.terms,zdv t (z8v r::env)=true)∧(∀a∈r.aggs,∀t∈a.t,zdv t (z8v r::env)=true)∧zdx r env=true:=by
 rw[z21z,yn,yn,yn,zsr,y19]at h;obtain⟨⟨⟨h1,h2⟩,h4⟩,h3⟩:=h;unfold z10d at h1;simp at h1;obtain⟨⟨h5,h6⟩,h7⟩:=h1;refine⟨⟨h6,h5⟩,h2,by grind,?_,?_,h3⟩
 ·intro t ht;unfold z35 at h7;have e:r.op=3∨r.op=4∨r.op=5∨r.op=6∨r.op=7:=by
   grind
  grind[zdx,zed,zdv,z8v,List.all_eq_true]
 ·intro a ha t ht;unfold z35 at h7;have e:r.op=7:=by
   grind
  unfold zdx at h3;rw[if_neg (by omega),if_neg (by omega),if_neg (by omega),if_neg (by omega),if_neg (by omega),if_pos e,yn,z131]at h3;have q:=y19.1 h3.2 a ha;simp_all[z21y,yn,zed,y19]
theorem z13j{t:Term}{env:List Int}(h:zdv t env=true):zuv t env=true∧(∀k∈t.kids,zdv k env=true)∧(∀k∈t.sub,zl7 k env=true):=by
 rw[z1vl,yn,yn,zed,zsr,y19,y1h,yn,decide_eq_true_eq,y19]at h;have hs:(t.sub.length:Int)=zju t:=by
  simp_all[zuv,yn,decide_eq_true_eq]
 grind[List.length_pos_of_mem,zju]
theorem z2ig:∀(n:Nat),(∀(t:Term)(env:List Int),t.ht<n→zdv t env=true→tyT t)∧(∀(r:Rel)(env:List Int),r.ht<n→zl7 r env=true→tyR r):=by
 have ts:∀(l:List Term),(∀t∈l,tyT t)→tyTs l:=by
  intro l
  induction l with
  |nil=>intro _;trivial
  |cons t l ih=>intro h;exact⟨h t y10,ih fun x hx=>h x (y12 _ hx)⟩
 have rs:∀(l:List Rel),(∀t∈l,tyR t)→tyRs l:=by
  intro l
  induction l with
  |nil=>intro _;trivial
  |cons t l ih=>intro h;exact⟨h t y10,ih fun x hx=>h x (y12 _ hx)⟩
 have as_:∀(l:List Agg),(∀t∈l,tyA t)→tyAs l:=by
  intro l
  induction l with
  |nil=>intro _;trivial
  |cons t l ih=>intro h;exact⟨h t y10,ih fun x hx=>h x (y12 _ hx)⟩
 intro n
 induction n with
 |zero=>simp
 |succ n ih=>
  constructor
  ·intro t env hn h;obtain⟨h1,h2,h3⟩:=z13j h;refine(z2f0 t).2 ⟨fun c=>?_,ts _ fun k hk=>ih.1 k env (by have:=Term.ht_kid hk;omega) (h2 k hk),rs _ fun k hk=>ih.2 k env (by have:=Term.ht_sub hk;omega) (h3 k hk)⟩;unfold zuv ztt at h1;grind
  ·intro r env hn h;obtain⟨p1,p2⟩:=zv0 r;obtain⟨⟨h1,_⟩,h2,_,h3,h4,_⟩:=z5z h;refine(z2f1 r).2 ⟨fun c=>?_,rs _ fun k hk=>ih.2 k env (by have:=Rel.ht_kid hk;omega) (h2 k hk),ts _ fun t ht=>ih.1 t _ (by grind) (h3 t ht),as_ _ fun a ha=>(z2f2 a).2 (ts _ fun t ht=>ih.1 t _ (by grind) (h4 a ha t ht))⟩;grind[z3q]
theorem z2ih{r:Rel}{env:List Int}(h:zl7 r env=true):tyR r:=(z2ig (r.ht+1)).2 r env (y39 _) h
theorem z2be(r:Rel)(db:List Data)(n:Int)(i:Int)(h:r.sz≤2000000)(hh:r.ht≤2000000)(hc:clR r≤2000000000):zfz (.exit 0) (z6n r db n i)=some (z91 (z195 r db n)):=by
 rw[z1ne,Rel.ids_eq];refine z9s fun _=>z9s fun _=>?_;rw[z6 h];refine z9s fun _=>?_;rw[z6 (by grind[z2m,List.length_nil])];refine z9s fun c=>?_;rw[z6 h];refine z9s fun _=>?_;rw[z6 h,z6 hc,z6 (z2ih c),z6 (by omega)];refine z9s fun _=>?_;rw[z6 h]
theorem z1sm(r:Rel)(db:List Data)(_hr:WS .rel r)(hd:WL .data db)(h:r.sz≤2000000)(hc:clR r≤2000000000):z192 r db=some (z91 (zke r db)):=by
 have hh:=z196 r;have hlt:(db.take 5).length≤5:=by grind
 have key:=z2f3 (L:=zcm) (st:=fun i=>z6n r db (((db.take 5).take i.toNat).foldl sumD 0) i) (er:=fun i=>zdg r db (((db.take 5).take i.toNat).foldl sumD 0) i) (C:=zfz) (e:=.exit 0) (fun b=>some (z91 (b&&z195 r db ((db.take 5).foldl sumD 0)))) (l:=db.take 5) (d:=z37) z2bc (by omega)
  (fun i d hi hd hmem=>by
   obtain⟨g1,g2,g3⟩:=z1vy hi hd;have hil:i<(db.take 5).length:=by omega
   have e:((db.take 5).take (i+1)).foldl sumD 0=sumD (((db.take 5).take i).foldl sumD 0) d:=by
    rw[y3p,y2c,←hd,ye,y9 hil];rfl
   have li:=fun(n:Int)=>z18w (L:=zmh) (st:=fun j=>z6o r db n i j) (C:=zmi) (e:=.exit 2) (fun b=>if b=true then zcm (z6n r db (sumD n d) (IntKind.i64.wrap ((i:Int)+1)))else some (.ret,zdg r db n i)) (l:=d.rows.take 9) (d:=[]) (fun x=>!decide ((x.length:Int)>6)) (by grind)
    (fun j x hj hx _=>by
     obtain⟨f1,f2,f3⟩:=z1vy hj hx;rw[z194];simp only[g1,f1,y5];rw[z6 (by omega),z8,if_pos (by grind),z8,if_pos (by grind),z6 (by omega),z6 (by omega)]
     cases decide ((x.length:Int)>6)<;>rfl)
    (by
     rw[z194];simp only[g1,y5,z8,decide_eq_true_eq];rw[z6 (by omega),yu]
     grind)
    (fun j=>z1ik _ _ _ _ _) (by rw[z1nf,y5,g1];rfl)
   rw[z193,z3e hil (by omega)];simp;rw[z8,if_pos (by grind),z8,if_pos (by grind),z6 (by omega),e];refine(li _).trans ?_
   rw[z3e hil (by omega)];rfl)
  (by
   rw[z193];simp only[z8,decide_eq_true_eq,yu]
   grind)
  (fun i=>by simp[y1q,z1il])
  (by rw[y1c,y5,y3i];grind[z2be])
 rw[z22u,Rel.ids_eq,z6 h];refine(z13h (x:=(db.take 5).all z2bc&&z195 r db ((db.take 5).foldl sumD 0)) (by simp) fun _=>key)
def zze:FnC Un:=fnF2 (dS .rel) (dL .data) fun r db=>([r.sz≤2000000,clR r≤2000000000],z91 (zke r db))
theorem z22v:FnOK 11 zze:=fnK2 zr zx (M:=zen) rfl ⟨z228,z26w,z2az,z272,z22r,z22t,trivial⟩ trivial trivial trivial trivial Tryz.func11 fun r db=>GiF.r fun w o=>z1sm r db (wfA_ w 0) (wfA_ w 1) (obA_ o 0) (obA_ o 1)
end
end B
end Go.Proofs.YtjfpbchdcbhfgaaGreat
