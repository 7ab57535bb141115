/- Part 13 of the proof: Sscal3 Saggspec Sagg1 Lown Lclone. -/
import Derived.Shelf.SlicesE.Clone
import Derived.Test.YtjfpbchdcbhfgaaGreatNse12
set_option linter.unusedVariables false
set_option linter.unusedSimpArgs false
namespace Go.Proofs.YtjfpbchdcbhfgaaGreat
namespace B
open Go Go.RowKit
set_option maxRecDepth 100000
noncomputable section
attribute [local irreducible] awp ctxK zu z1a retQ z1m awf ctxF z1k
def z17(v:Val):Prop:=v.s.size≤2000000
mutual
def strT:Term→Prop
 | .mk _ v _ _ _ kids _ _=>v.s.size≤2000000∧ztb kids
def ztb:List Term→Prop
 |[]=>True
 |t::l=>strT t∧ztb l
end
theorem z1t1(t:Term):strT t↔(t.v.s.size≤2000000∧ztb t.kids):=by cases t;simp only[strT,Term.v_mk,Term.kids_mk]
theorem strTs_mem:∀{l:List Term},ztb l↔∀t∈l,strT t
 |[]=>by simp[ztb]
 |t::l=>by simp only[ztb,yf,forall_eq_or_imp,strTs_mem (l:=l)]
def z6q(env:List (List Val)):Prop:=∀r∈env,∀v∈r,z17 v
theorem z3h:z17 z7:=yb _
theorem zxl(n:Int):z17 (zf n):=yb _
theorem z1on(n:Int)(b:Bool):z17 (z4b n b):=by
 unfold z4b;split
 ·exact z3h
 ·exact zxl n
theorem z1oo(b:Bool):z17 (z2v b):=by rw[zx4];exact yb _
theorem zxm(a:Int):z17 (z62 a):=by
 unfold z62
 repeat' split
 all_goals exact yb _
theorem z2g4(op:Int)(a b:Val):z17 (cmpO op a b):=by
 unfold cmpO;split
 ·exact yb _
 ·exact z3h
theorem ztc{l:List Val}(h:∀x∈l,z17 x)(i:Nat):z17 (l.getD i z7):=by
 rw[ye];cases e:l[i]? with
 |none=>exact z3h
 |some v=>exact h v (yd e)
theorem z1fs:∀(l:List Val),(∀x∈l,z17 x)→z17 (zvl l)
 |[],_=>z3h
 |[x],h=>h x (by simp)
 |c::v::r,h=>by
  simp only[zvl];split
  ·exact h v (by simp)
  ·exact z1fs r fun x hx=>h x (by simp[hx])
theorem z1wr{c:Prop}[Decidable c]{a b:Val}(ha:c→z17 a)(hb:¬c→z17 b):z17 (if c then a else b):=by split<;>simp_all
theorem z23r(name:ByteArray){l:List Val}(h:∀x∈l,z17 x):z17 (z8k name l):=by
 have g:=ztc h;have gt:∀(x:Val) f b,z17 x→z17 (z9c (zmp x.s f b)):=fun x f b hx=>by
  show(zmp x.s f b).size≤2000000;rw[z13p];exact hx
 unfold z8k z23p z1c8 z1c7
 repeat' split
 all_goals first|exact z3h|exact g _|exact z1on _ _|exact zxl _|exact gt _ _ _ (g _)
theorem z1ft(op:Int)(name:ByteArray){l:List Val}(h:∀x∈l,z17 x):z17 (z1x op name l):=by
 have g:=ztc h;unfold z1x;split
 ·exact z3h
 unfold z1oj
 repeat' (first|refine z1wr (fun _=>?_) (fun _=>?_)|exact z3h|exact z1on _ _|exact z1oo _|exact z2g4 _ _ _|exact zxm _|(unfold z6a;exact zxm _)|(unfold zg3;exact zxm _)|exact z1fs l h|exact z23r name h)
 all_goals first
  |exact g _
  |(show(zmp _ _ _).size≤2000000;rw[z13p];exact g _)
  |(rename_i hs;show(_++_:ByteArray).size≤2000000;rw[ByteArray.size_append];omega)
theorem z2g5{env:List (List Val)}(h:z6q env)(d a:Int):z17 (colV d a env):=by
 unfold colV;split
 ·rename_i hc;have hm:env.getD d.toNat []∈env:=by
   rw[ye,y9 (by omega)];exact y1z _
  exact ztc (h _ hm) _
 ·exact z3h
mutual
theorem z1op{env:List (List Val)}(h:z6q env):∀t:Term,strT t→z17 (zxk z1x env t)
 | .mk op v depth at_ name kids _ _,ht=>by
  simp only[strT]at ht;simp only[zxk];split
  ·exact ht.1
  ·split
   ·exact z2g5 h _ _
   ·split
    ·exact z3h
    ·exact z1ft _ _ (zzi h kids ht.2)
theorem zzi{env:List (List Val)}(h:z6q env):∀l:List Term,ztb l→∀x∈zif z1x env l,z17 x
 |[],_=>by simp[zif]
 |t::l,ht=>by
  simp only[ztb]at ht;simp only[zif,yf,forall_eq_or_imp];exact⟨z1op h t ht.1,zzi h l ht.2⟩
end
def z52(t:Term)(env:List (List Val)):Val:=zxk z1x env t
def zo5(m:Nat):FnC Un:=fnF2 (dS .term) (dL .row) fun t env=>z2k (t.ht) m ([t.sz≤2000000,strT t,z6q env],zyh (z52 t env))
def zjd(m:Nat):Mc Un:=mcF_ [(117,zo5 m),(120,zo4)] [] [] [] []
def zrw:Nat→NS:=nsF_ [(14,{ts:=bl 81 32281802128991715382,bs:=bl 81 20,nm:=[(.sl 5,324)],cs:=true})] true
def z6r(t:Term)(env:List (List Val))(v0:Int)(v1:List Val):S Un:=(st 81 81 325 0 [(1,al .row env),(2,ax 2),(4,ax 4),(5,ao 324),(62,al .term t.kids),(63,ai (↑t.kids.length:Int)),(64,ai v0)] [(2,bg .term t),(4,bg .val z7)] [(324,some ⟨(0:Nat),Ty.val,v1,some (0:Nat),true⟩)])
def zbd(m:Nat):S Un→Option (EX Un):=lpF_ (zjd m) zrw Tryz.f117 [1,1,1,0,1,2,2] 14
def zmt(m:Nat):Exit→S Un→Option (RF Un):=cxF_ (zjd m) zrw Tryz.f117 [1,1,1,0,1,2] [.d]
def z11e(m:Nat)(t:Term)(env:List (List Val)):Option (RF Un):=fnF_ (zjd m) zrw Tryz.f117 1 [.d] [.d (.agg (enc Ty.term t)),.d (.v (.dat (U:=Un) Ty.row env))]
theorem z1t2(m:Nat)(t:Term)(env:List (List Val)):z11e m t env=cndO (t.op==1) (some (zyh (t.v))) (cndO (t.op==2) (cndO (decide (t.depth≥0)) (cndO (decide (t.depth<(↑env.length:Int))) (cndO (decide (t.at_≥0)) (obO (0≤t.depth∧t.depth<(↑env.length:Int)) (cndO (decide (t.at_<(↑(List.length (env.getD t.depth.toNat [])):Int))) (obO (0≤t.depth∧t.depth<(↑env.length:Int)) (obO (0≤t.at_∧t.at_<(↑(List.length (env.getD t.depth.toNat [])):Int)) (some (zyh (List.getD (env.getD t.depth.toNat []) t.at_.toNat z7))))) (some (zyh (z7))))) (some (zyh (z7)))) (some (zyh (z7)))) (some (zyh (z7)))) (cndO (t.op==26) (some (zyh (z7))) (cndO (t.op==27) (some (zyh (z7))) (cndO (t.op==28) (some (zyh (z7))) (obO ((0:Int)≤(0:Int)∧(0:Int)≤(↑t.kids.length:Int)∧(↑t.kids.length:Int).toNat*(32:Nat)≤zh) ((zbd m (z6r t env (0:Int) ([]))).bind (zd (zmt m)))))))):=by kernel_rfl
theorem zxn(m:Nat)(t:Term)(env:List (List Val))(v0:Int)(v1:List Val):zbd m (z6r t env v0 v1)=cndO (decide (v0<(↑t.kids.length:Int))) (obO (0≤v0∧v0<(↑t.kids.length:Int)) (obO ((Term.ids (t.kids.getD v0.toNat zb)).ht<m) (obO ((Term.ids (t.kids.getD v0.toNat zb)).sz≤(2000000:Nat)) (obO (strT (Term.ids (t.kids.getD v0.toNat zb))) (obO (z6q env) (obO ((v1.length+[(z52 (Term.ids (t.kids.getD v0.toNat zb)) env)].length)*(32:Nat)≤zh) (zbd m (z6r t env (IntKind.i64.wrap (v0+1)) (v1++[(z52 (Term.ids (t.kids.getD v0.toNat zb)) env)]))))))))) (some (.exit 1,(z6r t env v0 v1))):=lpQ_ (by kernel_rfl)
theorem z1a1(m:Nat)(t:Term)(env:List (List Val))(v0:Int)(v1:List Val):zmt m (.exit 1) (z6r t env v0 v1)=obO (txts v1) (some (zyh (z1x t.op t.name v1))):=by kernel_rfl
theorem z2g6(m:Nat)(t:Term)(env:List (List Val))(ht:WS .term t)(hm:t.ht<m+1)(h1:t.sz≤2000000)(h2:strT t)(h3:z6q env):
  (zbd m (z6r t env (0:Int) [])).bind (zd (zmt m))=some (zyh (z1x t.op t.name (zif z1x env t.kids))):=by
 have hk:WL .term t.kids:=ht.term_kids;have hsz:=t.sz_eq;have hlen:=z5v t.kids;have hst:=(z1t1 t).1 h2
 obtain⟨lp,_⟩:=z1n (e:=.exit 1) (L:=zbd m) (st:=fun(o:List Val) i=>z6r t env i o) (l:=t.kids) (d:=zb) (g:=fun o x=>o++[z52 x env]) (fun i o=>o.length=i) hk.len
  (fun o i x hi hx hI=>by
   have hI':o.length=i:=hI;have hmem:x∈t.kids:=by rw[←hx,ye,y9 (by omega)];exact y1z _
   refine⟨by show(o++[_]).length=i+1;rw[ya,yg];omega,?_⟩;have hht:=Term.ht_kid hmem;have hxs:=zjs hmem;rw[zxn];simp only[z8,hi,decide_true,if_true,and_true,y5,hx,Term.ids_eq]
   rw[z6 (by omega),z6 (by omega),z6 (by omega),z6 (strTs_mem.1 hst.2 x hmem),z6 h3,z6 (by unfold zh;rw[yg];omega)])
  (fun o _=>by rw[zxn];simp[z8]) [] rfl
 rw[zg4,yx]at lp;have he:t.kids.map (fun x=>z52 x env)=zif z1x env t.kids:=(z13q _ _ _).symm;rw[he]at lp;refine(zg lp).trans ?_;rw[z1a1,z6];refine⟨by rw[z13q,yz];omega,zzi h3 t.kids hst.2⟩
theorem z1j1(m:Nat)(t:Term)(env:List (List Val))(ht:WS .term t)(_he:WL .row env)(hm:t.ht<m+1)(h1:t.sz≤2000000)(h2:strT t)(h3:z6q env):z11e m t env=some (zyh (z52 t env)):=by
 have hlen:=z5v t.kids;have hsz:=t.sz_eq;rw[z1t2,z2g6 m t env ht hm h1 h2 h3];have e:z52 t env=zxk z1x env t:=rfl;rw[e,z2in];simp only[z10c];simp only[z8,y1h,beq_iff_eq,decide_eq_true_eq];by_cases c1:t.op=1
 ·rw[if_pos c1,if_pos c1]
 rw[if_neg c1,if_neg c1];by_cases c2:t.op=2
 ·rw[if_pos c2,if_pos c2];unfold colV;by_cases d1:t.depth≥0
  ·rw[if_pos d1];by_cases d2:t.depth<(env.length:Int)
   ·rw[if_pos d2];by_cases d3:t.at_≥0
    ·rw[if_pos d3,z6 ⟨d1,d2⟩];by_cases d4:t.at_<((env.getD t.depth.toNat []).length:Int)
     ·rw[if_pos d4,if_pos ⟨d1,d2,d3,d4⟩,z6 ⟨d1,d2⟩,z6 ⟨d3,d4⟩]
     ·rw[if_neg d4,if_neg (fun e=>d4 e.2.2.2)]
    ·rw[if_neg d3,if_neg (fun e=>d3 e.2.2.1)]
   ·rw[if_neg d2,if_neg (fun e=>d2 e.2.1)]
  ·rw[if_neg d1,if_neg (fun e=>d1 e.1)]
 rw[if_neg c2,if_neg c2];by_cases c3:t.op=26∨t.op=27∨t.op=28
 ·rw[if_pos (by omega),if_pos c3]
 ·rw[if_neg (by omega),if_neg c3,z6 (by unfold zh;omega)]
abbrev z29e(m:Nat):Prop:=FnOK 117 (zo5 m)
theorem z1oq(m:Nat)(hG:z29e m):FnOK 117 (zo5 (m+1)):=fnK2 zr zx (M:=(zjd m)) rfl ⟨hG,zxj,trivial⟩ trivial trivial trivial trivial Tryz.func117 fun t env=>GiF.r fun w o=>z1j1 m t env (wfA_ w 0) (wfA_ w 1) (obA_ o 0) (obA_ o 1) (obA_ o 2) (obA_ o 3)
theorem z1fu:∀m,z29e m
 |0=>fnZ2
 |m+1=>z1oq m (z1fu m)
def z15l:FnC Un:=fnF2 (dS .term) (dL .row) fun t env=>([t.sz≤2000000,strT t,z6q env],zyh (z52 t env))
theorem z1t3:FnOK 117 z15l:=fnA2 fun m=>(z1fu m)
end
end B
namespace B
open Go Go.RowKit
set_option maxRecDepth 100000
noncomputable section
attribute [local irreducible] awp ctxK zu z1a retQ z1m awf ctxF z1k
def zeq:ByteArray:=⟨#[99,111,117,110,116]⟩
def nmSum:ByteArray:=⟨#[115,117,109]⟩
def zmu:ByteArray:=⟨#[109,105,110]⟩
def zpt:ByteArray:=⟨#[109,97,120]⟩
def zg5:ByteArray:=⟨#[114,111,119,115]⟩
def zr0:ByteArray:=⟨#[]⟩
def numV(n:Int):Val:=⟨2,n,⟨#[]⟩⟩
open Classical in
def cntV(nm:ByteArray)(v:Val):Bool:=decide (v.kind≠0)&&z7s v&&(decide (nm≠nmSum)||decide (v.kind=2))
open Classical in
def addU(acc:List Val)(v:Val):List Val:=if v∈acc then acc else acc++[v]
theorem z23s:(ByteArray.mk #[99,111,117,110,116])=zeq:=rfl
theorem z1or:(ByteArray.mk #[115,117,109])=nmSum:=rfl
theorem z23t:(ByteArray.mk #[109,105,110])=zmu:=rfl
theorem z23u:(ByteArray.mk #[109,97,120])=zpt:=rfl
theorem z1t4:(ByteArray.mk #[114,111,119,115])=zg5:=rfl
theorem z2l5:(ByteArray.mk #[])=zr0:=rfl
theorem z11f(a b:ByteArray):(a.toList==b.toList)=true↔a=b:=by grind[z1ve]
open Classical in
theorem z2io(a b:ByteArray):(a.toList==b.toList)=decide (a=b):=by
 grind[decide_eq_true,z11f,decide_eq_false]
theorem z1a2(a b:Int):cmpI b a=- cmpI a b:=by grind[cmpI]
theorem z1ws:∀a b:List UInt8,cmpL b a=- cmpL a b
 |[],[]=>rfl
 |[],_::_=>rfl
 |_::_,[]=>rfl
 |a::l,b::r=>by
  simp only[cmpL];by_cases h:a=b
  ·subst h;simp;exact z1ws l r
  ·rw[if_neg h,if_neg (Ne.symm h)];exact z1a2 _ _
theorem zkn(a b:Val):ordV b a=- ordV a b:=by
 unfold ordV;by_cases h:a.kind=b.kind
 ·rw[if_pos h,if_pos h.symm];by_cases h2:a.n=b.n
  ·rw[if_pos h2,if_pos h2.symm];exact z1ws _ _
  ·rw[if_neg h2,if_neg (Ne.symm h2)];exact z1a2 _ _
 ·rw[if_neg h,if_neg (Ne.symm h)];exact z1a2 _ _
theorem zbu{a b:Int}:cmpI a b<0↔a<b:=by grind[cmpI]
theorem z1os:∀{a b c:List UInt8},cmpL a b<0→cmpL b c<0→cmpL a c<0
 |[],[],_,h,_=>by omega
 |[],_::_,[],_,h=>by grind[cmpL]
 |[],_::_,_::_,_,_=>by simp[cmpL]
 |_::_,[],_,h,_=>by grind[cmpL]
 |_::_,_::_,[],_,h=>by grind[cmpL]
 |a::l,b::r,c::t,h1,h2=>by
  simp only[cmpL]at h1 h2 ⊢;by_cases e1:a=b
  ·subst e1;by_cases e2:a=c
   ·subst e2;simp at h1 h2 ⊢;exact z1os h1 h2
   grind
  ·rw[if_neg e1]at h1;by_cases e2:b=c
   ·grind
   ·rw[if_neg e2]at h2;rw[zbu]at h1 h2;have:a≠c:=by grind
    rw[if_neg this,zbu];omega
theorem zmv{a b c:Val}(h1:ordV a b<0)(h2:ordV b c<0):ordV a c<0:=by
 unfold ordV at h1 h2 ⊢;by_cases k1:a.kind=b.kind
 ·rw[if_pos k1]at h1;by_cases k2:b.kind=c.kind
  ·rw[if_pos k2]at h2;rw[if_pos (k1.trans k2)];by_cases n1:a.n=b.n
   ·rw[if_pos n1]at h1;by_cases n2:b.n=c.n
    ·rw[if_pos n2]at h2;rw[if_pos (n1.trans n2)];exact z1os h1 h2
    grind
   ·rw[if_neg n1,zbu]at h1;by_cases n2:b.n=c.n
    ·simp_all[if_neg,zbu]
    ·rw[if_neg n2,zbu]at h2;rw[if_neg (by omega),zbu];omega
  grind
 ·rw[if_neg k1,zbu]at h1;by_cases k2:b.kind=c.kind
  ·simp_all[if_neg,zbu]
  ·rw[if_neg k2,zbu]at h2;rw[if_neg (by omega),zbu];omega
theorem z1wt(a:Val):ordV a a=0:=ordV_zero.2 rfl
def bigM:Int:=1000000000000000
open Classical in
def zig(a:Agg):Acc:=
 if a.name=zeq then(if a.t=[]then⟨zg5,false,0,0,0,z7,[]⟩else⟨a.name,a.distinct,0,0,0,z7,[]⟩)
 else if a.name=nmSum∨a.name=zmu∨a.name=zpt then⟨a.name,a.distinct,0,0,0,z7,[]⟩
 else⟨zr0,a.distinct,0,0,0,z7,[]⟩
open Classical in
def zo6(nm:ByteArray)(v:Val):Bool:=decide (nm=zg5)||cntV nm v
open Classical in
def zbe(x:Acc)(v:Val):Acc:=
 if x.name=nmSum then⟨x.name,x.distinct,x.n+1,x.hi+(x.lo+v.n).tdiv bigM,(x.lo+v.n).tmod bigM,x.v,x.l⟩
 else if x.name=zmu then⟨x.name,x.distinct,x.n+1,x.hi,x.lo,if x.n+1=1∨ordV v x.v<0 then v else x.v,x.l⟩
 else if x.name=zpt then⟨x.name,x.distinct,x.n+1,x.hi,x.lo,if x.n+1=1∨ordV v x.v>0 then v else x.v,x.l⟩
 else⟨x.name,x.distinct,x.n+1,x.hi,x.lo,x.v,x.l⟩
def posV(l:List Val)(v:Val):Nat:=(l.takeWhile fun x=>ordV x v<0).length
open Classical in
def insV(l:List Val)(v:Val):List Val:=if v∈l then l else l.take (posV l v)++v::l.drop (posV l v)
def zpu(x:Acc)(v:Val):Acc:=
 if zo6 x.name v=true then(if x.distinct=true then⟨x.name,x.distinct,x.n,x.hi,x.lo,x.v,insV x.l v⟩else zbe x v)else x
def z1ot(x:Acc):Val:=if x.n=0∨x.hi< -1∨x.hi>1 then z7 else if inN (x.hi*bigM+x.lo)then numV (x.hi*bigM+x.lo)else z7
open Classical in
def endA(x:Acc):Val:=
 if x.name=zeq∨x.name=zg5 then numV x.n else if x.name=nmSum then z1ot x else if x.name=zmu∨x.name=zpt then x.v else z7
def z1a3(x:Acc):Val:=endA (x.l.foldl zbe x)
def runA(a:Agg)(l:List Val):Val:=z1a3 (l.foldl zpu (zig a))
theorem z2ch{v:Val}(h:z7s v=true)(hk:v.kind=2): -bigM≤v.n∧v.n≤bigM:=by
 simp_all[z7s,inN,bigM]
theorem z2ip{v:Val}(h:cntV nmSum v=true): -bigM≤v.n∧v.n≤bigM:=by
 unfold cntV at h;simp at h;exact z2ch h.1.2 h.2
theorem z2nl:zeq≠nmSum∧zeq≠zmu∧zeq≠zpt∧zeq≠zg5∧nmSum≠zmu∧nmSum≠zpt∧nmSum≠zg5∧zmu≠zpt∧zmu≠zg5∧zpt≠zg5∧zr0≠zeq∧zr0≠nmSum∧zr0≠zmu∧zr0≠zpt∧zr0≠zg5:=by
 simp[zeq,nmSum,zmu,zpt,zg5,zr0]
theorem z2n2{n:Int}:n.tdiv bigM*bigM+n.tmod bigM=n:=by rw[Int.mul_comm];exact Int.mul_tdiv_add_tmod n bigM
theorem z2iq(n:Int): -bigM<n.tmod bigM∧n.tmod bigM<bigM:=by
 have hb:(0:Int)<bigM:=by decide
 refine⟨?_,Int.tmod_lt_of_pos n hb⟩;have:=Int.tmod_lt_of_pos (-n) hb;rw[Int.neg_tmod]at this;omega
theorem z2ir{n:Int}(h1:-2*bigM<n)(h2:n<2*bigM): -1≤n.tdiv bigM∧n.tdiv bigM≤1:=by
 unfold bigM at*;grind
theorem z1fv(x:Acc)(v:Val):(zbe x v).l=x.l∧(zbe x v).distinct=x.distinct∧(zbe x v).name=x.name:=by
 unfold zbe;grind
theorem z29f(l:List Val)(v:Val):posV l v≤l.length:=(y4u _).length_le
theorem z2is(l:List Val)(v u:Val):u∈insV l v↔u∈l∨u=v:=by
 unfold insV;split
 ·grind
 ·rw[yc,yf];have:u∈l↔u∈l.take (posV l v)∨u∈l.drop (posV l v):=by rw[←yc,y1p]
  rw[this];constructor
  ·rintro(h|h|h);exact .inl (.inl h);exact .inr h;exact .inl (.inr h)
  ·rintro((h|h)|h);exact .inl h;exact .inr (.inr h);exact .inr (.inl h)
theorem z15m{p:Val→Bool}:∀(l:List Val),∀u∈l.takeWhile p,p u=true
 |[],u,h=>by simp at h
 |a::l,u,h=>by
  rw[y3r]at h;split at h
  ·rcases yf.1 h with rfl|h
   ·omega
   ·exact z15m l u h
  grind
theorem z11g{p:Val→Bool}:∀(l:List Val){y:Val}{r:List Val},l.dropWhile p=y::r→p y=false
 |[],y,r,h=>by simp at h
 |a::l,y,r,h=>by
  rw[y3a]at h;split at h
  ·exact z11g l h
  grind
theorem z13r{l:List Val}{v:Val}:∀u∈l.take (posV l v),ordV u v<0:=by
 grind[posV,ordV,List.takeWhile_append_dropWhile,decide,List.take_left,z15m]
theorem z13s{l:List Val}(h:l.Pairwise fun a b=>ordV a b<0){v:Val}:∀u∈l.drop (posV l v),¬ordV u v<0:=by
 have e:l.drop (posV l v)=l.dropWhile fun x=>ordV x v<0:=by
  grind[posV,List.takeWhile_append_dropWhile,decide,ordV,List.drop_left]
 have hp:(l.dropWhile fun x=>ordV x v<0).Pairwise fun a b=>ordV a b<0:=h.sublist (List.dropWhile_sublist _);cases hd:l.dropWhile fun x=>ordV x v<0 with
 |nil=>grind
 |cons y r=>
  have hy:¬ordV y v<0:=by
   grind[z11g]
  all_goals grind[List.pairwise_cons,zmv]
theorem z27y{l:List Val}(h:l.Pairwise fun a b=>ordV a b<0)(v:Val):(insV l v).Pairwise fun a b=>ordV a b<0:=by
 unfold insV;split
 ·omega
 ·have hs:∀u∈l.drop (posV l v),ordV v u<0:=fun u hu=>by
   have h1:=z13s h u hu;grind[ordV,ordV_zero,List.mem_of_mem_drop,zkn]
  rw[y25];refine⟨h.sublist (List.take_sublist _ _),y2h.2 ⟨hs,h.sublist (List.drop_sublist _ _)⟩,fun a ha b hb=>?_⟩;rcases yf.1 hb with rfl|hb
  ·exact z13r a ha
  ·exact zmv (z13r a ha) (hs b hb)
theorem z27z(l:List Val)(v:Val):(insV l v).length≤l.length+1:=by
 grind[insV,z29f]
theorem z13t{nm:ByteArray}{v:Val}(h:zo6 nm v=true)(hs:nm=nmSum): -bigM≤v.n∧v.n≤bigM:=by
 simp_all[zo6,y1h,decide_eq_true_eq,z2nl,z2ip]
end
end B
namespace B
open Go Go.RowKit
set_option maxRecDepth 100000
noncomputable section
attribute [local irreducible] awp ctxK zu z1a retQ z1m awf ctxF z1k
def z6b(r:Acc):RF Un:=([.agg (encC Ty.acc r)],[])
def z1a4(a:Agg):Option (RF Un):=fnF_ z1dq z266 Tryz.f185 0 [.d] [.d (.agg (enc Ty.agg a))]
theorem z23v(a:Agg):z1a4 a=cndO (a.name.toList==(ByteArray.mk #[99,111,117,110,116]).toList) (cndO ((↑a.t.length:Int)==(0:Int)) (some (z6b ({name:=(ByteArray.mk #[114,111,119,115]),distinct:=false,n:=(0:Int),hi:=(0:Int),lo:=(0:Int),v:=z7,l:=[]}))) (some (z6b ({name:=a.name,distinct:=a.distinct,n:=(0:Int),hi:=(0:Int),lo:=(0:Int),v:=z7,l:=[]})))) (cndO (a.name.toList==(ByteArray.mk #[115,117,109]).toList) (cndO (a.name.toList==(ByteArray.mk #[115,117,109]).toList) (some (z6b ({name:=a.name,distinct:=a.distinct,n:=(0:Int),hi:=(0:Int),lo:=(0:Int),v:=z7,l:=[]}))) (some (z6b ({name:=(ByteArray.mk #[]),distinct:=a.distinct,n:=(0:Int),hi:=(0:Int),lo:=(0:Int),v:=z7,l:=[]})))) (cndO (a.name.toList==(ByteArray.mk #[109,105,110]).toList) (cndO (a.name.toList==(ByteArray.mk #[109,105,110]).toList) (some (z6b ({name:=a.name,distinct:=a.distinct,n:=(0:Int),hi:=(0:Int),lo:=(0:Int),v:=z7,l:=[]}))) (some (z6b ({name:=(ByteArray.mk #[]),distinct:=a.distinct,n:=(0:Int),hi:=(0:Int),lo:=(0:Int),v:=z7,l:=[]})))) (cndO (a.name.toList==(ByteArray.mk #[109,97,120]).toList) (some (z6b ({name:=a.name,distinct:=a.distinct,n:=(0:Int),hi:=(0:Int),lo:=(0:Int),v:=z7,l:=[]}))) (some (z6b ({name:=(ByteArray.mk #[]),distinct:=a.distinct,n:=(0:Int),hi:=(0:Int),lo:=(0:Int),v:=z7,l:=[]})))))):=by kernel_rfl
def zko(a:Agg):Acc:=
  if(a.name.toList==(ByteArray.mk #[(99:UInt8),(111:UInt8),(117:UInt8),(110:UInt8),(116:UInt8)]).toList)=true then
   if((↑a.t.length:Int)==(0:Int))=true then
    ({name:=(ByteArray.mk #[(114:UInt8),(111:UInt8),(119:UInt8),(115:UInt8)]),distinct:=false,n:=(0:Int),hi:=(0:Int),lo:=(0:Int),v:=z7,l:=[]})
   else
    ({name:=a.name,distinct:=a.distinct,n:=(0:Int),hi:=(0:Int),lo:=(0:Int),v:=z7,l:=[]})
  else
   if(a.name.toList==(ByteArray.mk #[(115:UInt8),(117:UInt8),(109:UInt8)]).toList)=true then
    if(a.name.toList==(ByteArray.mk #[(115:UInt8),(117:UInt8),(109:UInt8)]).toList)=true then
     ({name:=a.name,distinct:=a.distinct,n:=(0:Int),hi:=(0:Int),lo:=(0:Int),v:=z7,l:=[]})
    else
     ({name:=(ByteArray.mk #[]),distinct:=a.distinct,n:=(0:Int),hi:=(0:Int),lo:=(0:Int),v:=z7,l:=[]})
   else
    if(a.name.toList==(ByteArray.mk #[(109:UInt8),(105:UInt8),(110:UInt8)]).toList)=true then
     if(a.name.toList==(ByteArray.mk #[(109:UInt8),(105:UInt8),(110:UInt8)]).toList)=true then
      ({name:=a.name,distinct:=a.distinct,n:=(0:Int),hi:=(0:Int),lo:=(0:Int),v:=z7,l:=[]})
     else
      ({name:=(ByteArray.mk #[]),distinct:=a.distinct,n:=(0:Int),hi:=(0:Int),lo:=(0:Int),v:=z7,l:=[]})
    else
     if(a.name.toList==(ByteArray.mk #[(109:UInt8),(97:UInt8),(120:UInt8)]).toList)=true then
      ({name:=a.name,distinct:=a.distinct,n:=(0:Int),hi:=(0:Int),lo:=(0:Int),v:=z7,l:=[]})
     else
      ({name:=(ByteArray.mk #[]),distinct:=a.distinct,n:=(0:Int),hi:=(0:Int),lo:=(0:Int),v:=z7,l:=[]})
theorem z23w(a:Agg):z1a4 a=some (z6b (zko a)):=by grind[z23v,zko,z8]
def z1fx:FnC Un:=fnF1 (dS .agg) fun a=>([],z6b (zko a))
theorem z23x:FnOK 185 z1fx:=fnK1 zr (M:=z1dq) rfl trivial trivial trivial trivial trivial Tryz.func185 fun a=>GiF.r fun _ _=>z23w a
theorem len0{α:Type}(l:List α):((l.length:Int)==0)=true↔l=[]:=by simp
@[simp] theorem z1t5(a:Agg):zko a=zig a:=by
 unfold zko zig;simp only[z23s,z1or,z23t,z23u,z1t4,z2l5,z11f,len0];by_cases h1:a.name=zeq
 ·simp[h1]
 ·by_cases h2:a.name=nmSum
  ·simp[h1,h2]
  ·by_cases h3:a.name=zmu
   ·rw[h3]at h1 h2;simp[h1,h2,h3]
   ·simp[h1,h2,h3]
def z1a5:Mc Un:=mcF_ [(240,z14f)] [] [] [] []
def z15n(x:Acc)(v:Val):Option (RF Un):=fnF_ z1a5 z266 Tryz.f220 0 [.d] [.d (.agg (enc Ty.acc x)),.d (.agg (enc Ty.val v))]
theorem z1z0(x:Acc)(v:Val):z15n x v=cndO (x.name.toList==(ByteArray.mk #[114,111,119,115]).toList) (some (z91 (true))) (cndO (v.kind !=0) (cndO (zbn v) (cndO (!x.name.toList==(ByteArray.mk #[115,117,109]).toList) (some (z91 (true))) (some (z91 (v.kind==2)))) (some (z91 (false)))) (some (z91 (false)))):=by kernel_rfl
def zmw(x:Acc)(v:Val):Bool:=zo6 x.name v
@[simp] theorem z1z1(x:Acc)(v:Val):zmw x v=zo6 x.name v:=by rfl
theorem z1ou(x:Acc)(v:Val)(_hx:WS .acc x)(_hv:WS .val v):z15n x v=some (z91 (zmw x v)):=by
 rw[z1z0];unfold zmw zo6 cntV;simp only[z8,z1or,z1t4,z11f,z1ra,y1y];by_cases h1:x.name=zg5
 ·grind
 ·by_cases h2:v.kind=0
  ·grind
  ·by_cases h3:z7s v=true
   ·by_cases h4:x.name=nmSum
    ·grind
    ·have e:(x.name.toList==nmSum.toList)=false:=by
      grind[z11f]
     grind
   grind
def z1a6:FnC Un:=fnF2 (dS .acc) (dS .val) fun x v=>([],z91 (zmw x v))
theorem z1z2:FnOK 220 z1a6:=fnK2 zr zr (M:=z1a5) rfl ⟨z1rb,trivial⟩ trivial trivial trivial trivial Tryz.func220 fun x v=>GiF.r fun w _=>z1ou x v (wfA_ w 0) (wfA_ w 1)
def z11h(hi:Int)(lo:Int):Option (RF Un):=fnF_ z1dq z266 Tryz.f241 0 [.d,.d] [.d (.v (.s (.int .i64 hi))),.d (.v (.s (.int .i64 lo)))]
theorem z1t6(hi:Int)(lo:Int):z11h hi lo=obO (¬(1000000000000000:Int)=(0:Int)) (obO (¬(1000000000000000:Int)=(0:Int)) (some (z7v (IntKind.i64.wrap (hi+IntKind.i64.wrap (lo.tdiv (1000000000000000:Int))),lo.tmod (1000000000000000:Int))))):=by kernel_rfl
def zih(hi lo:Int):Int×Int:=(hi+lo.tdiv bigM,lo.tmod bigM)
theorem z1j2(hi lo:Int)(_h1:WI hi)(_h2:WI lo)(h:(-1000000000≤hi∧hi≤1000000000)∧-2000000000000000≤lo∧lo≤2000000000000000):z11h hi lo=some (z7v (zih hi lo)):=by
 grind[z1t6,zih,bigM,z6,z1p]
def z15p:FnC Un:=fnF2 (dI .i64) (dI .i64) fun hi lo=>([(-1000000000≤hi∧hi≤1000000000)∧-2000000000000000≤lo∧lo≤2000000000000000],z7v (zih hi lo))
theorem z1t7:FnOK 241 z15p:=fnK2 z1c z1c (M:=z1dq) rfl trivial trivial trivial trivial trivial Tryz.func241 fun hi lo=>GiF.r fun w o=>z1j2 hi lo (wfA_ w 0) (wfA_ w 1) (obA_ o 0)
def z1fy:Mc Un:=mcF_ [(241,z15p),(147,zav)] [] [] [] []
def z1a7(x:Acc)(v:Val):Option (RF Un):=fnF_ z1fy z266 Tryz.f221 0 [.d] [.d (.agg (enc Ty.acc x)),.d (.agg (enc Ty.val v))]
theorem z23z(x:Acc)(v:Val):z1a7 x v=cndO (x.name.toList==(ByteArray.mk #[115,117,109]).toList) (obO (((-1000000000:Int)≤x.hi∧x.hi≤1000000000)∧(-2000000000000000:Int)≤IntKind.i64.wrap (x.lo+v.n)∧IntKind.i64.wrap (x.lo+v.n)≤2000000000000000) (some (z6b ({name:=x.name,distinct:=x.distinct,n:=IntKind.i64.wrap (x.n+1),hi:=(zih x.hi (IntKind.i64.wrap (x.lo+v.n))).fst,lo:=(zih x.hi (IntKind.i64.wrap (x.lo+v.n))).snd,v:=x.v,l:=x.l})))) (cndO (x.name.toList==(ByteArray.mk #[109,105,110]).toList) (cndO (IntKind.i64.wrap (x.n+1)==1) (some (z6b ({name:=x.name,distinct:=x.distinct,n:=IntKind.i64.wrap (x.n+1),hi:=x.hi,lo:=x.lo,v:=v,l:=x.l}))) (cndO (decide (zb4 v x.v<0)) (some (z6b ({name:=x.name,distinct:=x.distinct,n:=IntKind.i64.wrap (x.n+1),hi:=x.hi,lo:=x.lo,v:=v,l:=x.l}))) (some (z6b ({name:=x.name,distinct:=x.distinct,n:=IntKind.i64.wrap (x.n+1),hi:=x.hi,lo:=x.lo,v:=x.v,l:=x.l}))))) (cndO (x.name.toList==(ByteArray.mk #[109,97,120]).toList) (cndO (IntKind.i64.wrap (x.n+1)==1) (some (z6b ({name:=x.name,distinct:=x.distinct,n:=IntKind.i64.wrap (x.n+1),hi:=x.hi,lo:=x.lo,v:=v,l:=x.l}))) (cndO (decide (zb4 v x.v>0)) (some (z6b ({name:=x.name,distinct:=x.distinct,n:=IntKind.i64.wrap (x.n+1),hi:=x.hi,lo:=x.lo,v:=v,l:=x.l}))) (some (z6b ({name:=x.name,distinct:=x.distinct,n:=IntKind.i64.wrap (x.n+1),hi:=x.hi,lo:=x.lo,v:=x.v,l:=x.l}))))) (some (z6b ({name:=x.name,distinct:=x.distinct,n:=IntKind.i64.wrap (x.n+1),hi:=x.hi,lo:=x.lo,v:=x.v,l:=x.l}))))):=by kernel_rfl
def zkp(x:Acc)(v:Val):Acc:=zbe x v
@[simp] theorem z1a8(x:Acc)(v:Val):zkp x v=zbe x v:=by rfl
def ztd(x:Acc):Prop:=(0≤x.n∧x.n≤1000000000)∧(-100000000≤x.hi∧x.hi≤100000000)∧-1000000000000000<x.lo∧x.lo<1000000000000000
theorem z1t8(x:Acc)(v:Val)(_hx:WS .acc x)(_hv:WS .val v)(h:ztd x∧(x.name=nmSum→-1000000000000000≤v.n∧v.n≤1000000000000000)):z1a7 x v=some (z6b (zkp x v)):=by
 obtain⟨⟨h1,h2,h3⟩,h4⟩:=h;rw[z23z];unfold zkp zbe;simp only[z8,z1or,z23t,z23u,z11f,z21m];rw[z1p (n:=x.n+1) (by omega)];by_cases hs:x.name=nmSum
 ·have h4':=h4 hs;rw[if_pos hs,if_pos hs];have e:IntKind.i64.wrap (x.lo+v.n)=x.lo+v.n:=z1p (by omega);rw[e,z6 (by omega)];rfl
 grind
def zzj:FnC Un:=fnF2 (dS .acc) (dS .val) fun x v=>([ztd x∧(x.name=nmSum→-1000000000000000≤v.n∧v.n≤1000000000000000)],z6b (zkp x v))
theorem z1a9:FnOK 221 zzj:=fnK2 zr zr (M:=z1fy) rfl ⟨z1t7,znv,trivial⟩ trivial trivial trivial trivial Tryz.func221 fun x v=>GiF.r fun w o=>z1t8 x v (wfA_ w 0) (wfA_ w 1) (obA_ o 0)
@[simp] theorem z11i(n:Int):zf n=numV n:=rfl
def z1fz:Mc Un:=mcF_ [(211,zbm),(32,ze9)] [] [] [] []
def z1aa(x:Acc):Option (RF Un):=fnF_ z1fz z266 Tryz.f225 0 [.d] [.d (.agg (enc Ty.acc x))]
theorem z240(x:Acc):z1aa x=cndO (x.n==0) (some (zyh (z7))) (cndO (decide (x.hi<(-1:Int))) (some (zyh (z7))) (cndO (decide (x.hi>1)) (some (zyh (z7))) (cndO (!z1q (IntKind.i64.wrap (IntKind.i64.wrap (x.hi*1000000000000000)+x.lo))) (some (zyh (z7))) (some (zyh (zf (IntKind.i64.wrap (IntKind.i64.wrap (x.hi*1000000000000000)+x.lo)))))))):=by kernel_rfl
def zr1(x:Acc):Val:=z1ot x
theorem z1t9(x:Acc)(_hx:WS .acc x)(h:ztd x):z1aa x=some (zyh (zr1 x)):=by
 obtain⟨h1,h2,h3⟩:=h;rw[z240];unfold zr1 z1ot;simp only[z8,zyi,z11i,beq_iff_eq,decide_eq_true_eq,y1y];grind[bigM,z1p,inN]
def z1g0:FnC Un:=fnF1 (dS .acc) fun x=>([ztd x],zyh (zr1 x))
theorem z241:FnOK 225 z1g0:=fnK1 zr (M:=z1fz) rfl ⟨zb3,zfa,trivial⟩ trivial trivial trivial trivial Tryz.func225 fun x=>GiF.r fun w o=>z1t9 x (wfA_ w 0) (obA_ o 0)
end
end B
namespace B
open Go Go.RowKit Go.Shelf
set_option maxRecDepth 1000000
def z75(n z:Nat)(cv:Nat→Nat→Value):List Value:=(List.range (n*z)).map fun q=>cv (q/z) (q % z)
theorem zte(n z:Nat)(cv:Nat→Nat→Value):(z75 n z cv).length=n*z:=by simp[z75]
theorem z1ov{n z:Nat}{cv:Nat→Nat→Value}(hz:0<z){i j:Nat}(hi:i<n)(hj:j<z):(z75 n z cv)[i*z+j]?=some (cv i j):=by
 have h:i*z+j<n*z:=by
  have:(i+1)*z≤n*z:=y1e _ hi;rw[y1k]at this;omega
 unfold z75;rw[y13,y3f h];simp only[y1x];rw[show(i*z+j)/z=i by rw[y2b,Nat.mul_add_div hz,Nat.div_eq_of_lt hj];omega,show(i*z+j) % z=j by rw[y2b,y41,y3g hj]]
theorem ztf {n z:Nat} {cv:Nat→Nat→Value} {q:Nat} {u:Value} (h:(z75 n z cv)[q]? = some u) : ∃ i j,i<n∧j<z∧q=i*z+j∧u=cv i j:=by
  have hq:q<n*z:=by have:=(yk.1 h).1;rwa [zte] at this
  have hz : 0 < z := by rcases y3j z with e | e; · subst e; omega
                        · exact e
  refine⟨q / z,q % z,(y3z hz).2 hq,y2l _ hz,by rw[y2b];exact (y40 q z).symm,?_⟩;unfold z75 at h;rw[y13,y3f hq] at h;simpa using h.symm
open Classical in
theorem z1c9{St:Nat→Nat→Prop}{w w':World}{v:Value}{e:TypeId}{τ:Ty}{xs:List (Den τ)}{news:List Value}(hext:Ext w w')(hbd:∀b o,St b o→b<w.heap.size)(hlen:xs.length≤9223372036854775807)
  (hrow:w'.ownsRow w.heap.size e (sz τ) v xs.length news)(hrel:∀i(hi:i<xs.length) j d,(enc τ xs[i])[j]?=some d→∃u,news[i*sz τ+j]?=some u∧VRel En St w u d):
  Ret Tryz.prog En St w w' v [.c (.ob 0 0)] [⟨0,τ,xs,some 0,true⟩]:=by
 refine⟨hext,?_⟩;obtain⟨hnl,⟨rfl,hn0⟩|⟨gb,cap,cur,rfl,hge,hheap,hcap,hmax,hsz,htake⟩⟩:=hrow
 ·have hx:xs=[]:=yy hn0;subst hx;refine⟨⟨fun _=>0,fun _=>False,fun b o=>if St b o then some .st else none,fun _=>(none,0)⟩,fun _ h=>h,?_,?_,?_,?_⟩
  ·intro b o x _ hx;have hx':(if St b o then some Own.st else none)=some x:=hx;split at hx'
   ·rename_i hs;simp at hx';exact⟨hx'.symm,hs⟩
   ·simp at hx'
  ·intro b o x hx;have hx':(if St b o then some Own.st else none)=some x:=hx;split at hx'
   ·rename_i hs;exact yp (hbd b o hs) hext.le
   ·simp at hx'
  ·exact⟨rfl,_,rfl,y7 _,fun _=>rfl⟩
  ·intro k o ho;cases k with
   |zero=>simp at ho;subst ho;exact⟨⟨⟨⟨y7 _,by simp⟩,fun f hf=>by simp at hf;subst hf;exact y7 _⟩,fun h=>absurd h (y4e 0)⟩,rfl⟩
   |succ k=>simp at ho
 ·have hcell:∀q,q<cap*sz τ→w'.cell? ⟨gb,q,none⟩=cur[q]?∧(∃u,w'.cell? ⟨gb,q,none⟩=some u)∧stuck w' ⟨gb,q,none⟩=false:=by
   intro q hq;have h1:w'.cell? ⟨gb,q,none⟩=cur[q]?:=by simp[World.cell?,hheap]
   refine⟨h1,⟨cur[q]'(by omega),by rw[h1];exact y2f _⟩,?_⟩;simp[stuck,World.shape?,World.frozen?,hheap]
  have hgb:gb<w'.heap.size:=(y2q.1 hheap).1;let g:G:=⟨fun _=>0,fun _=>False,fun b o=>if b<w.heap.size then(if St b o then some .st else none)else if b=gb∧o<cap*sz τ then some (.obj 0)else none,fun _=>(some ⟨gb,0,none⟩,cap)⟩;have hω:∀o,o<cap*sz τ→g.ω gb o=some (.obj 0):=fun o ho=>by
   show(if gb<w.heap.size then _ else _)=_;rw[if_neg (by omega),if_pos ⟨rfl,ho⟩]
  have hst:Keeps St w g.St w':=fun b o hs=>by
   refine⟨?_,hext.cell (p:=⟨b,o,none⟩) (hbd b o hs)⟩;show(if b<w.heap.size then _ else _)=_;rw[if_pos (hbd b o hs),if_pos hs]
  refine⟨g,fun _ h=>h,?_,?_,?_,?_⟩
  ·intro b o x hb hx;have hx':(if b<w.heap.size then(if St b o then some Own.st else none)else _)=some x:=hx;rw[if_pos hb]at hx';split at hx'
   ·rename_i hs;simp at hx';exact⟨hx'.symm,hs⟩
   ·simp at hx'
  ·intro b o x hx;have hx':(if b<w.heap.size then(if St b o then some Own.st else none)else if b=gb∧o<cap*sz τ then some (Own.obj 0)else none)=some x:=hx;split at hx'
   ·rename_i hb;exact yp hb hext.le
   ·split at hx'
    ·rename_i hh;rw[hh.1];exact hgb
    ·simp at hx'
  ·exact⟨rfl,_,rfl,y7 _,fun _=>rfl⟩
  ·intro k o ho;cases k with
   |succ k=>simp at ho
   |zero=>
    simp at ho;subst ho;refine⟨⟨⟨⟨hcap,hlen⟩,fun f hf=>by simp at hf;subst hf;exact yb _⟩,fun _=>⟨gb,0,fun i j=>cur.getD (i*sz τ+j) undef,rfl,⟨?_,?_,?_⟩⟩⟩,rfl⟩
    ·intro i j hi hj;have hlt:i*sz τ+j<cap*sz τ:=by
      have h1:(i+1)*sz τ≤cap*sz τ:=y1e _ (y1f hi hcap);have hj':j<sz τ:=hj;rw[y1k]at h1;omega
     obtain⟨c1,_,c3⟩:=hcell _ hlt;have e0:0+i*Un.sz τ+j=i*sz τ+j:=by show 0+i*sz τ+j=_;omega
     refine⟨?_,?_⟩
     ·show w'.cell? ⟨gb,0+i*Un.sz τ+j,none⟩=_;rw[e0,c1,y47,y2f (by omega)];rfl
     ·show Mode g w' 0 (some 0) i gb (0+i*Un.sz τ+j);rw[e0];exact⟨fun h=>absurd h (y18 _),fun _=>⟨hω _ hlt,c3⟩⟩
    ·intro i hi j d hd;obtain⟨u,hu,hr⟩:=hrel i hi j d hd;have hj:j<sz τ:=by have h0:j<(enc τ (xs[i]'hi)).length:=(yk.1 hd).1;rwa[zgg]at h0
     have hlt:i*sz τ+j<xs.length*sz τ:=by
      have h1:(i+1)*sz τ≤xs.length*sz τ:=y1e _ hi;rw[y1k]at h1;omega
     have hu2:cur.getD (i*sz τ+j) undef=u:=by
      rw[←htake,y2n hlt,y29]at hu;rw[y47,hu];rfl
     show VRel En g.St w' (cur.getD (i*sz τ+j) undef) d;rw[hu2];exact hr.mono hst
    ·intro _ x hx hx';have hx2:x<cap*sz τ:=hx';obtain⟨_,c2,c3⟩:=hcell x hx2;show g.ω gb (0+x)=_∧_;rw[y16];exact⟨hω x hx2,c2,c3⟩
set_option maxHeartbeats 2000000 in
theorem z2ci{P:Program}{ρ:Ren}(L:SlLaysE0.n41 P ρ)(i0:TypeInfo)(z:Value)(size bytes:Nat)(hi:P.info? (ρ.t 23)=some i0)(hz0:i0.zero=some z)(hz1:i0.size=size)(hz2:i0.bytes=bytes)(hzs:z.cells.size=size)(hsz:0<size)
  (z23:∀w,(Go.sizeOf (ρ.t 23)).run P w=.ok size w)(a:Addr)(c:Nat)(w:World):
  Calls P (ρ.f 41) #[.slice (some a) 0 c] w fun e w'=>∃v',e=.returned v'∧w'.ownsRow w.heap.size (ρ.t 23) size v' 0 []∧Below w.heap.size w w':=by
 have mixed:=L.mixed;have t4:=L.t4;have a4:=L.a4;have z4:=L.z4;have v4:=L.v4;have t22:=L.t22;have a22:=L.a22;have z22:=L.z22;have v22:=L.v22;have q22:∀(w:World)(a:Option Addr)(n c n' c':Nat),(binOp .eql (ρ.t 22) (.slice a n c) (.slice none n' c')).run P w=.ok (.bool a.isNone) w:=fun w a n c n' c'=>Lib.run_eql_slice_nil w _ _ a n c n' c' L.t22;have u22:∀w,Sem.run P (underlying (ρ.t 22)) w=.ok (TypeDesc.slice (ρ.t 23)) w:=run_underlying t22;obtain⟨_,_,FG⟩:=L.f41
 go_enter FG,SlBodyN.n41_ntmps ρ
 go_wp2_with (at_builtin;refine wpList_append_own _ rfl _ _ (ρ.t 22) rfl w.heap.size (ρ.t 23) i0 z size bytes t22 hi hz0 hz1 hz2 hzs hsz _ _ _ rfl (World.ownsRow_made w #[] 0 (y7 _) (yb _) (by simp)) a 0 c [] rfl ?qc1 ?qc2 ?qc3 ?qc4 ?qc5 ?qc6 ?_)
 case qc1=>simp
 case qc2=>intro j u hj;simp at hj
 case qc3=>intro u hu;simp at hu
 case qc4=>unfold maxLen;omega
 case qc5=>omega
 case qc6=>simp
 intro v' w1 hown hgrow hnil
 go_wp2
 go_ret;exact⟨v',rfl,by simpa using hown,((Below.refl _ w).alloc (y7 _) _).grown hgrow (by simp) (by intro k hk;simp[Value.ownBlock]at hk;omega)⟩
theorem z1ab{w w':World}(h:Below w.heap.size w w'):Ext w w':=⟨h.os,h.tape,h.output,h.size,h.block⟩
def ztx(τ:Ty):FnC Un:=fun args=>match args with
 |[x0]=>(dL τ x0).bind fun s=>some ([s.length≤1000000000],[.c (.ob 0 0)],[⟨0,τ,s,some 0,true⟩])
 |_=>none
theorem z2it{ρ:Ren}(L:SlLaysE0.n41 Tryz.prog ρ)(τ:Ty)(i0:TypeInfo)(z:Value)(bytes:Nat)(hi:Tryz.prog.info? (ρ.t 23)=some i0)(hz0:i0.zero=some z)(hz1:i0.size=sz τ)(hz2:i0.bytes=bytes)(hzs:z.cells.size=sz τ)(hsz:0<sz τ)
    (hb:bytes≤100000)(z23:∀w,(Go.sizeOf (ρ.t 23)).run Tryz.prog w=.ok (sz τ) w)(hB:z2z Tryz.prog (ρ.f 41)):FnOK (ρ.f 41) (ztx τ):=by
  intro args ob rs os h hob;unfold ztx at h;split at h
  · simp only[y6,y8,yl]at h;obtain⟨s,e0,rfl,rfl,rfl⟩:=h;obtain rfl:=zx e0;have hlen:s.length≤1000000000:=hob _ (by simp);refine⟨fun w St vs hbd hvs hld=>?_,hB⟩
    match vs,hvs with
    |[v0],⟨h0,_⟩=>
      have hV:VRel En St w v0 (.dat τ s):=h0;rcases hV.inv with⟨rfl,a,cap,rfl⟩|⟨b,o,cap,cv,rfl,hcap,hc,hr⟩
      · cases a with
        |none=>
          refine(AnyE.slices_Clone_nil L 0 cap w).mono ?_;rintro e w' ⟨rfl,rfl⟩;exact⟨_,rfl,z1c9 (e:=ρ.t 23) (news:=[]) (Ext.refl _) hbd (by simp) ⟨by simp,.inl ⟨rfl,rfl⟩⟩ (fun i hi=>absurd hi (y18 _))⟩
        |some a=>
          refine(z2ci L i0 z (sz τ) bytes hi hz0 hz1 hz2 hzs hsz z23 a cap w).mono ?_;rintro e w' ⟨v',rfl,hown,hbel⟩;exact⟨v',rfl,z1c9 (z1ab hbel) hbd (by simp) hown (fun i hi=>absurd hi (y18 _))⟩
      · have hcell:∀j u,(z75 s.length (sz τ) cv)[j]?=some u→w.cell? ⟨b,o+j,none⟩=some u∧∃i q,i<s.length∧q<sz τ∧j=i*sz τ+q∧u=cv i q:=by
          intro j u hj;obtain⟨i,q,hi,hq,rfl,rfl⟩:=ztf hj;refine⟨?_,i,q,hi,hq,rfl,rfl⟩;have:=(hc i q hi hq).2;rw[←y1d];exact this
        have hone:∀u∈z75 s.length (sz τ) cv,u.oneCell'=true:=by
          intro u hu;obtain⟨j,hj⟩:=y1t hu;obtain⟨_,i,q,hi,hq,_,rfl⟩:=hcell j u hj;have hq':q<(enc τ (s[i]'hi)).length:=by rw[zgg];exact hq
          have:=hr i hi q _ (y9 hq');exact z1qr this.one
        refine(AnyE.slices_Clone L i0 z (sz τ) bytes hi hz0 hz1 hz2 hzs hsz z23 b o s.length cap (z75 s.length (sz τ) cv) w (zte _ _ _) (by unfold maxLen;omega)
          (by have:s.length*bytes≤1000000000*100000:=y28 hlen hb
              omega) (fun j u hj=>(hcell j u hj).1) hone).mono ?_
        rintro e w' ⟨v',rfl,hown,_,hbel⟩;refine⟨v',rfl,z1c9 (z1ab hbel) hbd (by omega) hown fun i hi j d hd=>?_⟩;have hj:j<sz τ:=by have h0:j<(enc τ (s[i]'hi)).length:=(yk.1 hd).1;rwa[zgg]at h0
        exact⟨cv i j,z1ov hsz hi hj,hr i hi j d hd⟩
  · simp at h
def mach0:Mc Un:=mach (fun _=>none) (fun _=>none) (fun _=>none) (fun _=>none) (fun _=>none)
def z1ow(t e:TypeId)(τ:Ty):Bool:=match mach0.ti t with| .sl e' τ' b=>e'==e&&decide (τ'=τ)&&decide (b≤100000)|_=>false
theorem slOf{t e:TypeId}{τ:Ty}(h:z1ow t e τ=true):∃bytes i z,bytes≤100000∧0<bytes∧0<sz τ∧Tryz.prog.underlying t=some (.slice e)∧Tryz.prog.info? e=some i∧i.size=sz τ∧i.bytes=bytes∧i.zero=some z∧z.cells.size=sz τ:=by
 unfold z1ow at h;split at h
 ·rename_i e' τ' b hti;simp only[yn,beq_iff_eq,decide_eq_true_eq]at h;obtain⟨⟨rfl,rfl⟩,hb⟩:=h;have h:=((z1zv (fun _=>none) (fun _=>none) (fun _=>none) (fun _=>none) (fun _=>none)).ti t).2;rw[show(mach (fun _=>none) (fun _=>none) (fun _=>none) (fun _=>none) (fun _=>none)).ti t=.sl e' τ' b from hti]at h;obtain⟨h0,⟨h1,h1'⟩,i,z,h2,h3,h4,h5,h6⟩:=h;exact⟨b,i,z,hb,h1',h1,h0,h2,h3,h4,h5,h6⟩
 ·simp at h
theorem z13u{ρ:Ren}(L:SlLaysE0.n41 Tryz.prog ρ){τ:Ty}(hti:z1ow (ρ.t 22) (ρ.t 23) τ=true)(hB:z2z Tryz.prog (ρ.f 41)):FnOK (ρ.f 41) (ztx τ):=by
 obtain⟨bytes,i,z,hb,h1',h1,h0,h2,h3,h4,h5,h6⟩:=slOf hti;refine z2it L τ i z bytes h2 h5 h3 h4 h6 h1 hb (fun w=>?_) hB;have:=Go.run_sizeOf w h2;rw[this];simp only[Program.cellsOf,h2];exact congrArg (fun n=>Result.ok n w) h3
end B
namespace B
open Go Go.RowKit Go.Shelf
set_option maxRecDepth 1000000
def z1ta:Ren:=⟨fun|41=>85|n=>n,fun|4=>4|22=>27|23=>57|n=>n,fun|n=>n⟩
theorem z1ox:SlLaysE0.n41 Tryz.prog z1ta:={
  mixed:=by kernel_rfl
  f41:=⟨Tryz.f85.name,by kernel_rfl,Tryz.func85.trans (congrArg some (by kernel_rfl))⟩
  t4:=Tryz.underlying4
  a4:=Tryz.isAgg4
  z4:=Tryz.sizeOf4
  v4:=Tryz.zeroValue4
  t22:=Tryz.underlying27
  a22:=Tryz.isAgg27
  z22:=Tryz.sizeOf27
  v22:=Tryz.zeroValue27}
def zmx:FnC Un:=ztx .row
theorem zry:FnOK 85 zmx:=z13u z1ox (by kernel_rfl) (zk Tryz.func85 (by kernel_rfl) (by kernel_rfl))
def z1z4:Ren:=⟨fun|41=>224|n=>n,fun|4=>4|22=>56|23=>37|n=>n,fun|n=>n⟩
theorem z1tb:SlLaysE0.n41 Tryz.prog z1z4:={
  mixed:=by kernel_rfl
  f41:=⟨Tryz.f224.name,by kernel_rfl,Tryz.func224.trans (congrArg some (by kernel_rfl))⟩
  t4:=Tryz.underlying4
  a4:=Tryz.isAgg4
  z4:=Tryz.sizeOf4
  v4:=Tryz.zeroValue4
  t22:=Tryz.underlying56
  a22:=Tryz.isAgg56
  z22:=Tryz.sizeOf56
  v22:=Tryz.zeroValue56}
def z1g1:FnC Un:=ztx .val
theorem z242:FnOK 224 z1g1:=z13u z1tb (by kernel_rfl) (zk Tryz.func224 (by kernel_rfl) (by kernel_rfl))
def z1z5:Ren:=⟨fun|41=>140|n=>n,fun|4=>4|22=>57|23=>37|n=>n,fun|n=>n⟩
theorem z1tc:SlLaysE0.n41 Tryz.prog z1z5:={
  mixed:=by kernel_rfl
  f41:=⟨Tryz.f140.name,by kernel_rfl,Tryz.func140.trans (congrArg some (by kernel_rfl))⟩
  t4:=Tryz.underlying4
  a4:=Tryz.isAgg4
  z4:=Tryz.sizeOf4
  v4:=Tryz.zeroValue4
  t22:=Tryz.underlying57
  a22:=Tryz.isAgg57
  z22:=Tryz.sizeOf57
  v22:=Tryz.zeroValue57}
theorem z243:FnOK 140 z1g1:=z13u z1tc (by kernel_rfl) (zk Tryz.func140 (by kernel_rfl) (by kernel_rfl))
end B
end Go.Proofs.YtjfpbchdcbhfgaaGreat
