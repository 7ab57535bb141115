/- Part 13 of the proof: Sscal3 Saggspec Sagg1 Lown Lclone. -/
import Derived.Shelf.SlicesE.Clone
import Derived.Test.YtjfpbchdcbhfgaaGreatNjo12
set_option linter.unusedVariables false
set_option linter.unusedSimpArgs false
namespace Go.Proofs.YtjfpbchdcbhfgaaGreat
namespace B
open Go Go.RowKit
set_option maxRecDepth 100000
noncomputable section
attribute [local irreducible] awp ctxK zw z1a retQ z1m awf ctxF z1l
def z16(v:Val):Prop:=v.s.size≤2000000
mutual
def strT:Term→Prop
 | .mk _ v _ _ _ kids _ _=>v.s.size≤2000000∧zua kids
def zua:List Term→Prop
 |[]=>True
 |t::l=>strT t∧zua l
end
theorem z1uq(t:Term):strT t↔(t.v.s.size≤2000000∧zua t.kids):=by cases t;simp only[strT,Term.v_mk,Term.kids_mk]
theorem strTs_mem:∀{l:List Term},zua l↔∀t∈l,strT t
 |[]=>by simp[zua]
 |t::l=>by simp only[zua,yg,forall_eq_or_imp,strTs_mem (l:=l)]
def z6v(env:List (List Val)):Prop:=∀r∈env,∀v∈r,z16 v
theorem z3j:z16 z7:=yb _
theorem zyi(n:Int):z16 (zh n):=yb _
theorem z1qa(n:Int)(b:Bool):z16 (z4a n b):=by
 unfold z4a;split
 ·exact z3j
 ·exact zyi n
theorem z1qb(b:Bool):z16 (z2z b):=by rw[zy1];exact yb _
theorem zyj(a:Int):z16 (z66 a):=by
 unfold z66
 repeat' split
 all_goals exact yb _
theorem z2i4(op:Int)(a b:Val):z16 (cmpO op a b):=by
 unfold cmpO;split
 ·exact yb _
 ·exact z3j
theorem zub{l:List Val}(h:∀x∈l,z16 x)(i:Nat):z16 (l.getD i z7):=by
 rw[yd];cases e:l[i]? with
 |none=>exact z3j
 |some v=>exact h v (ye e)
theorem z1ha:∀(l:List Val),(∀x∈l,z16 x)→z16 (zwh l)
 |[],_=>z3j
 |[x],h=>h x (by simp)
 |c::v::r,h=>by
  simp only[zwh];split
  ·exact h v (by simp)
  ·exact z1ha r fun x hx=>h x (by simp[hx])
theorem z1yh{c:Prop}[Decidable c]{a b:Val}(ha:c→z16 a)(hb:¬c→z16 b):z16 (if c then a else b):=by split<;>simp_all
theorem z25q(name:ByteArray){l:List Val}(h:∀x∈l,z16 x):z16 (z8u name l):=by
 have g:=zub h;have gt:∀(x:Val) f b,z16 x→z16 (z9m (zne x.s f b)):=fun x f b hx=>by
  show(zne x.s f b).size≤2000000;rw[z14w];exact hx
 unfold z8u z25o z1dn z1dm
 repeat' split
 all_goals first|exact z3j|exact g _|exact z1qa _ _|exact zyi _|exact gt _ _ _ (g _)
theorem z1hb(op:Int)(name:ByteArray){l:List Val}(h:∀x∈l,z16 x):z16 (z1y op name l):=by
 have g:=zub h;unfold z1y;split
 ·exact z3j
 unfold z1q6
 repeat' (first|refine z1yh (fun _=>?_) (fun _=>?_)|exact z3j|exact z1qa _ _|exact z1qb _|exact z2i4 _ _ _|exact zyj _|(unfold z6e;exact zyj _)|(unfold zgk;exact zyj _)|exact z1ha l h|exact z25q name h)
 all_goals first
  |exact g _
  |(show(zne _ _ _).size≤2000000;rw[z14w];exact g _)
  |(rename_i hs;show(_++_:ByteArray).size≤2000000;rw[ByteArray.size_append];omega)
theorem z2i5{env:List (List Val)}(h:z6v env)(d a:Int):z16 (colV d a env):=by
 unfold colV;split
 ·rename_i hc;have hm:env.getD d.toNat []∈env:=by
   rw[yd,ya (by omega)];exact y1z _
  exact zub (h _ hm) _
 ·exact z3j
mutual
theorem z1qc{env:List (List Val)}(h:z6v env):∀t:Term,strT t→z16 (zyh z1y env t)
 | .mk op v depth at_ name kids _ _,ht=>by
  simp only[strT]at ht;simp only[zyh];split
  ·exact ht.1
  ·split
   ·exact z2i5 h _ _
   ·split
    ·exact z3j
    ·exact z1hb _ _ (z10d h kids ht.2)
theorem z10d{env:List (List Val)}(h:z6v env):∀l:List Term,zua l→∀x∈ziw z1y env l,z16 x
 |[],_=>by simp[ziw]
 |t::l,ht=>by
  simp only[zua]at ht;simp only[ziw,yg,forall_eq_or_imp];exact⟨z1qc h t ht.1,z10d h l ht.2⟩
end
def z54(t:Term)(env:List (List Val)):Val:=zyh z1y env t
def zot(m:Nat):FnC Un:=fnF2 (dS .term) (dL .row) fun t env=>z2o (t.ht) m ([t.sz≤2000000,strT t,z6v env],zzd (z54 t env))
def zjw(m:Nat):Mc Un:=mcF_ [(117,zot m),(120,zos)] [] [] [] []
def zst:Nat→NS:=nsF_ [(14,{ts:=bl 81 32281802128991715382,bs:=bl 81 20,nm:=[(.sl 5,324)],cs:=true})] true
def z6w(t:Term)(env:List (List Val))(v0:Int)(v1:List Val):S Un:=(st 81 81 325 0 [(1,al .row env),(2,ax 2),(4,ax 4),(5,ao 324),(62,al .term t.kids),(63,ai (↑t.kids.length:Int)),(64,ai v0)] [(2,bg .term t),(4,bg .val z7)] [(324,some ⟨(0:Nat),Ty.val,v1,some (0:Nat),true⟩)])
def zbs(m:Nat):S Un→Option (EX Un):=lpF_ (zjw m) zst Tryz.f117 [1,1,1,0,1,2,2] 14
def zni(m:Nat):Exit→S Un→Option (RF Un):=cxF_ (zjw m) zst Tryz.f117 [1,1,1,0,1,2] [.d]
def z12c(m:Nat)(t:Term)(env:List (List Val)):Option (RF Un):=fnF_ (zjw m) zst Tryz.f117 1 [.d] [.d (.agg (enc Ty.term t)),.d (.v (.dat (U:=Un) Ty.row env))]
theorem z1ur(m:Nat)(t:Term)(env:List (List Val)):z12c m t env=cndO (t.op==1) (some (zzd (t.v))) (cndO (t.op==2) (cndO (decide (t.depth≥0)) (cndO (decide (t.depth<(↑env.length:Int))) (cndO (decide (t.at_≥0)) (obO (0≤t.depth∧t.depth<(↑env.length:Int)) (cndO (decide (t.at_<(↑(List.length (env.getD t.depth.toNat [])):Int))) (obO (0≤t.depth∧t.depth<(↑env.length:Int)) (obO (0≤t.at_∧t.at_<(↑(List.length (env.getD t.depth.toNat [])):Int)) (some (zzd (List.getD (env.getD t.depth.toNat []) t.at_.toNat z7))))) (some (zzd (z7))))) (some (zzd (z7)))) (some (zzd (z7)))) (some (zzd (z7)))) (cndO (t.op==26) (some (zzd (z7))) (cndO (t.op==27) (some (zzd (z7))) (cndO (t.op==28) (some (zzd (z7))) (obO ((0:Int)≤(0:Int)∧(0:Int)≤(↑t.kids.length:Int)∧(↑t.kids.length:Int).toNat*(32:Nat)≤ze) ((zbs m (z6w t env (0:Int) ([]))).bind (zd (zni m)))))))):=by kernel_rfl
theorem zyk(m:Nat)(t:Term)(env:List (List Val))(v0:Int)(v1:List Val):zbs m (z6w t env v0 v1)=cndO (decide (v0<(↑t.kids.length:Int))) (obO (0≤v0∧v0<(↑t.kids.length:Int)) (obO ((Term.ids (t.kids.getD v0.toNat zb)).ht<m) (obO ((Term.ids (t.kids.getD v0.toNat zb)).sz≤(2000000:Nat)) (obO (strT (Term.ids (t.kids.getD v0.toNat zb))) (obO (z6v env) (obO ((v1.length+[(z54 (Term.ids (t.kids.getD v0.toNat zb)) env)].length)*(32:Nat)≤ze) (zbs m (z6w t env (IntKind.i64.wrap (v0+1)) (v1++[(z54 (Term.ids (t.kids.getD v0.toNat zb)) env)]))))))))) (some (.exit 1,(z6w t env v0 v1))):=lpQ_ (by kernel_rfl)
theorem z1bd(m:Nat)(t:Term)(env:List (List Val))(v0:Int)(v1:List Val):zni m (.exit 1) (z6w t env v0 v1)=obO (txts v1) (some (zzd (z1y t.op t.name v1))):=by kernel_rfl
theorem z2i6(m:Nat)(t:Term)(env:List (List Val))(ht:WS .term t)(hm:t.ht<m+1)(h1:t.sz≤2000000)(h2:strT t)(h3:z6v env):
  (zbs m (z6w t env (0:Int) [])).bind (zd (zni m))=some (zzd (z1y t.op t.name (ziw z1y env t.kids))):=by
 have hk:WL .term t.kids:=ht.term_kids;have hsz:=t.sz_eq;have hlen:=z60 t.kids;have hst:=(z1uq t).1 h2
 obtain⟨lp,_⟩:=z1j (e:=.exit 1) (L:=zbs m) (st:=fun(o:List Val) i=>z6w t env i o) (l:=t.kids) (d:=zb) (g:=fun o x=>o++[z54 x env]) (fun i o=>o.length=i) hk.len
  (fun o i x hi hx hI=>by
   have hI':o.length=i:=hI;have hmem:x∈t.kids:=by rw[←hx,yd,ya (by omega)];exact y1z _
   refine⟨by show(o++[_]).length=i+1;rw[y9,yf];omega,?_⟩;have hht:=Term.ht_kid hmem;have hxs:=zkb hmem;rw[zyk];simp only[z8,hi,decide_true,if_true,and_true,y5,hx,Term.ids_eq]
   rw[z6 (by omega),z6 (by omega),z6 (by omega),z6 (strTs_mem.1 hst.2 x hmem),z6 h3,z6 (by unfold ze;rw[yf];omega)])
  (fun o _=>by rw[zyk];simp[z8]) [] rfl
 rw[zgl,yw]at lp;have he:t.kids.map (fun x=>z54 x env)=ziw z1y env t.kids:=(z14x _ _ _).symm;rw[he]at lp;refine(zj lp).trans ?_;rw[z1bd,z6];refine⟨by rw[z14x,yu];omega,z10d h3 t.kids hst.2⟩
theorem z1kj(m:Nat)(t:Term)(env:List (List Val))(ht:WS .term t)(_he:WL .row env)(hm:t.ht<m+1)(h1:t.sz≤2000000)(h2:strT t)(h3:z6v env):z12c m t env=some (zzd (z54 t env)):=by
 have hlen:=z60 t.kids;have hsz:=t.sz_eq;rw[z1ur,z2i6 m t env ht hm h1 h2 h3];have e:z54 t env=zyh z1y env t:=rfl;rw[e,z2ks];simp only[z119];simp only[z8,y1g,beq_iff_eq,decide_eq_true_eq];by_cases c1:t.op=1
 ·rw[if_pos c1,if_pos c1]
 rw[if_neg c1,if_neg c1];by_cases c2:t.op=2
 ·rw[if_pos c2,if_pos c2];unfold colV;by_cases d1:t.depth≥0
  ·rw[if_pos d1];by_cases d2:t.depth<(env.length:Int)
   ·rw[if_pos d2];by_cases d3:t.at_≥0
    ·rw[if_pos d3,z6 ⟨d1,d2⟩];by_cases d4:t.at_<((env.getD t.depth.toNat []).length:Int)
     ·rw[if_pos d4,if_pos ⟨d1,d2,d3,d4⟩,z6 ⟨d1,d2⟩,z6 ⟨d3,d4⟩]
     ·rw[if_neg d4,if_neg (fun e=>d4 e.2.2.2)]
    ·rw[if_neg d3,if_neg (fun e=>d3 e.2.2.1)]
   ·rw[if_neg d2,if_neg (fun e=>d2 e.2.1)]
  ·rw[if_neg d1,if_neg (fun e=>d1 e.1)]
 rw[if_neg c2,if_neg c2];by_cases c3:t.op=26∨t.op=27∨t.op=28
 ·rw[if_pos (by omega),if_pos c3]
 ·rw[if_neg (by omega),if_neg c3,z6 (by unfold ze;omega)]
abbrev z2bh(m:Nat):Prop:=FnOK 117 (zot m)
theorem z1qd(m:Nat)(hG:z2bh m):FnOK 117 (zot (m+1)):=fnK2 zt zr (M:=(zjw m)) rfl ⟨hG,zyg,trivial⟩ trivial trivial trivial trivial Tryz.func117 fun t env=>GiF.r fun w o=>z1kj m t env (wfA_ w 0) (wfA_ w 1) (obA_ o 0) (obA_ o 1) (obA_ o 2) (obA_ o 3)
theorem z1hc:∀m,z2bh m
 |0=>fnZ2
 |m+1=>z1qd m (z1hc m)
def z16x:FnC Un:=fnF2 (dS .term) (dL .row) fun t env=>([t.sz≤2000000,strT t,z6v env],zzd (z54 t env))
theorem z1us:FnOK 117 z16x:=fnA2 fun m=>(z1hc m)
end
end B
namespace B
open Go Go.RowKit
set_option maxRecDepth 100000
noncomputable section
attribute [local irreducible] awp ctxK zw z1a retQ z1m awf ctxF z1l
def zf7:ByteArray:=⟨#[99,111,117,110,116]⟩
def nmSum:ByteArray:=⟨#[115,117,109]⟩
def znj:ByteArray:=⟨#[109,105,110]⟩
def zqm:ByteArray:=⟨#[109,97,120]⟩
def zgm:ByteArray:=⟨#[114,111,119,115]⟩
def zrw:ByteArray:=⟨#[]⟩
def numV(n:Int):Val:=⟨2,n,⟨#[]⟩⟩
open Classical in
def cntV(nm:ByteArray)(v:Val):Bool:=decide (v.kind≠0)&&z7x v&&(decide (nm≠nmSum)||decide (v.kind=2))
open Classical in
def addU(acc:List Val)(v:Val):List Val:=if v∈acc then acc else acc++[v]
theorem z25r:(ByteArray.mk #[99,111,117,110,116])=zf7:=rfl
theorem z1qe:(ByteArray.mk #[115,117,109])=nmSum:=rfl
theorem z25s:(ByteArray.mk #[109,105,110])=znj:=rfl
theorem z25t:(ByteArray.mk #[109,97,120])=zqm:=rfl
theorem z1ut:(ByteArray.mk #[114,111,119,115])=zgm:=rfl
theorem z2nc:(ByteArray.mk #[])=zrw:=rfl
theorem z12d(a b:ByteArray):(a.toList==b.toList)=true↔a=b:=by grind[z1x4]
open Classical in
theorem z2kt(a b:ByteArray):(a.toList==b.toList)=decide (a=b):=by
 grind[decide_eq_true,z12d,decide_eq_false]
theorem z1be(a b:Int):cmpI b a=- cmpI a b:=by grind[cmpI]
theorem z1yi:∀a b:List UInt8,cmpL b a=- cmpL a b
 |[],[]=>rfl
 |[],_::_=>rfl
 |_::_,[]=>rfl
 |a::l,b::r=>by
  simp only[cmpL];by_cases h:a=b
  ·subst h;simp;exact z1yi l r
  ·rw[if_neg h,if_neg (Ne.symm h)];exact z1be _ _
theorem zl9(a b:Val):ordV b a=- ordV a b:=by
 unfold ordV;by_cases h:a.kind=b.kind
 ·rw[if_pos h,if_pos h.symm];by_cases h2:a.n=b.n
  ·rw[if_pos h2,if_pos h2.symm];exact z1yi _ _
  ·rw[if_neg h2,if_neg (Ne.symm h2)];exact z1be _ _
 ·rw[if_neg h,if_neg (Ne.symm h)];exact z1be _ _
theorem zcc{a b:Int}:cmpI a b<0↔a<b:=by grind[cmpI]
theorem z1qf:∀{a b c:List UInt8},cmpL a b<0→cmpL b c<0→cmpL a c<0
 |[],[],_,h,_=>by omega
 |[],_::_,[],_,h=>by grind[cmpL]
 |[],_::_,_::_,_,_=>by simp[cmpL]
 |_::_,[],_,h,_=>by grind[cmpL]
 |_::_,_::_,[],_,h=>by grind[cmpL]
 |a::l,b::r,c::t,h1,h2=>by
  simp only[cmpL]at h1 h2 ⊢;by_cases e1:a=b
  ·subst e1;by_cases e2:a=c
   ·subst e2;simp at h1 h2 ⊢;exact z1qf h1 h2
   grind
  ·rw[if_neg e1]at h1;by_cases e2:b=c
   ·grind
   ·rw[if_neg e2]at h2;rw[zcc]at h1 h2;have:a≠c:=by grind
    rw[if_neg this,zcc];omega
theorem znk{a b c:Val}(h1:ordV a b<0)(h2:ordV b c<0):ordV a c<0:=by
 unfold ordV at h1 h2 ⊢;by_cases k1:a.kind=b.kind
 ·rw[if_pos k1]at h1;by_cases k2:b.kind=c.kind
  ·rw[if_pos k2]at h2;rw[if_pos (k1.trans k2)];by_cases n1:a.n=b.n
   ·rw[if_pos n1]at h1;by_cases n2:b.n=c.n
    ·rw[if_pos n2]at h2;rw[if_pos (n1.trans n2)];exact z1qf h1 h2
    grind
   ·rw[if_neg n1,zcc]at h1;by_cases n2:b.n=c.n
    ·simp_all[if_neg,zcc]
    ·rw[if_neg n2,zcc]at h2;rw[if_neg (by omega),zcc];omega
  grind
 ·rw[if_neg k1,zcc]at h1;by_cases k2:b.kind=c.kind
  ·simp_all[if_neg,zcc]
  ·rw[if_neg k2,zcc]at h2;rw[if_neg (by omega),zcc];omega
theorem z1yj(a:Val):ordV a a=0:=ordV_zero.2 rfl
def bigM:Int:=1000000000000000
open Classical in
def zix(a:Agg):Acc:=
 if a.name=zf7 then(if a.t=[]then⟨zgm,false,0,0,0,z7,[]⟩else⟨a.name,a.distinct,0,0,0,z7,[]⟩)
 else if a.name=nmSum∨a.name=znj∨a.name=zqm then⟨a.name,a.distinct,0,0,0,z7,[]⟩
 else⟨zrw,a.distinct,0,0,0,z7,[]⟩
open Classical in
def zou(nm:ByteArray)(v:Val):Bool:=decide (nm=zgm)||cntV nm v
open Classical in
def zbt(x:Acc)(v:Val):Acc:=
 if x.name=nmSum then⟨x.name,x.distinct,x.n+1,x.hi+(x.lo+v.n).tdiv bigM,(x.lo+v.n).tmod bigM,x.v,x.l⟩
 else if x.name=znj then⟨x.name,x.distinct,x.n+1,x.hi,x.lo,if x.n+1=1∨ordV v x.v<0 then v else x.v,x.l⟩
 else if x.name=zqm then⟨x.name,x.distinct,x.n+1,x.hi,x.lo,if x.n+1=1∨ordV v x.v>0 then v else x.v,x.l⟩
 else⟨x.name,x.distinct,x.n+1,x.hi,x.lo,x.v,x.l⟩
def posV(l:List Val)(v:Val):Nat:=(l.takeWhile fun x=>ordV x v<0).length
open Classical in
def insV(l:List Val)(v:Val):List Val:=if v∈l then l else l.take (posV l v)++v::l.drop (posV l v)
def zqn(x:Acc)(v:Val):Acc:=
 if zou x.name v=true then(if x.distinct=true then⟨x.name,x.distinct,x.n,x.hi,x.lo,x.v,insV x.l v⟩else zbt x v)else x
def z1qg(x:Acc):Val:=if x.n=0∨x.hi< -1∨x.hi>1 then z7 else if inN (x.hi*bigM+x.lo)then numV (x.hi*bigM+x.lo)else z7
open Classical in
def endA(x:Acc):Val:=
 if x.name=zf7∨x.name=zgm then numV x.n else if x.name=nmSum then z1qg x else if x.name=znj∨x.name=zqm then x.v else z7
def z1bf(x:Acc):Val:=endA (x.l.foldl zbt x)
def runA(a:Agg)(l:List Val):Val:=z1bf (l.foldl zqn (zix a))
theorem z2ei{v:Val}(h:z7x v=true)(hk:v.kind=2): -bigM≤v.n∧v.n≤bigM:=by
 simp_all[z7x,inN,bigM]
theorem z2ku{v:Val}(h:cntV nmSum v=true): -bigM≤v.n∧v.n≤bigM:=by
 unfold cntV at h;simp at h;exact z2ei h.1.2 h.2
theorem z2pv:zf7≠nmSum∧zf7≠znj∧zf7≠zqm∧zf7≠zgm∧nmSum≠znj∧nmSum≠zqm∧nmSum≠zgm∧znj≠zqm∧znj≠zgm∧zqm≠zgm∧zrw≠zf7∧zrw≠nmSum∧zrw≠znj∧zrw≠zqm∧zrw≠zgm:=by
 simp[zf7,nmSum,znj,zqm,zgm,zrw]
theorem z2pc{n:Int}:n.tdiv bigM*bigM+n.tmod bigM=n:=by rw[Int.mul_comm];exact Int.mul_tdiv_add_tmod n bigM
theorem z2kv(n:Int): -bigM<n.tmod bigM∧n.tmod bigM<bigM:=by
 have hb:(0:Int)<bigM:=by decide
 refine⟨?_,Int.tmod_lt_of_pos n hb⟩;have:=Int.tmod_lt_of_pos (-n) hb;rw[Int.neg_tmod]at this;omega
theorem z2kw{n:Int}(h1:-2*bigM<n)(h2:n<2*bigM): -1≤n.tdiv bigM∧n.tdiv bigM≤1:=by
 unfold bigM at*;grind
theorem z1hd(x:Acc)(v:Val):(zbt x v).l=x.l∧(zbt x v).distinct=x.distinct∧(zbt x v).name=x.name:=by
 unfold zbt;grind
theorem z2bi(l:List Val)(v:Val):posV l v≤l.length:=(y4y _).length_le
theorem z2kx(l:List Val)(v u:Val):u∈insV l v↔u∈l∨u=v:=by
 unfold insV;split
 ·grind
 ·rw[yc,yg];have:u∈l↔u∈l.take (posV l v)∨u∈l.drop (posV l v):=by rw[←yc,y1m]
  rw[this];constructor
  ·rintro(h|h|h);exact .inl (.inl h);exact .inr h;exact .inl (.inr h)
  ·rintro((h|h)|h);exact .inl h;exact .inr (.inr h);exact .inr (.inl h)
theorem z16y{p:Val→Bool}:∀(l:List Val),∀u∈l.takeWhile p,p u=true
 |[],u,h=>by simp at h
 |a::l,u,h=>by
  rw[y3u]at h;split at h
  ·rcases yg.1 h with rfl|h
   ·omega
   ·exact z16y l u h
  grind
theorem z12e{p:Val→Bool}:∀(l:List Val){y:Val}{r:List Val},l.dropWhile p=y::r→p y=false
 |[],y,r,h=>by simp at h
 |a::l,y,r,h=>by
  rw[y3f]at h;split at h
  ·exact z12e l h
  grind
theorem z14y{l:List Val}{v:Val}:∀u∈l.take (posV l v),ordV u v<0:=by
 grind[posV,ordV,List.takeWhile_append_dropWhile,decide,List.take_left,z16y]
theorem z14z{l:List Val}(h:l.Pairwise fun a b=>ordV a b<0){v:Val}:∀u∈l.drop (posV l v),¬ordV u v<0:=by
 have e:l.drop (posV l v)=l.dropWhile fun x=>ordV x v<0:=by
  grind[posV,List.takeWhile_append_dropWhile,decide,ordV,List.drop_left]
 have hp:(l.dropWhile fun x=>ordV x v<0).Pairwise fun a b=>ordV a b<0:=h.sublist (List.dropWhile_sublist _);cases hd:l.dropWhile fun x=>ordV x v<0 with
 |nil=>grind
 |cons y r=>
  have hy:¬ordV y v<0:=by
   grind[z12e]
  all_goals grind[List.pairwise_cons,znk]
theorem z29z{l:List Val}(h:l.Pairwise fun a b=>ordV a b<0)(v:Val):(insV l v).Pairwise fun a b=>ordV a b<0:=by
 unfold insV;split
 ·omega
 ·have hs:∀u∈l.drop (posV l v),ordV v u<0:=fun u hu=>by
   have h1:=z14z h u hu;grind[ordV,ordV_zero,List.mem_of_mem_drop,zl9]
  rw[y26];refine⟨h.sublist (List.take_sublist _ _),y2j.2 ⟨hs,h.sublist (List.drop_sublist _ _)⟩,fun a ha b hb=>?_⟩;rcases yg.1 hb with rfl|hb
  ·exact z14y a ha
  ·exact znk (z14y a ha) (hs b hb)
theorem z2a0(l:List Val)(v:Val):(insV l v).length≤l.length+1:=by
 grind[insV,z2bi]
theorem z150{nm:ByteArray}{v:Val}(h:zou nm v=true)(hs:nm=nmSum): -bigM≤v.n∧v.n≤bigM:=by
 simp_all[zou,y1g,decide_eq_true_eq,z2pv,z2ku]
end
end B
namespace B
open Go Go.RowKit
set_option maxRecDepth 100000
noncomputable section
attribute [local irreducible] awp ctxK zw z1a retQ z1m awf ctxF z1l
def z6f(r:Acc):RF Un:=([.agg (encC Ty.acc r)],[])
def z1bg(a:Agg):Option (RF Un):=fnF_ z1f6 z286 Tryz.f185 0 [.d] [.d (.agg (enc Ty.agg a))]
theorem z25u(a:Agg):z1bg a=cndO (a.name.toList==(ByteArray.mk #[99,111,117,110,116]).toList) (cndO ((↑a.t.length:Int)==(0:Int)) (some (z6f ({name:=(ByteArray.mk #[114,111,119,115]),distinct:=false,n:=(0:Int),hi:=(0:Int),lo:=(0:Int),v:=z7,l:=[]}))) (some (z6f ({name:=a.name,distinct:=a.distinct,n:=(0:Int),hi:=(0:Int),lo:=(0:Int),v:=z7,l:=[]})))) (cndO (a.name.toList==(ByteArray.mk #[115,117,109]).toList) (cndO (a.name.toList==(ByteArray.mk #[115,117,109]).toList) (some (z6f ({name:=a.name,distinct:=a.distinct,n:=(0:Int),hi:=(0:Int),lo:=(0:Int),v:=z7,l:=[]}))) (some (z6f ({name:=(ByteArray.mk #[]),distinct:=a.distinct,n:=(0:Int),hi:=(0:Int),lo:=(0:Int),v:=z7,l:=[]})))) (cndO (a.name.toList==(ByteArray.mk #[109,105,110]).toList) (cndO (a.name.toList==(ByteArray.mk #[109,105,110]).toList) (some (z6f ({name:=a.name,distinct:=a.distinct,n:=(0:Int),hi:=(0:Int),lo:=(0:Int),v:=z7,l:=[]}))) (some (z6f ({name:=(ByteArray.mk #[]),distinct:=a.distinct,n:=(0:Int),hi:=(0:Int),lo:=(0:Int),v:=z7,l:=[]})))) (cndO (a.name.toList==(ByteArray.mk #[109,97,120]).toList) (some (z6f ({name:=a.name,distinct:=a.distinct,n:=(0:Int),hi:=(0:Int),lo:=(0:Int),v:=z7,l:=[]}))) (some (z6f ({name:=(ByteArray.mk #[]),distinct:=a.distinct,n:=(0:Int),hi:=(0:Int),lo:=(0:Int),v:=z7,l:=[]})))))):=by kernel_rfl
def zla(a:Agg):Acc:=
  if(a.name.toList==(ByteArray.mk #[(99:UInt8),(111:UInt8),(117:UInt8),(110:UInt8),(116:UInt8)]).toList)=true then
   if((↑a.t.length:Int)==(0:Int))=true then
    ({name:=(ByteArray.mk #[(114:UInt8),(111:UInt8),(119:UInt8),(115:UInt8)]),distinct:=false,n:=(0:Int),hi:=(0:Int),lo:=(0:Int),v:=z7,l:=[]})
   else
    ({name:=a.name,distinct:=a.distinct,n:=(0:Int),hi:=(0:Int),lo:=(0:Int),v:=z7,l:=[]})
  else
   if(a.name.toList==(ByteArray.mk #[(115:UInt8),(117:UInt8),(109:UInt8)]).toList)=true then
    if(a.name.toList==(ByteArray.mk #[(115:UInt8),(117:UInt8),(109:UInt8)]).toList)=true then
     ({name:=a.name,distinct:=a.distinct,n:=(0:Int),hi:=(0:Int),lo:=(0:Int),v:=z7,l:=[]})
    else
     ({name:=(ByteArray.mk #[]),distinct:=a.distinct,n:=(0:Int),hi:=(0:Int),lo:=(0:Int),v:=z7,l:=[]})
   else
    if(a.name.toList==(ByteArray.mk #[(109:UInt8),(105:UInt8),(110:UInt8)]).toList)=true then
     if(a.name.toList==(ByteArray.mk #[(109:UInt8),(105:UInt8),(110:UInt8)]).toList)=true then
      ({name:=a.name,distinct:=a.distinct,n:=(0:Int),hi:=(0:Int),lo:=(0:Int),v:=z7,l:=[]})
     else
      ({name:=(ByteArray.mk #[]),distinct:=a.distinct,n:=(0:Int),hi:=(0:Int),lo:=(0:Int),v:=z7,l:=[]})
    else
     if(a.name.toList==(ByteArray.mk #[(109:UInt8),(97:UInt8),(120:UInt8)]).toList)=true then
      ({name:=a.name,distinct:=a.distinct,n:=(0:Int),hi:=(0:Int),lo:=(0:Int),v:=z7,l:=[]})
     else
      ({name:=(ByteArray.mk #[]),distinct:=a.distinct,n:=(0:Int),hi:=(0:Int),lo:=(0:Int),v:=z7,l:=[]})
theorem z25v(a:Agg):z1bg a=some (z6f (zla a)):=by grind[z25u,zla,z8]
def z1hf:FnC Un:=fnF1 (dS .agg) fun a=>([],z6f (zla a))
theorem z25w:FnOK 185 z1hf:=fnK1 zt (M:=z1f6) rfl trivial trivial trivial trivial trivial Tryz.func185 fun a=>GiF.r fun _ _=>z25v a
theorem len0{α:Type}(l:List α):((l.length:Int)==0)=true↔l=[]:=by simp
@[simp] theorem z1uu(a:Agg):zla a=zix a:=by
 unfold zla zix;simp only[z25r,z1qe,z25s,z25t,z1ut,z2nc,z12d,len0];by_cases h1:a.name=zf7
 ·simp[h1]
 ·by_cases h2:a.name=nmSum
  ·simp[h1,h2]
  ·by_cases h3:a.name=znj
   ·rw[h3]at h1 h2;simp[h1,h2,h3]
   ·simp[h1,h2,h3]
def z1bh:Mc Un:=mcF_ [(240,z15q)] [] [] [] []
def z16z(x:Acc)(v:Val):Option (RF Un):=fnF_ z1bh z286 Tryz.f220 0 [.d] [.d (.agg (enc Ty.acc x)),.d (.agg (enc Ty.val v))]
theorem z20t(x:Acc)(v:Val):z16z x v=cndO (x.name.toList==(ByteArray.mk #[114,111,119,115]).toList) (some (z9b (true))) (cndO (v.kind !=0) (cndO (zc3 v) (cndO (!x.name.toList==(ByteArray.mk #[115,117,109]).toList) (some (z9b (true))) (some (z9b (v.kind==2)))) (some (z9b (false)))) (some (z9b (false)))):=by kernel_rfl
def znl(x:Acc)(v:Val):Bool:=zou x.name v
@[simp] theorem z20u(x:Acc)(v:Val):znl x v=zou x.name v:=by rfl
theorem z1qh(x:Acc)(v:Val)(_hx:WS .acc x)(_hv:WS .val v):z16z x v=some (z9b (znl x v)):=by
 rw[z20t];unfold znl zou cntV;simp only[z8,z1qe,z1ut,z12d,z1sz,y1y];by_cases h1:x.name=zgm
 ·grind
 ·by_cases h2:v.kind=0
  ·grind
  ·by_cases h3:z7x v=true
   ·by_cases h4:x.name=nmSum
    ·grind
    ·have e:(x.name.toList==nmSum.toList)=false:=by
      grind[z12d]
     grind
   grind
def z1bi:FnC Un:=fnF2 (dS .acc) (dS .val) fun x v=>([],z9b (znl x v))
theorem z20v:FnOK 220 z1bi:=fnK2 zt zt (M:=z1bh) rfl ⟨z1t0,trivial⟩ trivial trivial trivial trivial Tryz.func220 fun x v=>GiF.r fun w _=>z1qh x v (wfA_ w 0) (wfA_ w 1)
def z12f(hi:Int)(lo:Int):Option (RF Un):=fnF_ z1f6 z286 Tryz.f241 0 [.d,.d] [.d (.v (.s (.int .i64 hi))),.d (.v (.s (.int .i64 lo)))]
theorem z1uv(hi:Int)(lo:Int):z12f hi lo=obO (¬(1000000000000000:Int)=(0:Int)) (obO (¬(1000000000000000:Int)=(0:Int)) (some (z80 (IntKind.i64.wrap (hi+IntKind.i64.wrap (lo.tdiv (1000000000000000:Int))),lo.tmod (1000000000000000:Int))))):=by kernel_rfl
def ziy(hi lo:Int):Int×Int:=(hi+lo.tdiv bigM,lo.tmod bigM)
theorem z1kk(hi lo:Int)(_h1:WI hi)(_h2:WI lo)(h:(-1000000000≤hi∧hi≤1000000000)∧-2000000000000000≤lo∧lo≤2000000000000000):z12f hi lo=some (z80 (ziy hi lo)):=by
 grind[z1uv,ziy,bigM,z6,z1f]
def z171:FnC Un:=fnF2 (dI .i64) (dI .i64) fun hi lo=>([(-1000000000≤hi∧hi≤1000000000)∧-2000000000000000≤lo∧lo≤2000000000000000],z80 (ziy hi lo))
theorem z1uw:FnOK 241 z171:=fnK2 z17 z17 (M:=z1f6) rfl trivial trivial trivial trivial trivial Tryz.func241 fun hi lo=>GiF.r fun w o=>z1kk hi lo (wfA_ w 0) (wfA_ w 1) (obA_ o 0)
def z1hg:Mc Un:=mcF_ [(241,z171),(147,zb7)] [] [] [] []
def z1bj(x:Acc)(v:Val):Option (RF Un):=fnF_ z1hg z286 Tryz.f221 0 [.d] [.d (.agg (enc Ty.acc x)),.d (.agg (enc Ty.val v))]
theorem z25y(x:Acc)(v:Val):z1bj x v=cndO (x.name.toList==(ByteArray.mk #[115,117,109]).toList) (obO (((-1000000000:Int)≤x.hi∧x.hi≤1000000000)∧(-2000000000000000:Int)≤IntKind.i64.wrap (x.lo+v.n)∧IntKind.i64.wrap (x.lo+v.n)≤2000000000000000) (some (z6f ({name:=x.name,distinct:=x.distinct,n:=IntKind.i64.wrap (x.n+1),hi:=(ziy x.hi (IntKind.i64.wrap (x.lo+v.n))).fst,lo:=(ziy x.hi (IntKind.i64.wrap (x.lo+v.n))).snd,v:=x.v,l:=x.l})))) (cndO (x.name.toList==(ByteArray.mk #[109,105,110]).toList) (cndO (IntKind.i64.wrap (x.n+1)==1) (some (z6f ({name:=x.name,distinct:=x.distinct,n:=IntKind.i64.wrap (x.n+1),hi:=x.hi,lo:=x.lo,v:=v,l:=x.l}))) (cndO (decide (zbg v x.v<0)) (some (z6f ({name:=x.name,distinct:=x.distinct,n:=IntKind.i64.wrap (x.n+1),hi:=x.hi,lo:=x.lo,v:=v,l:=x.l}))) (some (z6f ({name:=x.name,distinct:=x.distinct,n:=IntKind.i64.wrap (x.n+1),hi:=x.hi,lo:=x.lo,v:=x.v,l:=x.l}))))) (cndO (x.name.toList==(ByteArray.mk #[109,97,120]).toList) (cndO (IntKind.i64.wrap (x.n+1)==1) (some (z6f ({name:=x.name,distinct:=x.distinct,n:=IntKind.i64.wrap (x.n+1),hi:=x.hi,lo:=x.lo,v:=v,l:=x.l}))) (cndO (decide (zbg v x.v>0)) (some (z6f ({name:=x.name,distinct:=x.distinct,n:=IntKind.i64.wrap (x.n+1),hi:=x.hi,lo:=x.lo,v:=v,l:=x.l}))) (some (z6f ({name:=x.name,distinct:=x.distinct,n:=IntKind.i64.wrap (x.n+1),hi:=x.hi,lo:=x.lo,v:=x.v,l:=x.l}))))) (some (z6f ({name:=x.name,distinct:=x.distinct,n:=IntKind.i64.wrap (x.n+1),hi:=x.hi,lo:=x.lo,v:=x.v,l:=x.l}))))):=by kernel_rfl
def zlb(x:Acc)(v:Val):Acc:=zbt x v
@[simp] theorem z1bk(x:Acc)(v:Val):zlb x v=zbt x v:=by rfl
def zuc(x:Acc):Prop:=(0≤x.n∧x.n≤1000000000)∧(-100000000≤x.hi∧x.hi≤100000000)∧-1000000000000000<x.lo∧x.lo<1000000000000000
theorem z1ux(x:Acc)(v:Val)(_hx:WS .acc x)(_hv:WS .val v)(h:zuc x∧(x.name=nmSum→-1000000000000000≤v.n∧v.n≤1000000000000000)):z1bj x v=some (z6f (zlb x v)):=by
 obtain⟨⟨h1,h2,h3⟩,h4⟩:=h;rw[z25y];unfold zlb zbt;simp only[z8,z1qe,z25s,z25t,z12d,z23i];rw[z1f (n:=x.n+1) (by omega)];by_cases hs:x.name=nmSum
 ·have h4':=h4 hs;rw[if_pos hs,if_pos hs];have e:IntKind.i64.wrap (x.lo+v.n)=x.lo+v.n:=z1f (by omega);rw[e,z6 (by omega)];rfl
 grind
def z10e:FnC Un:=fnF2 (dS .acc) (dS .val) fun x v=>([zuc x∧(x.name=nmSum→-1000000000000000≤v.n∧v.n≤1000000000000000)],z6f (zlb x v))
theorem z1bl:FnOK 221 z10e:=fnK2 zt zt (M:=z1hg) rfl ⟨z1uw,zoj,trivial⟩ trivial trivial trivial trivial Tryz.func221 fun x v=>GiF.r fun w o=>z1ux x v (wfA_ w 0) (wfA_ w 1) (obA_ o 0)
@[simp] theorem z12g(n:Int):zh n=numV n:=rfl
def z1hh:Mc Un:=mcF_ [(211,zc2),(32,zer)] [] [] [] []
def z1bm(x:Acc):Option (RF Un):=fnF_ z1hh z286 Tryz.f225 0 [.d] [.d (.agg (enc Ty.acc x))]
theorem z25z(x:Acc):z1bm x=cndO (x.n==0) (some (zzd (z7))) (cndO (decide (x.hi<(-1:Int))) (some (zzd (z7))) (cndO (decide (x.hi>1)) (some (zzd (z7))) (cndO (!z1o (IntKind.i64.wrap (IntKind.i64.wrap (x.hi*1000000000000000)+x.lo))) (some (zzd (z7))) (some (zzd (zh (IntKind.i64.wrap (IntKind.i64.wrap (x.hi*1000000000000000)+x.lo)))))))):=by kernel_rfl
def zrx(x:Acc):Val:=z1qg x
theorem z1uy(x:Acc)(_hx:WS .acc x)(h:zuc x):z1bm x=some (zzd (zrx x)):=by
 obtain⟨h1,h2,h3⟩:=h;rw[z25z];unfold zrx z1qg;simp only[z8,zze,z12g,beq_iff_eq,decide_eq_true_eq,y1y];grind[bigM,z1f,inN]
def z1hi:FnC Un:=fnF1 (dS .acc) fun x=>([zuc x],zzd (zrx x))
theorem z260:FnOK 225 z1hi:=fnK1 zt (M:=z1hh) rfl ⟨zbf,zfs,trivial⟩ trivial trivial trivial trivial Tryz.func225 fun x=>GiF.r fun w o=>z1uy x (wfA_ w 0) (obA_ o 0)
end
end B
namespace B
open Go Go.RowKit Go.Shelf
set_option maxRecDepth 1000000
def z7c(n z:Nat)(cv:Nat→Nat→Value):List Value:=(List.range (n*z)).map fun q=>cv (q/z) (q % z)
theorem zud(n z:Nat)(cv:Nat→Nat→Value):(z7c n z cv).length=n*z:=by simp[z7c]
theorem z1qi{n z:Nat}{cv:Nat→Nat→Value}(hz:0<z){i j:Nat}(hi:i<n)(hj:j<z):(z7c n z cv)[i*z+j]?=some (cv i j):=by
 have h:i*z+j<n*z:=by
  have:(i+1)*z≤n*z:=y1e _ hi;rw[y1k]at this;omega
 unfold z7c;rw[y14,y3k h];simp only[y1x];rw[show(i*z+j)/z=i by rw[y2d,Nat.mul_add_div hz,Nat.div_eq_of_lt hj];omega,show(i*z+j) % z=j by rw[y2d,y44,y3l hj]]
theorem zue {n z:Nat} {cv:Nat→Nat→Value} {q:Nat} {u:Value} (h:(z7c n z cv)[q]? = some u) : ∃ i j,i<n∧j<z∧q=i*z+j∧u=cv i j:=by
  have hq:q<n*z:=by have:=(yl.1 h).1;rwa [zud] at this
  have hz : 0 < z := by rcases y3n z with e | e; · subst e; omega
                        · exact e
  refine⟨q / z,q % z,(y42 hz).2 hq,y2o _ hz,by rw[y2d];exact (y43 q z).symm,?_⟩;unfold z7c at h;rw[y14,y3k hq] at h;simpa using h.symm
open Classical in
theorem z1do{St:Nat→Nat→Prop}{w w':World}{v:Value}{e:TypeId}{τ:Ty}{xs:List (Den τ)}{news:List Value}(hext:Ext w w')(hbd:∀b o,St b o→b<w.heap.size)(hlen:xs.length≤9223372036854775807)
  (hrow:w'.ownsRow w.heap.size e (sz τ) v xs.length news)(hrel:∀i(hi:i<xs.length) j d,(enc τ xs[i])[j]?=some d→∃u,news[i*sz τ+j]?=some u∧VRel En St w u d):
  Ret Tryz.prog En St w w' v [.c (.ob 0 0)] [⟨0,τ,xs,some 0,true⟩]:=by
 refine⟨hext,?_⟩;obtain⟨hnl,⟨rfl,hn0⟩|⟨gb,cap,cur,rfl,hge,hheap,hcap,hmax,hsz,htake⟩⟩:=hrow
 ·have hx:xs=[]:=yz hn0;subst hx;refine⟨⟨fun _=>0,fun _=>False,fun b o=>if St b o then some .st else none,fun _=>(none,0)⟩,fun _ h=>h,?_,?_,?_,?_⟩
  ·intro b o x _ hx;have hx':(if St b o then some Own.st else none)=some x:=hx;split at hx'
   ·rename_i hs;simp at hx';exact⟨hx'.symm,hs⟩
   ·simp at hx'
  ·intro b o x hx;have hx':(if St b o then some Own.st else none)=some x:=hx;split at hx'
   ·rename_i hs;exact yn (hbd b o hs) hext.le
   ·simp at hx'
  ·exact⟨rfl,_,rfl,y6 _,fun _=>rfl⟩
  ·intro k o ho;cases k with
   |zero=>simp at ho;subst ho;exact⟨⟨⟨⟨y6 _,by simp⟩,fun f hf=>by simp at hf;subst hf;exact y6 _⟩,fun h=>absurd h (y4f 0)⟩,rfl⟩
   |succ k=>simp at ho
 ·have hcell:∀q,q<cap*sz τ→w'.cell? ⟨gb,q,none⟩=cur[q]?∧(∃u,w'.cell? ⟨gb,q,none⟩=some u)∧stuck w' ⟨gb,q,none⟩=false:=by
   intro q hq;have h1:w'.cell? ⟨gb,q,none⟩=cur[q]?:=by simp[World.cell?,hheap]
   refine⟨h1,⟨cur[q]'(by omega),by rw[h1];exact y2i _⟩,?_⟩;simp[stuck,World.shape?,World.frozen?,hheap]
  have hgb:gb<w'.heap.size:=(y2v.1 hheap).1;let g:G:=⟨fun _=>0,fun _=>False,fun b o=>if b<w.heap.size then(if St b o then some .st else none)else if b=gb∧o<cap*sz τ then some (.obj 0)else none,fun _=>(some ⟨gb,0,none⟩,cap)⟩;have hω:∀o,o<cap*sz τ→g.ω gb o=some (.obj 0):=fun o ho=>by
   show(if gb<w.heap.size then _ else _)=_;rw[if_neg (by omega),if_pos ⟨rfl,ho⟩]
  have hst:Keeps St w g.St w':=fun b o hs=>by
   refine⟨?_,hext.cell (p:=⟨b,o,none⟩) (hbd b o hs)⟩;show(if b<w.heap.size then _ else _)=_;rw[if_pos (hbd b o hs),if_pos hs]
  refine⟨g,fun _ h=>h,?_,?_,?_,?_⟩
  ·intro b o x hb hx;have hx':(if b<w.heap.size then(if St b o then some Own.st else none)else _)=some x:=hx;rw[if_pos hb]at hx';split at hx'
   ·rename_i hs;simp at hx';exact⟨hx'.symm,hs⟩
   ·simp at hx'
  ·intro b o x hx;have hx':(if b<w.heap.size then(if St b o then some Own.st else none)else if b=gb∧o<cap*sz τ then some (Own.obj 0)else none)=some x:=hx;split at hx'
   ·rename_i hb;exact yn hb hext.le
   ·split at hx'
    ·rename_i hh;rw[hh.1];exact hgb
    ·simp at hx'
  ·exact⟨rfl,_,rfl,y6 _,fun _=>rfl⟩
  ·intro k o ho;cases k with
   |succ k=>simp at ho
   |zero=>
    simp at ho;subst ho;refine⟨⟨⟨⟨hcap,hlen⟩,fun f hf=>by simp at hf;subst hf;exact yb _⟩,fun _=>⟨gb,0,fun i j=>cur.getD (i*sz τ+j) undef,rfl,⟨?_,?_,?_⟩⟩⟩,rfl⟩
    ·intro i j hi hj;have hlt:i*sz τ+j<cap*sz τ:=by
      have h1:(i+1)*sz τ≤cap*sz τ:=y1e _ (y1c hi hcap);have hj':j<sz τ:=hj;rw[y1k]at h1;omega
     obtain⟨c1,_,c3⟩:=hcell _ hlt;have e0:0+i*Un.sz τ+j=i*sz τ+j:=by show 0+i*sz τ+j=_;omega
     refine⟨?_,?_⟩
     ·show w'.cell? ⟨gb,0+i*Un.sz τ+j,none⟩=_;rw[e0,c1,y4a,y2i (by omega)];rfl
     ·show Mode g w' 0 (some 0) i gb (0+i*Un.sz τ+j);rw[e0];exact⟨fun h=>absurd h (y18 _),fun _=>⟨hω _ hlt,c3⟩⟩
    ·intro i hi j d hd;obtain⟨u,hu,hr⟩:=hrel i hi j d hd;have hj:j<sz τ:=by have h0:j<(enc τ (xs[i]'hi)).length:=(yl.1 hd).1;rwa[zgx]at h0
     have hlt:i*sz τ+j<xs.length*sz τ:=by
      have h1:(i+1)*sz τ≤xs.length*sz τ:=y1e _ hi;rw[y1k]at h1;omega
     have hu2:cur.getD (i*sz τ+j) undef=u:=by
      rw[←htake,y2q hlt,y28]at hu;rw[y4a,hu];rfl
     show VRel En g.St w' (cur.getD (i*sz τ+j) undef) d;rw[hu2];exact hr.mono hst
    ·intro _ x hx hx';have hx2:x<cap*sz τ:=hx';obtain⟨_,c2,c3⟩:=hcell x hx2;show g.ω gb (0+x)=_∧_;rw[y16];exact⟨hω x hx2,c2,c3⟩
set_option maxHeartbeats 2000000 in
theorem z2ej{P:Program}{ρ:Ren}(L:SlLaysE0.n41 P ρ)(i0:TypeInfo)(z:Value)(size bytes:Nat)(hi:P.info? (ρ.t 23)=some i0)(hz0:i0.zero=some z)(hz1:i0.size=size)(hz2:i0.bytes=bytes)(hzs:z.cells.size=size)(hsz:0<size)
  (z23:∀w,(Go.sizeOf (ρ.t 23)).run P w=.ok size w)(a:Addr)(c:Nat)(w:World):
  Calls P (ρ.f 41) #[.slice (some a) 0 c] w fun e w'=>∃v',e=.returned v'∧w'.ownsRow w.heap.size (ρ.t 23) size v' 0 []∧Below w.heap.size w w':=by
 have mixed:=L.mixed;have t4:=L.t4;have a4:=L.a4;have z4:=L.z4;have v4:=L.v4;have t22:=L.t22;have a22:=L.a22;have z22:=L.z22;have v22:=L.v22;have q22:∀(w:World)(a:Option Addr)(n c n' c':Nat),(binOp .eql (ρ.t 22) (.slice a n c) (.slice none n' c')).run P w=.ok (.bool a.isNone) w:=fun w a n c n' c'=>Lib.run_eql_slice_nil w _ _ a n c n' c' L.t22;have u22:∀w,Sem.run P (underlying (ρ.t 22)) w=.ok (TypeDesc.slice (ρ.t 23)) w:=run_underlying t22;obtain⟨_,_,FG⟩:=L.f41
 go_enter FG,SlBodyN.n41_ntmps ρ
 go_wp2_with (at_builtin;refine wpList_append_own _ rfl _ _ (ρ.t 22) rfl w.heap.size (ρ.t 23) i0 z size bytes t22 hi hz0 hz1 hz2 hzs hsz _ _ _ rfl (World.ownsRow_made w #[] 0 (y6 _) (yb _) (by simp)) a 0 c [] rfl ?qc1 ?qc2 ?qc3 ?qc4 ?qc5 ?qc6 ?_)
 case qc1=>simp
 case qc2=>intro j u hj;simp at hj
 case qc3=>intro u hu;simp at hu
 case qc4=>unfold maxLen;omega
 case qc5=>omega
 case qc6=>simp
 intro v' w1 hown hgrow hnil
 go_wp2
 go_ret;exact⟨v',rfl,by simpa using hown,((Below.refl _ w).alloc (y6 _) _).grown hgrow (by simp) (by intro k hk;simp[Value.ownBlock]at hk;omega)⟩
theorem z1bn{w w':World}(h:Below w.heap.size w w'):Ext w w':=⟨h.os,h.tape,h.output,h.size,h.block⟩
def zuw(τ:Ty):FnC Un:=fun args=>match args with
 |[x0]=>(dL τ x0).bind fun s=>some ([s.length≤1000000000],[.c (.ob 0 0)],[⟨0,τ,s,some 0,true⟩])
 |_=>none
theorem z2ky{ρ:Ren}(L:SlLaysE0.n41 Tryz.prog ρ)(τ:Ty)(i0:TypeInfo)(z:Value)(bytes:Nat)(hi:Tryz.prog.info? (ρ.t 23)=some i0)(hz0:i0.zero=some z)(hz1:i0.size=sz τ)(hz2:i0.bytes=bytes)(hzs:z.cells.size=sz τ)(hsz:0<sz τ)
    (hb:bytes≤100000)(z23:∀w,(Go.sizeOf (ρ.t 23)).run Tryz.prog w=.ok (sz τ) w)(hB:z32 Tryz.prog (ρ.f 41)):FnOK (ρ.f 41) (zuw τ):=by
  intro args ob rs os h hob;unfold zuw at h;split at h
  · simp only[y7,y8,ym]at h;obtain⟨s,e0,rfl,rfl,rfl⟩:=h;obtain rfl:=zr e0;have hlen:s.length≤1000000000:=hob _ (by simp);refine⟨fun w St vs hbd hvs hld=>?_,hB⟩
    match vs,hvs with
    |[v0],⟨h0,_⟩=>
      have hV:VRel En St w v0 (.dat τ s):=h0;rcases hV.inv with⟨rfl,a,cap,rfl⟩|⟨b,o,cap,cv,rfl,hcap,hc,hr⟩
      · cases a with
        |none=>
          refine(AnyE.slices_Clone_nil L 0 cap w).mono ?_;rintro e w' ⟨rfl,rfl⟩;exact⟨_,rfl,z1do (e:=ρ.t 23) (news:=[]) (Ext.refl _) hbd (by simp) ⟨by simp,.inl ⟨rfl,rfl⟩⟩ (fun i hi=>absurd hi (y18 _))⟩
        |some a=>
          refine(z2ej L i0 z (sz τ) bytes hi hz0 hz1 hz2 hzs hsz z23 a cap w).mono ?_;rintro e w' ⟨v',rfl,hown,hbel⟩;exact⟨v',rfl,z1do (z1bn hbel) hbd (by simp) hown (fun i hi=>absurd hi (y18 _))⟩
      · have hcell:∀j u,(z7c s.length (sz τ) cv)[j]?=some u→w.cell? ⟨b,o+j,none⟩=some u∧∃i q,i<s.length∧q<sz τ∧j=i*sz τ+q∧u=cv i q:=by
          intro j u hj;obtain⟨i,q,hi,hq,rfl,rfl⟩:=zue hj;refine⟨?_,i,q,hi,hq,rfl,rfl⟩;have:=(hc i q hi hq).2;rw[←y1d];exact this
        have hone:∀u∈z7c s.length (sz τ) cv,u.oneCell'=true:=by
          intro u hu;obtain⟨j,hj⟩:=y1u hu;obtain⟨_,i,q,hi,hq,_,rfl⟩:=hcell j u hj;have hq':q<(enc τ (s[i]'hi)).length:=by rw[zgx];exact hq
          have:=hr i hi q _ (ya hq');exact z1sg this.one
        refine(AnyE.slices_Clone L i0 z (sz τ) bytes hi hz0 hz1 hz2 hzs hsz z23 b o s.length cap (z7c s.length (sz τ) cv) w (zud _ _ _) (by unfold maxLen;omega)
          (by have:s.length*bytes≤1000000000*100000:=y22 hlen hb
              omega) (fun j u hj=>(hcell j u hj).1) hone).mono ?_
        rintro e w' ⟨v',rfl,hown,_,hbel⟩;refine⟨v',rfl,z1do (z1bn hbel) hbd (by omega) hown fun i hi j d hd=>?_⟩;have hj:j<sz τ:=by have h0:j<(enc τ (s[i]'hi)).length:=(yl.1 hd).1;rwa[zgx]at h0
        exact⟨cv i j,z1qi hsz hi hj,hr i hi j d hd⟩
  · simp at h
def mach0:Mc Un:=mach (fun _=>none) (fun _=>none) (fun _=>none) (fun _=>none) (fun _=>none)
def z1qj(t e:TypeId)(τ:Ty):Bool:=match mach0.ti t with| .sl e' τ' b=>e'==e&&decide (τ'=τ)&&decide (b≤100000)|_=>false
theorem slOf{t e:TypeId}{τ:Ty}(h:z1qj t e τ=true):∃bytes i z,bytes≤100000∧0<bytes∧0<sz τ∧Tryz.prog.underlying t=some (.slice e)∧Tryz.prog.info? e=some i∧i.size=sz τ∧i.bytes=bytes∧i.zero=some z∧z.cells.size=sz τ:=by
 unfold z1qj at h;split at h
 ·rename_i e' τ' b hti;simp only[yp,beq_iff_eq,decide_eq_true_eq]at h;obtain⟨⟨rfl,rfl⟩,hb⟩:=h;have h:=((z21p (fun _=>none) (fun _=>none) (fun _=>none) (fun _=>none) (fun _=>none)).ti t).2;rw[show(mach (fun _=>none) (fun _=>none) (fun _=>none) (fun _=>none) (fun _=>none)).ti t=.sl e' τ' b from hti]at h;obtain⟨h0,⟨h1,h1'⟩,i,z,h2,h3,h4,h5,h6⟩:=h;exact⟨b,i,z,hb,h1',h1,h0,h2,h3,h4,h5,h6⟩
 ·simp at h
theorem z151{ρ:Ren}(L:SlLaysE0.n41 Tryz.prog ρ){τ:Ty}(hti:z1qj (ρ.t 22) (ρ.t 23) τ=true)(hB:z32 Tryz.prog (ρ.f 41)):FnOK (ρ.f 41) (zuw τ):=by
 obtain⟨bytes,i,z,hb,h1',h1,h0,h2,h3,h4,h5,h6⟩:=slOf hti;refine z2ky L τ i z bytes h2 h5 h3 h4 h6 h1 hb (fun w=>?_) hB;have:=Go.run_sizeOf w h2;rw[this];simp only[Program.cellsOf,h2];exact congrArg (fun n=>Result.ok n w) h3
end B
namespace B
open Go Go.RowKit Go.Shelf
set_option maxRecDepth 1000000
def z1uz:Ren:=⟨fun|41=>85|n=>n,fun|4=>4|22=>27|23=>57|n=>n,fun|n=>n⟩
theorem z1qk:SlLaysE0.n41 Tryz.prog z1uz:={
  mixed:=by kernel_rfl
  f41:=⟨Tryz.f85.name,by kernel_rfl,Tryz.func85.trans (congrArg some (by kernel_rfl))⟩
  t4:=Tryz.underlying4
  a4:=Tryz.isAgg4
  z4:=Tryz.sizeOf4
  v4:=Tryz.zeroValue4
  t22:=Tryz.underlying27
  a22:=Tryz.isAgg27
  z22:=Tryz.sizeOf27
  v22:=Tryz.zeroValue27}
def znm:FnC Un:=zuw .row
theorem zsv:FnOK 85 znm:=z151 z1qk (by kernel_rfl) (zk Tryz.func85 (by kernel_rfl) (by kernel_rfl))
def z20x:Ren:=⟨fun|41=>224|n=>n,fun|4=>4|22=>56|23=>37|n=>n,fun|n=>n⟩
theorem z1v0:SlLaysE0.n41 Tryz.prog z20x:={
  mixed:=by kernel_rfl
  f41:=⟨Tryz.f224.name,by kernel_rfl,Tryz.func224.trans (congrArg some (by kernel_rfl))⟩
  t4:=Tryz.underlying4
  a4:=Tryz.isAgg4
  z4:=Tryz.sizeOf4
  v4:=Tryz.zeroValue4
  t22:=Tryz.underlying56
  a22:=Tryz.isAgg56
  z22:=Tryz.sizeOf56
  v22:=Tryz.zeroValue56}
def z1hj:FnC Un:=zuw .val
theorem z261:FnOK 224 z1hj:=z151 z1v0 (by kernel_rfl) (zk Tryz.func224 (by kernel_rfl) (by kernel_rfl))
def z20y:Ren:=⟨fun|41=>140|n=>n,fun|4=>4|22=>57|23=>37|n=>n,fun|n=>n⟩
theorem z1v1:SlLaysE0.n41 Tryz.prog z20y:={
  mixed:=by kernel_rfl
  f41:=⟨Tryz.f140.name,by kernel_rfl,Tryz.func140.trans (congrArg some (by kernel_rfl))⟩
  t4:=Tryz.underlying4
  a4:=Tryz.isAgg4
  z4:=Tryz.sizeOf4
  v4:=Tryz.zeroValue4
  t22:=Tryz.underlying57
  a22:=Tryz.isAgg57
  z22:=Tryz.sizeOf57
  v22:=Tryz.zeroValue57}
theorem z262:FnOK 140 z1hj:=z151 z1v1 (by kernel_rfl) (zk Tryz.func140 (by kernel_rfl) (by kernel_rfl))
end B
end Go.Proofs.YtjfpbchdcbhfgaaGreat
