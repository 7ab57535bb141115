/- Part 11 of the proof: Lnla Lscalar Lcompare Slcmp Svcmp Svord Snum2 Stri Sdeqp Shelf Lindexb. -/
import Derived.Lib.Bytealg
import Derived.Lib.Strings
import Derived.Lib.Walk
import Derived.Shelf.Small.Strs
import Derived.Shelf.Small.Wraps
import Derived.Shelf.Strings.Search1
import Derived.Shelf.GgClosure.StringsIndexFunc
import Derived.Ground.GgwProg
import Derived.Shelf.GgClosure.StringsIndexFuncTop
import Derived.Shelf.GgClosure.StringsRunes
import Derived.Shelf.Strings.FuncGrows
import Derived.Shelf.Slices.Turned
import Derived.Ground.Names2Prog
import Derived.Shelf.Slices.SearchI
import Derived.Test.YtjfpbchdcbhfgaaGreatProg
import Derived.Test.YtjfpbchdcbhfgaaGreatNsy10
set_option linter.unusedVariables false
set_option linter.unusedSimpArgs false
set_option linter.defProp false
namespace Go.Proofs.YtjfpbchdcbhfgaaGreat.B
open Go Go.RowKit
def aoh{n x}(h1:0≤n)(h2:n≤1048576)(h3:0≤x)(h4:x≤1048576):eY n x=if 1048576<n+x then 1048576 else n+x:=by
 grind[eY,zm]
theorem lz a b:cU a b=if b<a then b else a:=rfl
theorem qB a b:dh a b=if a<b then b else a:=rfl
def Al{α:Type}(f:α→Int):∀(l:List α)(n:Int),(∀x∈l,0≤f x∧f x≤1048576)→0≤n→n≤1048576→
 n≤l.foldl (fun n x=>eY n (f x)) n∧l.foldl (fun n x=>eY n (f x)) n≤1048576∧(l.foldl (fun n x=>eY n (f x)) n≤20000→∀x∈l,f x≤20000)
 |[],n,_,h1,h2=>⟨pJ _,h2,fun _ x hx=>absurd hx (by simp)⟩
 |y::l,n,hf,h1,h2=>by
  have hy:=hf y cP;have e:=aoh h1 h2 hy.1 hy.2;obtain⟨g1,g2,g3⟩:=Al f l (if 1048576<n+f y then 1048576 else n+f y) (fun x hx=>hf x (cV _ hx)) (by omega) (by omega);grind
def Am{α:Type}(f:α→Int):∀(l:List α)(n:Int),(∀x∈l,0≤f x∧f x≤1048576)→0≤n→n+l.length*1048576≤4611686018427387904→
 n≤l.foldl (fun n x=>bW n (f x)) n∧l.foldl (fun n x=>bW n (f x)) n≤n+l.length*1048576∧(∀x∈l,n+f x≤l.foldl (fun n x=>bW n (f x)) n)
 |[],n,_,h1,h2=>⟨pJ _,by simp,fun x hx=>absurd hx (by simp)⟩
 |y::l,n,hf,h1,h2=>by
  have hy:=hf y cP;rw[yz]at h2 ⊢;have e:bW n (f y)=n+f y:=by grind[bW,zm]
  obtain⟨g1,g2,g3⟩:=Am f l (n+f y) (fun x hx=>hf x (cV _ hx)) (by omega) (by omega);grind
def aoi db r:nC db (lu db 1 r.terms) r.aggs=(cw r).foldl (fun n t=>bW n<|dH db t) 1:=by
 have key:∀(l:List Agg)(n:Int),nC db n l=(ei l).foldl (fun n t=>bW n<|dH db t) n:=by
  intro l
  induction l with
  |nil=>simp[nC,ei,Bc]
  |cons a l ih=>simp_all[nC,ei,nP,Vw,BW]
 simp_all[cw,nP,BW]
def kw(op held rl:Int)(rows:List Int):Int×Int:=
 if op=1 then(held,held)
 else if rows.length=0 then(rl,rl)
 else if rows.length=1 then(rows.getD 0 0,dh (rows.getD 0 0) 1)
 else if op=5∨op=6 then(IntKind.i64.wrap<|rows.getD 0 0*dh (rows.getD 1 0) 1,IntKind.i64.wrap<|rows.getD 0 0*dh (rows.getD 1 0) 1)
 else(IntKind.i64.wrap<|rows.getD 0 0+rows.getD 1 0,IntKind.i64.wrap<|rows.getD 0 0+rows.getD 1 0)
def aoj op held rl n rows asks:zZ op held rl n rows asks=(cU (kw op held rl rows).2 1048576,cU (bW n<|IntKind.i64.wrap<|cU (kw op held rl rows).1 1048576*cU asks 1048576) 1048576):=by
 grind[zZ,kw]
def bK(db:List Data)(r:Rel):Int×Int:=kw r.op (mH r.table db) r.rows.length<|r.kids.map fun k=>(bd db k).1
def jY(db:List Data)(r:Rel):Int:=(cw r).foldl (fun n t=>bW n<|dH db t) 1
def An(db:List Data)(r:Rel):Int:=r.kids.foldl (fun n k=>bW n (bd db k).2) 0
def XK db r:bd db r=(cU (bK db r).2 1048576,cU (bW (An db r)<|IntKind.i64.wrap<|cU (bK db r).1 1048576*cU (jY db r) 1048576) 1048576):=by
 rw[Vz,aoi,aoj];rfl
def jG:List Data→Nat
 |[]=>0
 |d::l=>d.rows.length+jG l
def EL table:∀(db:List Data)(n:Int),0≤n→n+jG db≤4611686018427387904→n≤db.foldl (lr table) n∧db.foldl (lr table) n≤n+jG db∧∀d∈db,(d.table.toList==table.toList)=true→n+d.rows.length≤db.foldl (lr table) n
 |[],n,_,_=>⟨pJ _,by grind,fun d hd=>absurd hd (by simp)⟩
 |y::l,n,h1,h2=>by
  simp only[jG]at h2 ⊢;rw[yq];unfold lr;by_cases c:(y.table.toList==table.toList)=true
  ·have e:bW n y.rows.length=n+y.rows.length:=by grind[bW,zm]
   rw[if_pos c,e];obtain⟨g1,g2,g3⟩:=EL table l (n+y.rows.length) (by omega) (by omega);refine⟨by unfold lr at g1;omega,by unfold lr at g2;omega,fun d hd hc=>?_⟩;rcases yh.1 hd with rfl|hd
   ·exact g1
   ·have:=g3 d hd hc;unfold lr at this;omega
  ·rw[if_neg c];obtain⟨g1,g2,g3⟩:=EL table l n h1 (by omega);refine⟨g1,by unfold lr at g2;omega,fun d hd hc=>?_⟩;rcases yh.1 hd with rfl|hd
   ·grind
   ·exact g3 d hd hc
theorem td db(r:Rel) i(h:i<r.kids.length):(r.kids.map fun k=>(bd db k).1).getD i 0=(bd db<|r.kids.getD i za).1:=by
 grind
def Ao{a b:Int}(ha:0≤a)(ha2:a≤1048576)(hb:0≤b)(hb2:b≤1048576):0≤a*b∧a*b≤1099511627776:=by
 refine⟨Int.mul_nonneg ha hb,?_⟩;have h1:=y4p ha2 hb;omega
def XL db(hd:jG db≤2000000) r(hr:r.rows.length≤2000000)(hk:∀k∈r.kids,0≤(bd db k).1∧(bd db k).1≤1048576):0≤(bK db r).1∧(bK db r).1≤1099511627776∧0≤(bK db r).2∧(bK db r).2≤1099511627776:=by
 have hh:=EL r.table db 0 (by omega) (by omega);have hg:∀i,0≤(r.kids.map fun k=>(bd db k).1).getD i 0∧(r.kids.map fun k=>(bd db k).1).getD i 0≤1048576:=fun i=>by
  grind
 have g0:=hg 0;have g1:=hg 1;unfold bK kw mH;generalize(r.kids.map fun k=>(bd db k).1).getD 1 0=b at*;have hm:0≤dh b 1∧dh b 1≤1048576:=by grind[qB]
 have hp:=Ao g0.1 g0.2 hm.1 hm.2;grind[zm,dh]
def XM db(hd:jG db≤2000000):∀n:Nat,(∀t:Term,t.ht<n→t.sz≤2000000→0≤dH db t∧dH db t≤1048576)∧
 (∀r:Rel,r.ht<n→r.sz≤2000000→(0≤(bd db r).1∧(bd db r).1≤1048576)∧0≤(bd db r).2∧(bd db r).2≤1048576):=by
 intro n
 induction n with
 |zero=>simp
 |succ n ih=>
  constructor
  ·intro t hn hs;rw[MA,←Er,←Es];obtain⟨a1,a2,_⟩:=Al (fun k=>dH db k) t.kids 0 (fun k hk=>ih.1 k (by have:=Term.ht_kid hk;omega) (by have:=oq hk;omega)) (by omega) (by omega);obtain⟨b1,b2,_⟩:=Al (fun k=>(bd db k).2) t.sub _ (fun k hk=>(ih.2 k (by have:=Term.ht_sub hk;omega) (by have:=ot hk;omega)).2) a1 a2;omega
  ·intro r hn hs;have h3:=r.sz_eq;have hkl:=D5 r.kids;have hrl:r.rows.length≤2000000:=by omega
   have hk:=fun k(hk:k∈r.kids)=>ih.2 k (by have:=Rel.ht_kid hk;omega) (by have:=hU hk;omega);have hio:=XL db hd r hrl fun k h=>(hk k h).1;have htl:=G2 r;obtain⟨a1,a2,_⟩:=Am (fun k=>dH db k) (cw r) 1 (fun t ht=>ih.1 t (by have:=(qa ht).1;omega) (by have:=(qa ht).2;omega)) (by omega) (by omega);obtain⟨b1,b2,_⟩:=Am (fun k=>(bd db k).2) r.kids 0 (fun k h=>(hk k h).2) (by omega) (by omega);rw[XK];have hp:=Ao (a:=cU (bK db r).1 1048576) (b:=cU (jY db r) 1048576) (by grind[lz]) (by grind[lz]) (by grind[jY,lz]) (by grind[lz]);grind[bW,An,zm,lz]
def XN{db}(hd:jG db≤2000000){t}(h:t.sz≤2000000):0≤dH db t∧dH db t≤1048576:=(XM db hd<|t.ht+1).1 t (pI _) h
def fo{db}(hd:jG db≤2000000){r}(h:r.sz≤2000000):(0≤(bd db r).1∧(bd db r).1≤1048576)∧0≤(bd db r).2∧(bd db r).2≤1048576:=(XM db hd<|r.ht+1).2 r (pI _) h
def XO{db}(hd:jG db≤2000000){t}(h:t.sz≤2000000)(hw:dH db t≤20000):(∀k∈t.kids,dH db k≤20000)∧∀k∈t.sub,(bd db k).2≤20000:=by
 rw[MA,←Er,←Es]at hw;obtain⟨a1,a2,a3⟩:=Al (fun k=>dH db k) t.kids 0 (fun k hk=>XN hd (by have:=oq hk;omega)) (by omega) (by omega);obtain⟨b1,b2,b3⟩:=Al (fun k=>(bd db k).2) t.sub _ (fun k hk=>(fo hd (by have:=ot hk;omega)).2) a1 a2;grind
def EM{db}(hd:jG db≤2000000){r}(h:r.sz≤2000000)(hw:(bd db r).2≤20000):(∀k∈r.kids,(bd db k).2≤20000)∧0≤(bK db r).1∧(bK db r).1≤20000∧(1≤(bK db r).1→∀t∈cw r,dH db t≤20000)∧(bd db r).1=cU (bK db r).2 1048576:=by
 have h3:=r.sz_eq;have hkl:=D5 r.kids;have hk:=fun k(hk:k∈r.kids)=>fo hd (r:=k) (by have:=hU hk;omega);have hio:=XL db hd r (by omega) fun k h=>(hk k h).1;have htl:=G2 r;obtain⟨a1,a2,a3⟩:=Am (fun k=>dH db k) (cw r) 1 (fun t ht=>XN hd (by have:=(qa ht).2;omega)) (by omega) (by omega);obtain⟨b1,b2,b3⟩:=Am (fun k=>(bd db k).2) r.kids 0 (fun k h=>(hk k h).2) (by omega) (by omega);change 1≤jY db r at a1;change∀x∈_,_≤jY db r at a3;change 0≤An db r at b1;change An db r≤_ at b2;change∀x∈_,_≤An db r at b3;have q1:0≤cU (bK db r).1 1048576∧cU (bK db r).1 1048576≤1048576:=by grind[lz]
 have q2:1≤cU (jY db r) 1048576∧cU (jY db r) 1048576≤1048576:=by grind[lz]
 have hp:=Ao q1.1 q1.2 (by omega:0≤cU (jY db r) 1048576) q2.2;have hp1:=Int.mul_le_mul_of_nonneg_left q2.1 q1.1;rw[XK]at hw ⊢;dsimp only at hw ⊢;have hp2:1≤cU (bK db r).1 1048576→cU (jY db r) 1048576≤cU (bK db r).1 1048576*cU (jY db r) 1048576:=fun hi=>by
  have:=y4p hi (show 0≤cU (jY db r) 1048576 by omega);omega
 generalize hpe:cU (bK db r).1 1048576*cU (jY db r) 1048576=p at*;unfold bW at hw;rw[zm (show-9223372036854775808≤p∧p≤9223372036854775807 by omega),zm (by omega),lz]at hw;rw[lz]at q1 hp1 hp2;rw[lz]at q2 hp2;grind
end Go.Proofs.YtjfpbchdcbhfgaaGreat.B
namespace Go.Proofs.YtjfpbchdcbhfgaaGreat.B
open Go Go.RowKit
set_option maxRecDepth 1000000
def XP{f args v}(hv:bH v=true)(h:∀(w:World)(vs:List Value),(∀St,All2 (DRel Tryz.prog En St w) vs args→Calls Tryz.prog f vs.toArray w fun e w'=>e=.returned v∧w'=w)):Contract Tryz.prog En f args [.c<|.s v] []:=by
 intro w St vs hbd hvs hld;refine(h w vs St hvs).mono ?_;rintro e w' ⟨rfl,rfl⟩;let gg:G:={β:=fun _=>0,lb:=fun _=>False,ω:=fun _ _=>none,tk:=fun _=>(none,0)};exact⟨_,rfl,Ext.refl _,gg,fun _ h=>h,fun b o x _ h=>by simp[gg]at h,fun b o x h=>by simp[gg]at h,⟨rfl,hv⟩,fun k o h=>by simp at h⟩
def wW{St w v s}(h:DRel Tryz.prog En St w v (.d<|.v<|cs s)):v=.string s∧s.size≤9223372036854775807:=by
 have h':VRel En St w v (.s<|.string s):=h;cases h' with|s _ h=>exact⟨rfl,oneC_str.1 h⟩
def tf{St w v k n}(h:DRel Tryz.prog En St w v (.d<|.v<|.s<|.int k n)):v=.int k n∧k.min≤n∧n≤k.max:=by
 have h':VRel En St w v (.s<|.int k n):=h;cases h' with|s _ h=>exact⟨rfl,of_decide_eq_true h⟩
end Go.Proofs.YtjfpbchdcbhfgaaGreat.B
namespace Go.Proofs.YtjfpbchdcbhfgaaGreat.B
open Go Go.RowKit
set_option maxRecDepth 1000000
def aok a b w:
 Calls Tryz.prog 229 #[.string a,.string b] w fun e w'=>e=.returned (.int .i64<|Lib.compareBytes a.data.toList b.data.toList)∧w'=w:=by
 have mixed:Tryz.prog.follows .mixedOrders=true:=by kernel_rfl
 go_enter Tryz.func229,Tryz.ntmps229
 go_wp2
 rw[run_callFunc_extern Tryz.func245 (by kernel_rfl) (by kernel_rfl) (by kernel_rfl) (e:=Extern.BytealgCompare.compare)<|by kernel_rfl,Lib.run_compareString];simp only[Result.andThen];rw[Oper.upon_value]
 go_wp2
 go_ret;exact⟨rfl,rfl⟩
theorem XQ:∀(a b:List UInt8),Lib.compareBytes a b=bF a b
 |[],[]=>rfl
 |[],_::_=>rfl
 |_::_,[]=>rfl
 |x::a,y::b=>by
  have hlt:∀p q:UInt8,(p<q)=((p.toNat:Int)<q.toNat):=fun p q=>by simp[UInt8.lt_iff_toNat_lt]
  simp only[Lib.compareBytes,bF,cK,hlt];by_cases h:x=y
  ·subst h;simp[XQ a b]
  ·have hne:x.toNat≠y.toNat:=fun e=>h<|UInt8.toNat_inj.1 e;rw[if_neg h];by_cases h1:(x.toNat:Int)<y.toNat
   ·rw[if_pos h1,if_pos h1]
   ·rw[if_neg h1,if_neg h1,if_pos<|by omega,if_pos<|by omega]
def XR:∀(a b:List UInt8),-1≤bF a b∧bF a b≤1
 |[],[]=>by simp[bF]
 |[],_::_=>by simp[bF]
 |_::_,[]=>by simp[bF]
 |x::a,y::b=>by
  simp only[bF,cK];have:=XR a b
  repeat' split
  all_goals omega
def Qz:au Un:=fun args=>match args with
 |[x0,x1]=>(cB x0).bind fun a=>(cB x1).bind fun b=>some ([],[.c<|.s<|.int .i64<|gH a b],[])
 |_=>none
def zn1:aj 229 Qz:=by
 intro args ob rs os h hob;unfold Qz at h;split at h
 ·rename_i x0 x1;simp only[y6,y8,yi]at h;obtain⟨s,e0,t,e1,rfl,rfl,rfl⟩:=h;obtain rfl:=cN e0;obtain rfl:=cN e1;refine⟨?_,zl Tryz.func229 (by kernel_rfl)<|by kernel_rfl⟩;have hr:=XR s.toList t.toList;refine XP (oneC_i64.2 (by unfold gH;omega)) fun w vs St hvs=>?_
  match vs,hvs with
  |[v0,v1],⟨h0,h1,_⟩=>
   obtain⟨rfl,-⟩:=wW h0;obtain⟨rfl,-⟩:=wW h1;refine(aok s t w).mono ?_;rintro e w' ⟨rfl,rfl⟩;refine⟨?_,rfl⟩;rw[XQ];unfold gH;rw[ByteArray.toList_eq,ByteArray.toList_eq]
 ·simp at h
end Go.Proofs.YtjfpbchdcbhfgaaGreat.B
namespace Go.Proofs.YtjfpbchdcbhfgaaGreat.B
open Go Go.RowKit
set_option maxRecDepth 100000
noncomputable section
attribute [local irreducible] aB bk zw br aK b9
def Cl:Mc Un:=az [(229,Qz)] [] [] [] []
def aol a b K:
 aB Cl aN (zh Tryz.f194) (bG Tryz.f194.ntmps 0 [.d<|.v<|cs a,.d<|.v<|cs b]) (aK Cl Tryz.f194.results.toList [.d] K)=
(K (bh<|gH a b)<|bi<|gH a b):=by kernel_rfl
def zxx(a:ByteArray)(b:ByteArray):Option Int:=
 some (gH a b)
def aom{a b r}(h:zxx a b=some r):Runs (aB Cl aN (zh Tryz.f194) (bG Tryz.f194.ntmps 0 [.d<|.v<|cs a,.d<|.v<|cs b])<|aK Cl Tryz.f194.results.toList [.d] fun rs os=>rs=bh r∧os=bi r):=by
 rw[aol a b fun rs os=>rs=bh r∧os=bi r];cases h;exact⟨rfl,rfl⟩
def mT(a:ByteArray)(b:ByteArray):Int:=
 (gH a b)
def aon a b:zxx a b=some (mT a b):=by rfl
def Cm:au Un:=aD cB cB fun a b=>([],bh<|mT a b,bi<|mT a b)
def zxy:aj 194 Cm:=aJ cN cN (M:=Cl) rfl ⟨zn1,trivial⟩ Tryz.func194 fun a b=>fun _ _=>aom<|aon a b
def aoo x K:
 aB av aN (zh Tryz.f228) (bG Tryz.f228.ntmps 0 [.d<|.v<|.s<|.int .i64 x]) (aK av Tryz.f228.results.toList [.d] K)=
(K (bm<|x !=x)<|bp<|x !=x):=by kernel_rfl
def XS(x:Int):Option Bool:=
 some (x !=x)
def aop{x r}(h:XS x=some r):Runs (aB av aN (zh Tryz.f228) (bG Tryz.f228.ntmps 0 [.d<|.v<|.s<|.int .i64 x])<|aK av Tryz.f228.results.toList [.d] fun rs os=>rs=bm r∧os=bp r):=by
 rw[aoo x fun rs os=>rs=bm r∧os=bp r];cases h;exact⟨rfl,rfl⟩
def jH(x:Int):Bool:=
 (x !=x)
def aoq x:XS x=some (jH x):=by rfl
def XT:au Un:=aQ (dI .i64) fun x=>([],bm<|jH x,bp<|jH x)
def aor:aj 228 XT:=aU zn (M:=av) rfl trivial Tryz.func228 fun x=>fun _ _=>aop<|aoq x
def Cn:Mc Un:=az [(228,XT)] [] [] [] []
def aos x y K:
 aB Cn aN (zh Tryz.f193) (bG Tryz.f193.ntmps 0 [.d<|.v<|.s<|.int .i64 x,.d<|.v<|.s<|.int .i64 y]) (aK Cn Tryz.f193.results.toList [.d] K)=
(bv (jH x)
 (bv (jH y)
  (K (bh<|(0:Int))<|bi<|(0:Int))
  (K (bh ((-1:Int))) (bi ((-1:Int)))))
 (bv (jH y)
  (K (bh<|(1:Int))<|bi<|(1:Int))
  (bv (decide (x<y))
   (K (bh<|(-1:Int))<|bi<|(-1:Int))
   (bv (decide (x>y))
    (K (bh<|(1:Int))<|bi<|(1:Int))
    (K (bh ((0:Int))) (bi ((0:Int)))))))):=by kernel_rfl
def QA(x:Int)(y:Int):Option Int:=
 if(jH x)=true then
  if(jH y)=true then
   some ((0:Int))
  else
   some ((-1:Int))
 else
  if(jH y)=true then
   some ((1:Int))
  else
   if(decide<|x<y)=true then
    some ((-1:Int))
   else
    if(decide<|x>y)=true then
     some ((1:Int))
    else
     some ((0:Int))
def aot{x y r}(h:QA x y=some r):Runs (aB Cn aN (zh Tryz.f193) (bG Tryz.f193.ntmps 0 [.d<|.v<|.s<|.int .i64 x,.d<|.v<|.s<|.int .i64 y])<|aK Cn Tryz.f193.results.toList [.d] fun rs os=>rs=bh r∧os=bi r):=by
 constructor;rw[aos x y fun rs os=>rs=bh r∧os=bi r];rcases bJ h with⟨c1,h2⟩|⟨c1,h2⟩
 ·rcases bJ h2 with⟨c3,h4⟩|⟨c3,h4⟩
  ·cases h4;exact(aZ c1<|aZ c3 ⟨rfl,rfl⟩)
  ·cases h4;exact(aZ c1<|aP (zq c3) ⟨rfl,rfl⟩)
 ·rcases bJ h2 with⟨c5,h6⟩|⟨c5,h6⟩
  ·cases h6;exact(aP (zq c1)<|aZ c5 ⟨rfl,rfl⟩)
  ·rcases bJ h6 with⟨c7,h8⟩|⟨c7,h8⟩
   ·cases h8;exact(aP (zq c1)<|aP (zq c5)<|aZ c7 ⟨rfl,rfl⟩)
   ·rcases bJ h8 with⟨c9,h10⟩|⟨c9,h10⟩
    ·cases h10;exact(aP (zq c1)<|aP (zq c5)<|aP (zq c7)<|aZ c9 ⟨rfl,rfl⟩)
    ·cases h10;exact(aP (zq c1)<|aP (zq c5)<|aP (zq c7)<|aP (zq c9) ⟨rfl,rfl⟩)
def hZ(x:Int)(y:Int):Int:=
 if(jH x)=true then
  if(jH y)=true then
   ((0:Int))
  else
   ((-1:Int))
 else
  if(jH y)=true then
   ((1:Int))
  else
   if(decide<|x<y)=true then
    ((-1:Int))
   else
    if(decide<|x>y)=true then
     ((1:Int))
    else
     ((0:Int))
def aou x y:QA x y=some (hZ x y):=by grind[QA,hZ]
def Co:au Un:=aD (dI .i64) (dI .i64) fun x y=>([],bh<|hZ x y,bi<|hZ x y)
def XU:aj 193 Co:=aJ zn zn (M:=Cn) rfl ⟨aor,trivial⟩ Tryz.func193 fun x y=>fun _ _=>aot<|aou x y
@[simp] theorem aov x y:hZ x y=cK x y:=by
 unfold hZ jH cK;simp
@[simp] theorem aow a b:mT a b=gH a b:=rfl
def ia:Nat→NS:=aO [(3,{ts:=bl 18 460,bs:=bl 18 0,nm:=[],gb:=[],gs:=[]})] false
def oH(vals:List Int)(v0:Int):S Un:=(st 18 18 72 0 [(2,AV.one<|A.c<|C.s<|Value.int IntKind.i64 (0:Int)),(3,AV.one<|A.c<|C.s<|Value.int IntKind.i64 (0:Int)),(6,AV.one<|A.c<|C.sl Ty.int vals false),(7,AV.one<|A.c<|C.s<|Value.int IntKind.i64 (↑vals.length:Int)),(8,AV.one<|A.c<|C.s<|Value.int IntKind.i64 v0)] [] [])
def II(vals:List Int)(v0:Int)(v1:Int):S Un:=(st 18 18 72 0 [(2,AV.one<|A.c<|C.s<|Value.int IntKind.i64 v1),(3,AV.one<|A.c<|C.s<|Value.int IntKind.i64 (0:Int)),(6,AV.one<|A.c<|C.sl Ty.int vals false),(7,AV.one<|A.c<|C.s<|Value.int IntKind.i64 (↑vals.length:Int)),(8,AV.one<|A.c<|C.s<|Value.int IntKind.i64 v0)] [] [])
def aox(vals:List Int) K:
 aB av ia (zh Tryz.f192) (bG Tryz.f192.ntmps 0 [.d<|.v<|.dat (U:=Un) Ty.int vals]) (aK av Tryz.f192.results.toList [.d] K)=
(zw (ia 3) (aB av ia<|sub (zh Tryz.f192) [1,1,0,1,2,2]) (bk av ia (zh Tryz.f192) [1,1,0,1,2]<|aK av Tryz.f192.results.toList [.d] K)<|oH vals (0:Int)):=by kernel_rfl
def Nm vals v0 k Q:
 br (ia 3) (aB av ia<|sub (zh Tryz.f192) [1,1,0,1,2,2]) Q (k+1) (oH vals v0)=
(bv (decide (v0<(↑vals.length:Int)))
 (((0:Int)≤v0∧v0<(↑vals.length:Int))∧
 (bv (vals.getD v0.toNat (0:Int) !=(0:Int))
  (Q .ret<|II vals v0<|vals.getD v0.toNat (0:Int))
  (br (ia 3) (aB av ia (sub (zh Tryz.f192) [1,1,0,1,2,2])) Q k (oH vals (IntKind.i64.wrap (v0+(1:Int)))))))
 (Q (.exit 0) (oH vals v0))):=by kernel_rfl
def aoy vals v0 v1 K:
 bk av ia (zh Tryz.f192) [1,1,0,1,2] (aK av Tryz.f192.results.toList [.d] K) .ret (II vals v0 v1)=
(K (bh v1)<|bi v1):=by kernel_rfl
def aoz vals v0 K:
 bk av ia (zh Tryz.f192) [1,1,0,1,2] (aK av Tryz.f192.results.toList [.d] K) (.exit 0) (oH vals v0)=
(K (bh<|(0:Int))<|bi<|(0:Int)):=by kernel_rfl
def Cp(vals:List Int)(v:Int):Option ((Int) ⊕((Int×Int) ⊕(Int))):=
 if(decide<|v<(↑vals.length:Int))=true then
  if(0:Int)≤v∧v<(↑vals.length:Int)then
   if(vals.getD v.toNat (0:Int) !=(0:Int))=true then
    some (.inr<|.inl (v,(vals.getD v.toNat (0:Int))))
   else
    some (.inl<|IntKind.i64.wrap<|v+(1:Int))
  else none
 else
  some (.inr<|.inr v)
def wX(vals:List Int)(v:Int):Option ((Int×Int) ⊕(Int)):=gU (Cp vals) v
def XV vals v:wX vals v=mw (wX vals) (Cp vals v):=zM _ _
def EN(vals:List Int)(r:(Int×Int) ⊕(Int))(Q:Exit→S Un→Prop):Prop:=match r with| .inl x=>Q .ret (II vals x.1 x.2)| .inr x=>Q (.exit 0)<|oH vals x
def aoA{vals x Q}(h:Q .ret (II vals x.1 x.2)):EN vals (.inl x) Q:=h
def aoB{vals x Q}(h:Q (.exit 0) (oH vals x)):EN vals (.inr x) Q:=h
def XW{vals v r}(h:wX vals v=some r) Q(hQ:EN vals r Q):zw (ia 3) (aB av ia<|sub (zh Tryz.f192) [1,1,0,1,2,2]) Q (oH vals v):=by
 refine@zN _ _ (Cp vals) (fun v=>zw (ia 3) (aB av ia<|sub (zh Tryz.f192) [1,1,0,1,2,2]) Q<|oH vals v) (fun r=>EN vals r Q) ?_ v r h hQ;intro v o h hI;rcases bJ h with⟨c1,h2⟩|⟨c1,h2⟩
 ·obtain⟨c3,h4⟩:=jx h2;rcases bJ h4 with⟨c5,h6⟩|⟨c5,h6⟩
  ·cases h6;exact gS 1<|dR (Nm vals v 0 Q)<|aZ c1<|And.intro c3<|aZ c5 hI
  ·cases h6;obtain⟨k7,hk8⟩:=DU hI;exact gS (k7+1)<|dR (Nm vals v k7 Q)<|aZ c1<|And.intro c3<|aP (zq c5) hk8
 ·cases h2;exact gS 1<|dR (Nm vals v 0 Q)<|aP (zq c1) hI
def Nn(vals:List Int):Option Int:=
 (wX vals (0:Int))>>=fun o9=>match o9 with
  | .inl o10=>
   some o10.2
  | .inr o11=>
   some ((0:Int))
def aoC{vals r}(h:Nn vals=some r):Runs (aB av ia (zh Tryz.f192) (bG Tryz.f192.ntmps 0 [.d<|.v<|.dat (U:=Un) Ty.int vals])<|aK av Tryz.f192.results.toList [.d] fun rs os=>rs=bh r∧os=bi r):=by
 constructor;rw[aox vals fun rs os=>rs=bh r∧os=bi r];obtain⟨o12,ho13,h14⟩:=bind_some h;rcases o12 with o15|o16
 ·cases h14;exact(XW ho13 _<|aoA<|dR (aoy vals o15.1 o15.2 _) ⟨rfl,rfl⟩)
 ·cases h14;exact(XW ho13 _<|aoB<|dR (aoz vals o16 _) ⟨rfl,rfl⟩)
def wY:List Int→Int
 |[]=>0
 |x::r=>if x=0 then wY r else x
def qC(vals:List Int):Int:=wY vals
@[simp] theorem aoD vals:qC vals=wY vals:=by rfl
def aoE(vals:List Int)(h:WL .int vals):∀(r:List Int)(i:Nat),vals.drop i=r→
 ∃o,wX vals i=some o∧(match o with| .inl o=>o.2| .inr _=>0)=wY r:=by
 intro r
 induction r with
 |nil=>
  intro i h1;have e1:=drop_nil h1;have hn:¬((i:Int)<vals.length):=by omega
  exact⟨.inr i,by rw[XV,Cp];simp[hn],rfl⟩
 |cons x r ih=>
  intro i h1;obtain⟨a1,a2,a3,_⟩:=d9 h1;have hp:(i:Int)<vals.length:=by omega
  have hi:(0:Int)≤i:=by omega
  rw[XV,Cp];simp only[hp,hi,decide_true,if_true,and_self,y5,a2,bne_iff_ne,ne_eq,ite_not,wY];by_cases hx:x=0
  ·rw[if_pos hx,if_pos hx,DV a1 h.len,Br];grind
  simp_all
def aoF(vals:List Int)(h:WL .int vals):Nn vals=some (qC vals):=by
 obtain⟨o,ho,e⟩:=aoE vals h _ 0 rfl;unfold Nn qC;simp at e;rw[←e];have ho':wX vals 0=some o:=ho;rw[ho'];cases o<;>rfl
def No:au Un:=aQ (dL .int) fun vals=>([],bh<|qC vals,bi<|qC vals)
def aoG:aj 192 No:=aU zi (M:=av) rfl trivial Tryz.func192 fun vals=>fun w _=>aoC<|aoF vals<|am w 0
end
end Go.Proofs.YtjfpbchdcbhfgaaGreat.B
namespace Go.Proofs.YtjfpbchdcbhfgaaGreat.B
open Go Go.RowKit
set_option maxRecDepth 100000
noncomputable section
attribute [local irreducible] aB bk zw br aK b9
def dX(a b:Val):Int×Bool:=if a.kind=b.kind then(if a.kind=3 then(gH a.s b.s,true)else if a.kind=1∨a.kind=2 then(cK a.n b.n,true)else(0,false))else(0,false)
def Cq:Mc Un:=az [(193,Co),(194,Cm),(192,No)] [] [] [] []
def aoH(a:Val)(b:Val) K:
 aB Cq aN (zh Tryz.f147) (bG Tryz.f147.ntmps 0 [.d<|.agg<|enc Ty.val a,.d<|.agg<|enc Ty.val b]) (aK Cq Tryz.f147.results.toList [.d] K)=
(K (bh<|qC [hZ a.kind b.kind,hZ a.n b.n,mT a.s b.s])<|bi<|qC [hZ a.kind b.kind,hZ a.n b.n,mT a.s b.s]):=by kernel_rfl
def QB(a:Val)(b:Val):Option Int:=
 some (qC [hZ a.kind b.kind,hZ a.n b.n,mT a.s b.s])
def aoI{a b r}(h:QB a b=some r):Runs (aB Cq aN (zh Tryz.f147) (bG Tryz.f147.ntmps 0 [.d<|.agg<|enc Ty.val a,.d<|.agg<|enc Ty.val b])<|aK Cq Tryz.f147.results.toList [.d] fun rs os=>rs=bh r∧os=bi r):=by
 rw[aoH a b fun rs os=>rs=bh r∧os=bi r];cases h;exact⟨rfl,rfl⟩
def aoJ(a b:Val)(_ha:WS .val a)(_hb:WS .val b):QB a b=some (cO a b):=by
 unfold QB cO ordV;simp only[aoD,aov,aow,wY,LP];grind
def wZ:au Un:=fun args=>match args with
 |[x0,x1]=>(dS .val x0).bind fun a=>(dS .val x1).bind fun b=>some ([],bh<|cO a b,bi<|cO a b)
 |_=>none
def QC:aj 147 wZ:=by
 intro args ob rs os h hob;unfold wZ at h;split at h
 ·simp only[y6,y8,yi]at h;obtain⟨a,e0,b,e1,rfl,rfl,rfl⟩:=h;obtain rfl:=zo e0;obtain rfl:=zo e1;exact⟨Bq (M:=Cq) rfl (cM (l1:=[(193,Co),(194,Cm),(192,No)]) (l2:=[]) (l3:=[]) (l4:=[]) (l5:=[]) ⟨XU,zxy,aoG,trivial⟩ trivial trivial trivial trivial) Tryz.func147 (by rfl) aN 0 [.d] fun hwf=>aoI<|aoJ a b (bj hwf (a:=.d<|.agg<|enc Ty.val a)<|y9 (i:=0) rfl)<|bj hwf (a:=.d<|.agg<|enc Ty.val b)<|y9 (i:=1) rfl,zl Tryz.func147 (by rfl)<|by rfl⟩
 grind
def gm:FV Un:=fun args=>match args with
 |[x0,x1]=>(dS .val<|.d x0).bind fun a=>(dS .val<|.d x1).bind fun b=>some ([],[.v<|.s<|.int .i64<|cO a b])
 |_=>none
def XX:eQ 147 gm:=by
 refine⟨zl Tryz.func147 (by rfl)<|by rfl,fun args ob rs h hob=>?_⟩;unfold gm at h;split at h
 ·simp only[y6,y8,yi]at h;obtain⟨a,e0,b,e1,rfl,rfl⟩:=h;simp;rw[zo e0];rw[zo e1];refine Contract.data (QC _ ([]) _ _ (?_:wZ _=some _)<|by simp).1;rfl
 grind
def XY:gm=kj ordV:=by
 rfl
def Cr:Mc Un:=az [(194,Cm),(193,Co)] [] [] [] []
def lC(r:Int×Bool):List (A Un):=[.c<|.s<|.int .i64 r.1,.c<|.s<|.bool r.2]
def lD(_r:Int×Bool):List (Ob Un):=[]
def aoK(a:Val)(b:Val) K:
 aB Cr aN (zh Tryz.f152) (bG Tryz.f152.ntmps 0 [.d<|.agg<|enc Ty.val a,.d<|.agg<|enc Ty.val b]) (aK Cr Tryz.f152.results.toList [.d,.d] K)=
(bv (a.kind !=b.kind)
 (K (lC ((0:Int),false))<|lD ((0:Int),false))
 (bv (decide (a.kind<(1:Int)))
  (K (lC ((0:Int),false))<|lD ((0:Int),false))
  (bv (decide (a.kind>(3:Int)))
   (K (lC ((0:Int),false))<|lD ((0:Int),false))
   (bv (a.kind==(3:Int))
    (K (lC (mT a.s b.s,true))<|lD (mT a.s b.s,true))
    (K (lC (hZ a.n b.n,true)) (lD (hZ a.n b.n,true))))))):=by kernel_rfl
def QD(a:Val)(b:Val):Option (Int×Bool):=
 if(a.kind !=b.kind)=true then
  some ((0:Int),false)
 else
  if(decide<|a.kind<(1:Int))=true then
   some ((0:Int),false)
  else
   if(decide<|a.kind>(3:Int))=true then
    some ((0:Int),false)
   else
    if(a.kind==(3:Int))=true then
     some (mT a.s b.s,true)
    else
     some (hZ a.n b.n,true)
def aoL{a b r}(h:QD a b=some r):Runs (aB Cr aN (zh Tryz.f152) (bG Tryz.f152.ntmps 0 [.d<|.agg<|enc Ty.val a,.d<|.agg<|enc Ty.val b])<|aK Cr Tryz.f152.results.toList [.d,.d] fun rs os=>rs=lC r∧os=lD r):=by
 constructor;rw[aoK a b fun rs os=>rs=lC r∧os=lD r];rcases bJ h with⟨c1,h2⟩|⟨c1,h2⟩
 ·cases h2;exact(aZ c1 ⟨rfl,rfl⟩)
 ·rcases bJ h2 with⟨c3,h4⟩|⟨c3,h4⟩
  ·cases h4;exact(aP (zq c1)<|aZ c3 ⟨rfl,rfl⟩)
  ·rcases bJ h4 with⟨c5,h6⟩|⟨c5,h6⟩
   ·cases h6;exact(aP (zq c1)<|aP (zq c3)<|aZ c5 ⟨rfl,rfl⟩)
   ·rcases bJ h6 with⟨c7,h8⟩|⟨c7,h8⟩
    ·cases h8;exact(aP (zq c1)<|aP (zq c3)<|aP (zq c5)<|aZ c7 ⟨rfl,rfl⟩)
    ·cases h8;exact(aP (zq c1)<|aP (zq c3)<|aP (zq c5)<|aP (zq c7) ⟨rfl,rfl⟩)
def cj(a b:Val):Int×Bool:=dX a b
@[simp] theorem aoM a b:cj a b=dX a b:=by rfl
def aoN(a b:Val)(_ha:WS .val a)(_hb:WS .val b):QD a b=some (cj a b):=by
 unfold QD cj dX;simp;grind
def w4:au Un:=fun args=>match args with
 |[x0,x1]=>(dS .val x0).bind fun a=>(dS .val x1).bind fun b=>some ([],lC<|cj a b,lD<|cj a b)
 |_=>none
def QE:aj 152 w4:=by
 intro args ob rs os h hob;unfold w4 at h;split at h
 ·simp only[y6,y8,yi]at h;obtain⟨a,e0,b,e1,rfl,rfl,rfl⟩:=h;obtain rfl:=zo e0;obtain rfl:=zo e1;exact⟨Bq (M:=Cr) rfl (cM (l1:=[(194,Cm),(193,Co)]) (l2:=[]) (l3:=[]) (l4:=[]) (l5:=[]) ⟨zxy,XU,trivial⟩ trivial trivial trivial trivial) Tryz.func152 (by rfl) aN 0 [.d,.d] fun hwf=>aoL<|aoN a b (bj hwf (a:=.d<|.agg<|enc Ty.val a)<|y9 (i:=0) rfl)<|bj hwf (a:=.d<|.agg<|enc Ty.val b)<|y9 (i:=1) rfl,zl Tryz.func152 (by rfl)<|by rfl⟩
 grind
end
end Go.Proofs.YtjfpbchdcbhfgaaGreat.B
namespace Go.Proofs.YtjfpbchdcbhfgaaGreat.B
open Go Go.RowKit
set_option maxRecDepth 100000
noncomputable section
attribute [local irreducible] aB bk zw br aK b9 aR bu bA
def eD(r:Int):RF Un:=(bh r,bi r)
def EO:Nat→NS:=aO [(2,{ts:=bl 39 14407,bs:=bl 39 0,nm:=[]})] false
def kz(s1:List Val)(s2:List Val)(p:Val→Val→Int)(v0:Int):S Un:=(st 39 39 156 0 [(0,al .val s1),(1,al .val s2),(2,AV.one<|A.c<|C.fv<|kj p),(6,ai (0:Int)),(11,al .val s1),(12,ai (↑s1.length:Int)),(13,ai v0)] [] [])
def Ct(s1:List Val)(s2:List Val)(p:Val→Val→Int)(v0:Int)(v1:Int):S Un:=(st 39 39 156 0 [(0,al .val s1),(1,al .val s2),(2,AV.one<|A.c<|C.fv<|kj p),(6,ai v1),(11,al .val s1),(12,ai (↑s1.length:Int)),(13,ai v0)] [] [])
def oI:S Un→Option (EX Un):=aC av EO Tryz.f195 [1,0,1,2,2] 2
def EP:Exit→S Un→Option (RF Un):=aE av EO Tryz.f195 [1,0,1,2] [.d]
def XZ(s1:List Val)(s2:List Val)(p:Val→Val→Int):Option (RF Un):=aw av EO Tryz.f195 0 [.d] [.d<|.v<|.dat (U:=Un) Ty.val s1,.d<|.v<|.dat (U:=Un) Ty.val s2,.fn<|kj p]
def aoO(s1 s2 p):XZ s1 s2 p=(oI<|kz s1 s2 p (0:Int)).bind (zd EP):=ah
def EQ(s1 s2 p v0):oI (kz s1 s2 p v0)=af (decide<|v0<(↑s1.length:Int)) (ae (0≤v0∧v0<(↑s1.length:Int))<|af (decide<|v0≥(↑s2.length:Int)) (some (.ret,(Ct s1 s2 p v0 (1:Int))))<|ae (0≤v0∧v0<(↑s2.length:Int))<|af (p (s1.getD v0.toNat z7) (s2.getD v0.toNat z7) !=0) (some (.ret,(Ct s1 s2 p v0<|p (s1.getD v0.toNat z7)<|s2.getD v0.toNat z7)))<|oI<|kz s1 s2 p<|IntKind.i64.wrap<|v0+1) (some (.exit 0,(kz s1 s2 p v0))):=aF
def X1(s1 s2 p v0 v1):EP .ret (Ct s1 s2 p v0 v1)=some (eD v1):=ah
def aoP(s1 s2 p v0):EP (.exit 0) (kz s1 s2 p v0)=af (decide<|(↑s1.length:Int)<(↑s2.length:Int)) (some<|eD<|(-1:Int)) (some<|eD<|(0:Int)):=ah
def sa(p:Val→Val→Int):List Val→List Val→Int
 |[],[]=>0
 |[],_::_=>-1
 |_::_,[]=>1
 |a::l,b::r=>if p a b=0 then sa p l r else p a b
def Ap(s1 s2:List Val)(p:Val→Val→Int):Int:=sa p s1 s2
def aoQ (s1 s2:List Val) p (h1:WL .val s1) (h2:WL .val s2) : ∀ (ra rb:List Val) (i:Nat),s1.drop i=ra→s2.drop i=rb→i≤s1.length→i≤s2.length →
    (oI (kz s1 s2 p (i:Int))).bind (zd EP)=some (eD (sa p ra rb)):=by
  have l1:=h1.len;intro ra
  induction ra with
  | nil =>
    intro rb i e1 e2 i1 i2
    have n1 : s1.length = i := by have : s1.length ≤ i := y1o.1 e1
                                  omega
    have hL:oI (kz s1 s2 p (i:Int))=some (.exit 0,kz s1 s2 p (i:Int)):=by
      rw[EQ,z8,if_neg (by rw[decide_eq_true_eq];omega)]
    rw[zf hL,aoP,z8];cases rb with
    | nil =>
      have : s2.length≤i:=y1o.1 e2;rw[if_neg (by rw[decide_eq_true_eq];omega)];rfl
    | cons y rb =>
      have hlt:i<s2.length:=by
        rcases yk i s2.length with h | h
        · exact h
        · rw[y4q h] at e2;simp at e2
      rw[if_pos (by rw[decide_eq_true_eq];omega)];rfl
  | cons x ra ih =>
    intro rb i e1 e2 i1 i2;obtain⟨a1,a2,a3,_⟩:=d9 e1;cases rb with
    | nil =>
      have n2:s2.length≤i:=y1o.1 e2;have hL:oI (kz s1 s2 p (i:Int))=some (.ret,Ct s1 s2 p (i:Int) 1):=by
        rw[EQ,z8,if_pos (by rw[decide_eq_true_eq];omega),z6 (by omega),z8,if_pos (by rw[decide_eq_true_eq];omega)]
      rw[zf hL,X1];rfl
    | cons y rb =>
      obtain⟨b1,b2,b3,_⟩:=d9 e2;by_cases hxy : p x y=0
      · have hL:oI (kz s1 s2 p (i:Int))=oI (kz s1 s2 p ((i+1:Nat):Int)):=by
          rw[EQ,z8,if_pos (by rw[decide_eq_true_eq];omega),z6 (by omega),z8,if_neg (by rw[decide_eq_true_eq];omega),z6 (by omega),y5,a2,b2,z8,if_neg (by simp [hxy]),zm (by omega)];rfl
        rw[hL,ih rb (i+1) a3 b3 (by omega) (by omega)];simp only[sa,if_pos hxy]
      · have hL:oI (kz s1 s2 p (i:Int))=some (.ret,Ct s1 s2 p (i:Int) (p x y)):=by
          rw[EQ,z8,if_pos (by rw[decide_eq_true_eq];omega),z6 (by omega),z8,if_neg (by rw[decide_eq_true_eq];omega),z6 (by omega),y5,a2,b2,z8,if_pos (by simpa using hxy)]
        rw[zf hL,X1];simp only[sa,if_neg hxy]
def aoR(s1 s2:List Val) p(h1:WL .val s1)(h2:WL .val s2):XZ s1 s2 p=some (eD<|Ap s1 s2 p):=by
 rw[aoO];exact aoQ s1 s2 p h1 h2 s1 s2 0 rfl rfl (yc _)<|yc _
def Np:au Un:=fun args=>match args with
 |[x0,x1,x2]=>(dL .val x0).bind fun s1=>(dL .val x1).bind fun s2=>(dF x2).bind fun p=>some ([p=(kj<|zt p)],bh<|Ap s1 s2<|zt p,bi<|Ap s1 s2<|zt p)
 |_=>none
def aoS:aj 195 Np:=by
 intro args ob rs os h hob;unfold Np at h;split at h
 ·simp only[y6,y8,yi]at h;obtain⟨s1,e0,s2,e1,p,e2,rfl,rfl,rfl⟩:=h;obtain rfl:=zi e0;obtain rfl:=zi e1;obtain rfl:=mv e2;have hfv0:=hob _<|y9 (i:=0) rfl;generalize zt p=pp0 at*;subst hfv0;exact⟨dz (M:=av) rfl (cM (l1:=[]) (l2:=[]) (l3:=[]) (l4:=[]) (l5:=[]) trivial trivial trivial trivial trivial) Tryz.func195 (by rfl) EO 0 [.d] fun hwf=>(aoR s1 s2 pp0 (bj hwf (a:=.d<|.v<|.dat (U:=Un) Ty.val s1)<|y9 (i:=0) rfl)<|bj hwf (a:=.d<|.v<|.dat (U:=Un) Ty.val s2)<|y9 (i:=1) rfl),zl Tryz.func195 (by rfl)<|by rfl⟩
 grind
def X2:Mc Un:=az [(195,Np)] [(147,gm)] [] [] []
def X3(a:List Val)(b:List Val):Option (RF Un):=aw X2 aN Tryz.f149 0 [.d] [.d<|.v<|.dat (U:=Un) Ty.val a,.d<|.v<|.dat (U:=Un) Ty.val b]
def aoT(a b):X3 a b=ae (gm=kj (zt gm)) (some<|ay<|Ap a b<|zt gm):=ah
theorem X4:∀a b:List Val,sa ordV a b=cC a b
 |[],[]=>rfl
 |[],_::_=>rfl
 |_::_,[]=>rfl
 |a::l,b::r=>by simp only[sa,cC,X4 l r]
def aoU(a b:List Val)(_ha:WL .val a)(_hb:WL .val b):X3 a b=some (ay<|dA a b):=by
 have e:zt (kj ordV)=ordV:=zj9 ordV;rw[aoT,XY,e,z6 rfl];unfold Ap dA;rw[X4]
def w7:au Un:=aD (dL .val) (dL .val) fun a b=>([],ay<|dA a b)
def QF:aj 149 w7:=aJ zi zi (M:=X2) (h2:=⟨XX,trivial⟩) rfl ⟨aoS,trivial⟩ Tryz.func149 fun a b=>GiF.r fun w _=>aoU a b (am w 0)<|am w 1
end
end Go.Proofs.YtjfpbchdcbhfgaaGreat.B
namespace Go.Proofs.YtjfpbchdcbhfgaaGreat.B
open Go Go.RowKit
set_option maxRecDepth 100000
noncomputable section
attribute [local irreducible] aB bk zw br aK b9 aR bu bA
def X5:Mc Un:=az [(211,lj)] [] [] [] []
def X6(a:Int)(b:Int)(n:Int):Option (RF Un):=aw X5 aN Tryz.f233 0 [.d,.d] [.d<|.v<|.s<|.int .i64 a,.d<|.v<|.s<|.int .i64 b,.d<|.v<|.s<|.int .i64 n]
theorem aoV(a b n):X6 a b n=af (!bf a) (some<|aG ((0:Int),false)) (af (!bf b) (some<|aG ((0:Int),false))<|af (!bf n) (some<|aG ((0:Int),false))<|some<|aG (n,true)):=ah
def cZ(a:Int)(b:Int)(n:Int):Int×Bool:=
 if(!bf a)=true then
  ((0:Int),false)
 else
  if(!bf b)=true then
   ((0:Int),false)
  else
   if(!bf n)=true then
    ((0:Int),false)
   else
    (n,true)
def aoW a b n:X6 a b n=some (aG<|cZ a b n):=by grind[aoV,cZ,z8]
def zli:au Un:=dW (dI .i64) (dI .i64) (dI .i64) fun a b n=>([],aG<|cZ a b n)
def Cu:aj 233 zli:=jl zn zn zn (M:=X5) rfl ⟨od,trivial⟩ Tryz.func233 fun a b n=>GiF.r fun _ _=>aoW a b n
def lZ:Mc Un:=az [(211,lj),(233,zli)] [] [] [] []
def X7(a:Int)(b:Int):Option (RF Un):=aw lZ aN Tryz.f202 0 [.d,.d] [.d<|.v<|.s<|.int .i64 a,.d<|.v<|.s<|.int .i64 b]
theorem aoX(a b):X7 a b=af (!bf a) (some<|aG ((0:Int),false)) (af (!bf b) (some<|aG ((0:Int),false))<|some<|aG ((cZ a b<|IntKind.i64.wrap<|a+b).fst,(cZ a b<|IntKind.i64.wrap<|a+b).snd)):=ah
def tg(a:Int)(b:Int):Int×Bool:=
 if(!bf a)=true then
  ((0:Int),false)
 else
  if(!bf b)=true then
   ((0:Int),false)
  else
   ((cZ a b<|IntKind.i64.wrap<|a+b).fst,(cZ a b<|IntKind.i64.wrap<|a+b).snd)
def aoY a b:X7 a b=some (aG<|tg a b):=by grind[aoX,tg,z8]
def aoZ:au Un:=aD (dI .i64) (dI .i64) fun a b=>([],aG<|tg a b)
def ao0:aj 202 aoZ:=aJ zn zn (M:=lZ) rfl ⟨od,Cu,trivial⟩ Tryz.func202 fun a b=>GiF.r fun _ _=>aoY a b
def X8(a:Int)(b:Int):Option (RF Un):=aw lZ aN Tryz.f201 0 [.d,.d] [.d<|.v<|.s<|.int .i64 a,.d<|.v<|.s<|.int .i64 b]
theorem ao1(a b):X8 a b=af (!bf a) (some<|aG ((0:Int),false)) (af (!bf b) (some<|aG ((0:Int),false))<|some<|aG ((cZ a b<|IntKind.i64.wrap<|a- b).fst,(cZ a b<|IntKind.i64.wrap<|a- b).snd)):=ah
def kC(a:Int)(b:Int):Int×Bool:=
 if(!bf a)=true then
  ((0:Int),false)
 else
  if(!bf b)=true then
   ((0:Int),false)
  else
   ((cZ a b<|IntKind.i64.wrap<|a- b).fst,(cZ a b<|IntKind.i64.wrap<|a- b).snd)
def ao2 a b:X8 a b=some (aG<|kC a b):=by grind[ao1,kC,z8]
def X9:au Un:=aD (dI .i64) (dI .i64) fun a b=>([],aG<|kC a b)
def Ya:aj 201 X9:=aJ zn zn (M:=lZ) rfl ⟨od,Cu,trivial⟩ Tryz.func201 fun a b=>GiF.r fun _ _=>ao2 a b
def Yb:Mc Un:=az [(201,X9)] [] [] [] []
def Yc(a:Int):Option (RF Un):=aw Yb aN Tryz.f159 0 [.d,.d] [.d<|.v<|.s<|.int .i64 a]
theorem ao3(a):Yc a=some (aG ((kC (0:Int) a).fst,(kC (0:Int) a).snd)):=ah
def jI(a:Int):Int×Bool:=
 ((kC (0:Int) a).fst,(kC (0:Int) a).snd)
def ao4 a:Yc a=some (aG<|jI a):=by simp[ao3,jI,z8]
def Nq:au Un:=aQ (dI .i64) fun a=>([],aG<|jI a)
def Yd:aj 159 Nq:=aU zn (M:=Yb) rfl ⟨Ya,trivial⟩ Tryz.func159 fun a=>GiF.r fun _ _=>ao4 a
def Ye(a:Int)(b:Int):Option (RF Un):=aw lZ aN Tryz.f203 0 [.d,.d] [.d<|.v<|.s<|.int .i64 a,.d<|.v<|.s<|.int .i64 b]
def ao5(a b):Ye a b=af (!bf a) (some<|aG ((0:Int),false)) (af (!bf b) (some<|aG ((0:Int),false))<|af (a==0) (some<|aG ((0:Int),true))<|af (b==0) (some<|aG ((0:Int),true))<|ae (¬List.foldl (fun a b=>if a<b then b else a) b [IntKind.i64.wrap<|(0:Int)- b]=0)<|af (decide<|List.foldl (fun a b=>if a<b then b else a) a [IntKind.i64.wrap<|(0:Int)- a]>IntKind.i64.wrap (Int.tdiv (1000000000000000:Int)<|List.foldl (fun a b=>if a<b then b else a) b [IntKind.i64.wrap<|(0:Int)- b])) (some<|aG ((0:Int),false))<|some<|aG ((cZ a b<|IntKind.i64.wrap<|a*b).fst,(cZ a b<|IntKind.i64.wrap<|a*b).snd)):=ah
def oJ(a:Int):Int:=List.foldl (fun a b=>if a<b then b else a) a [IntKind.i64.wrap<|(0:Int)- a]
def th(a b:Int):Int×Bool:=
 if bf a=true then(if bf b=true then(if a=0 then(0,true)else if b=0 then(0,true)else if oJ a>IntKind.i64.wrap (Int.tdiv 1000000000000000<|oJ b)then(0,false)else cZ a b (IntKind.i64.wrap<|a*b))else(0,false))else(0,false)
theorem oK n:cR n=true↔-1000000000000000≤n∧n≤1000000000000000:=by unfold cR;simp
def ao6 a b(_ha:WI a)(_hb:WI b):Ye a b=some (aG<|th a b):=by
 rw[ao5];unfold th;simp only[z8,jq,beq_iff_eq,decide_eq_true_eq];by_cases h1:bf a=true
 ·by_cases h2:bf b=true
  ·rw[if_neg<|by grind,if_neg<|by grind,if_pos h1,if_pos h2];by_cases h3:a=0
   ·grind
   ·by_cases h4:b=0
    ·grind
    ·have hb:=h2;rw[fH,oK]at hb;have hm:oJ b≠0:=by
      unfold oJ;simp;rw[zm<|by omega];split<;>omega
     rw[if_neg h3,if_neg h4,if_neg h3,if_neg h4];refine(z6 hm).trans ?_;show(if oJ a>IntKind.i64.wrap (Int.tdiv 1000000000000000<|oJ b)then _ else _)=_;grind
  grind
 grind
def ao7:au Un:=aD (dI .i64) (dI .i64) fun a b=>([],aG<|th a b)
def ao8:aj 203 ao7:=aJ zn zn (M:=lZ) rfl ⟨od,Cu,trivial⟩ Tryz.func203 fun a b=>GiF.r fun w _=>ao6 a b (am w 0)<|am w 1
def Yf(a:Int)(b:Int):Option (RF Un):=aw lZ aN Tryz.f204 0 [.d,.d] [.d<|.v<|.s<|.int .i64 a,.d<|.v<|.s<|.int .i64 b]
def ao9(a b):Yf a b=af (!bf a) (some<|aG ((0:Int),false)) (af (!bf b) (some<|aG ((0:Int),false))<|af (b==0) (some<|aG ((0:Int),false))<|ae (¬b=0)<|some<|aG ((cZ a b<|IntKind.i64.wrap<|a.tdiv b).fst,(cZ a b<|IntKind.i64.wrap<|a.tdiv b).snd)):=ah
def tj(a b:Int):Int×Bool:=
 if bf a=true then(if bf b=true then(if b=0 then(0,false)else cZ a b (IntKind.i64.wrap<|a.tdiv b))else(0,false))else(0,false)
def apa a b(_ha:WI a)(_hb:WI b):Yf a b=some (aG<|tj a b):=by
 rw[ao9];unfold tj;simp only[z8,jq,beq_iff_eq];by_cases h1:bf a=true
 ·by_cases h2:bf b=true
  ·by_cases h3:b=0
   all_goals simp_all[if_neg,if_pos,z6]
  grind
 grind
def apb:au Un:=aD (dI .i64) (dI .i64) fun a b=>([],aG<|tj a b)
def apc:aj 204 apb:=aJ zn zn (M:=lZ) rfl ⟨od,Cu,trivial⟩ Tryz.func204 fun a b=>GiF.r fun w _=>apa a b (am w 0)<|am w 1
def Yg(a:Int)(b:Int):Option (RF Un):=aw lZ aN Tryz.f205 0 [.d,.d] [.d<|.v<|.s<|.int .i64 a,.d<|.v<|.s<|.int .i64 b]
def apd(a b):Yg a b=af (!bf a) (some<|aG ((0:Int),false)) (af (!bf b) (some<|aG ((0:Int),false))<|af (b==0) (some<|aG ((0:Int),false))<|ae (¬b=0)<|some<|aG ((cZ a b<|a.tmod b).fst,(cZ a b<|a.tmod b).snd)):=ah
def tn(a b:Int):Int×Bool:=
 if bf a=true then(if bf b=true then(if b=0 then(0,false)else cZ a b (a.tmod b))else(0,false))else(0,false)
def ape a b(_ha:WI a)(_hb:WI b):Yg a b=some (aG<|tn a b):=by
 rw[apd];unfold tn;simp only[z8,jq,beq_iff_eq];by_cases h1:bf a=true
 ·by_cases h2:bf b=true
  ·by_cases h3:b=0
   all_goals simp_all[if_neg,if_pos,z6]
  grind
 grind
def apf:au Un:=aD (dI .i64) (dI .i64) fun a b=>([],aG<|tn a b)
def apg:aj 205 apf:=aJ zn zn (M:=lZ) rfl ⟨od,Cu,trivial⟩ Tryz.func205 fun a b=>GiF.r fun w _=>ape a b (am w 0)<|am w 1
end
end Go.Proofs.YtjfpbchdcbhfgaaGreat.B
namespace Go.Proofs.YtjfpbchdcbhfgaaGreat.B
open Go Go.RowKit
set_option maxRecDepth 100000
noncomputable section
attribute [local irreducible] aB bk zw br aK b9 aR bu bA
def Yh(a:Int):Option (RF Un):=aw av aN Tryz.f232 0 [.d] [.d<|.v<|.s<|.int .i64 a]
def aph(a):Yh a=af (a==0) (some<|ak true) (af (a==1) (some<|ak true)<|some<|ak<|a==2):=ah
def l6(a:Int):Bool:=
 if(a==(0:Int))=true then
  (true)
 else
  if(a==(1:Int))=true then
   (true)
  else
   (a==(2:Int))
def api a:Yh a=some (ak<|l6 a):=by rw[aph];unfold l6;simp only[z8];repeat(first|rfl|split)
def ER:au Un:=aQ (dI .i64) fun a=>([],ak<|l6 a)
def apj:aj 232 ER:=aU zn (M:=av) rfl trivial Tryz.func232 fun a=>GiF.r fun _ _=>api a
def Yi:Mc Un:=az [(232,ER)] [] [] [] []
def Yj(a:Int):Option (RF Un):=aw Yi aN Tryz.f198 0 [.d] [.d<|.v<|.s<|.int .i64 a]
def apk(a):Yj a=af (l6 a) (some<|ay a) (some<|ay<|(1:Int)):=ah
def ft(a:Int):Int:=
 if(l6 a)=true then
  (a)
 else
  ((1:Int))
def apl a:Yj a=some (ay<|ft a):=by rw[apk];unfold ft;simp only[z8];repeat(first|rfl|split)
def IJ:au Un:=aQ (dI .i64) fun a=>([],ay<|ft a)
def ES:aj 198 IJ:=aU zn (M:=Yi) rfl ⟨apj,trivial⟩ Tryz.func198 fun a=>GiF.r fun _ _=>apl a
def l7(a:Int):Int:=if a=0∨a=1∨a=2 then a else 1
theorem ET a:ft a=l7 a:=by
 unfold ft l6 l7;by_cases h0:a=0
 ·subst h0;rfl
 ·by_cases h1:a=1
  ·subst h1;rfl
  ·by_cases h2:a=2
   ·subst h2;rfl
   ·simp[h0,h1,h2]
def Yk(b:Bool):Option (RF Un):=aw av aN Tryz.f154 0 [.d] [.d<|.v<|cb b]
def apm(b):Yk b=af b (some<|ay<|(2:Int)) (some<|ay<|(0:Int)):=ah
def lE(b:Bool):Int:=
 if(b)=true then
  ((2:Int))
 else
  ((0:Int))
def apn b:Yk b=some (ay<|lE b):=by rw[apm];unfold lE;simp only[z8];repeat(first|rfl|split)
def Nr:au Un:=aQ dB fun b=>([],ay<|lE b)
def Yl:aj 154 Nr:=aU mu (M:=av) rfl trivial Tryz.func154 fun b=>GiF.r fun _ _=>apn b
def pA:Mc Un:=az [(198,IJ)] [] [] [] []
def Ym(a:Int):Option (RF Un):=aw pA aN Tryz.f160 0 [.d] [.d<|.v<|.s<|.int .i64 a]
def apo(a):Ym a=some (ay<|IntKind.i64.wrap<|(2:Int)- ft a):=ah
def tp(a:Int):Int:=
 (IntKind.i64.wrap<|(2:Int)- ft a)
def apq a:Ym a=some (ay<|tp a):=by rw[apo];unfold tp;simp only[z8];repeat(first|rfl|split)
def Yn:au Un:=aQ (dI .i64) fun a=>([],ay<|tp a)
def apr:aj 160 Yn:=aU zn (M:=pA) rfl ⟨ES,trivial⟩ Tryz.func160 fun a=>GiF.r fun _ _=>apq a
def Yo(a:Int)(b:Int):Option (RF Un):=aw pA aN Tryz.f166 0 [.d] [.d<|.v<|.s<|.int .i64 a,.d<|.v<|.s<|.int .i64 b]
def aps(a b):Yo a b=some (eD<|List.foldl (fun a b=>if b<a then b else a) (ft a) [ft b]):=ah
def mU(a:Int)(b:Int):Int:=
 (List.foldl (fun a b=>if b<a then b else a) (ft a) [ft b])
def apt a b:Yo a b=some (eD<|mU a b):=by rw[aps];unfold mU;simp only[z8];repeat(first|rfl|split)
def EU:au Un:=fun args=>match args with
 |[x0,x1]=>(dI .i64 x0).bind fun a=>(dI .i64 x1).bind fun b=>some ([],bh<|mU a b,bi<|mU a b)
 |_=>none
def apu:aj 166 EU:=by
 intro args ob rs os h hob;unfold EU at h;split at h
 ·simp only[y6,y8,yi]at h;obtain⟨a,e0,b,e1,rfl,rfl,rfl⟩:=h;obtain rfl:=zn e0;obtain rfl:=zn e1;exact⟨dz (M:=pA) rfl (cM (l1:=[(198,IJ)]) (l2:=[]) (l3:=[]) (l4:=[]) (l5:=[]) ⟨ES,trivial⟩ trivial trivial trivial trivial) Tryz.func166 (by kernel_rfl) aN 0 [.d] fun hwf=>(apt a b),zl Tryz.func166 (by kernel_rfl)<|by kernel_rfl⟩
 ·simp at h
def Yp(a:Int)(b:Int):Option (RF Un):=aw pA aN Tryz.f153 0 [.d] [.d<|.v<|.s<|.int .i64 a,.d<|.v<|.s<|.int .i64 b]
def apv(a b):Yp a b=some (eD<|List.foldl (fun a b=>if a<b then b else a) (ft a) [ft b]):=ah
def eL(a:Int)(b:Int):Int:=
 (List.foldl (fun a b=>if a<b then b else a) (ft a) [ft b])
def apw a b:Yp a b=some (eD<|eL a b):=by rw[apv];unfold eL;simp only[z8];repeat(first|rfl|split)
def w8:au Un:=fun args=>match args with
 |[x0,x1]=>(dI .i64 x0).bind fun a=>(dI .i64 x1).bind fun b=>some ([],bh<|eL a b,bi<|eL a b)
 |_=>none
def Ns:aj 153 w8:=by
 intro args ob rs os h hob;unfold w8 at h;split at h
 ·simp only[y6,y8,yi]at h;obtain⟨a,e0,b,e1,rfl,rfl,rfl⟩:=h;obtain rfl:=zn e0;obtain rfl:=zn e1;exact⟨dz (M:=pA) rfl (cM (l1:=[(198,IJ)]) (l2:=[]) (l3:=[]) (l4:=[]) (l5:=[]) ⟨ES,trivial⟩ trivial trivial trivial trivial) Tryz.func153 (by kernel_rfl) aN 0 [.d] fun hwf=>(apw a b),zl Tryz.func153 (by kernel_rfl)<|by kernel_rfl⟩
 ·simp at h
def kD:FV Un:=kl fun a b=>mU a b
def apx:eQ 166 kD:=by
 refine⟨zl Tryz.func166 (by kernel_rfl)<|by kernel_rfl,fun args ob rs h hob=>?_⟩;unfold kD kl at h;split at h
 ·simp only[y6,y8,yi]at h;obtain⟨a,e0,b,e1,rfl,rfl⟩:=h;simp only[cL,jr];rw[zn e0];rw[zn e1];refine Contract.data (apu _ ([]) _ _ (?_:EU _=some _)<|by simp).1;unfold EU;simp only[DS];rfl
 ·simp at h
def oN:FV Un:=kl fun a b=>eL a b
def apy:eQ 153 oN:=by
 refine⟨zl Tryz.func153 (by kernel_rfl)<|by kernel_rfl,fun args ob rs h hob=>?_⟩;unfold oN kl at h;split at h
 ·simp only[y6,y8,yi]at h;obtain⟨a,e0,b,e1,rfl,rfl⟩:=h;simp only[cL,jr];rw[zn e0];rw[zn e1];refine Contract.data (Ns _ ([]) _ _ (?_:w8 _=some _)<|by simp).1;unfold w8;simp only[DS];rfl
 ·simp at h
def Yq(a:Int):Option (RF Un):=aw pA aN Tryz.f155 0 [.d] [.d<|.v<|.s<|.int .i64 a]
def apz(a):Yq a=af (ft a==0) (some<|aq<|{kind:=(1:Int),n:=(0:Int),s:=⟨#[]⟩}) (af (ft a==2) (some<|aq<|{kind:=(1:Int),n:=(1:Int),s:=⟨#[]⟩})<|some<|aq z7):=ah
def ib(a:Int):Val:=
 if(ft a==(0:Int))=true then
  ({kind:=(1:Int),n:=(0:Int),s:=⟨#[]⟩})
 else
  if(ft a==(2:Int))=true then
   ({kind:=(1:Int),n:=(1:Int),s:=⟨#[]⟩})
  else
   (z7)
def apA a:Yq a=some (aq<|ib a):=by rw[apz];unfold ib;simp only[z8];repeat(first|rfl|split)
def w9:au Un:=aQ (dI .i64) fun a=>([],aq<|ib a)
def IK:aj 155 w9:=aU zn (M:=pA) rfl ⟨ES,trivial⟩ Tryz.func155 fun a=>GiF.r fun _ _=>apA a
def Yr:Mc Un:=az [(154,Nr)] [] [] [] []
def Ys(v:Val):Option (RF Un):=aw Yr aN Tryz.f161 0 [.d] [.d<|.agg<|enc Ty.val v]
def apB(v):Ys v=af (v.kind !=1) (some<|ay<|(1:Int)) (some<|ay<|lE<|v.n !=0):=ah
def dN(v:Val):Int:=
 if(v.kind !=(1:Int))=true then
  ((1:Int))
 else
  (lE<|v.n !=(0:Int))
def apC v:Ys v=some (ay<|dN v):=by rw[apB];unfold dN;simp only[z8];repeat(first|rfl|split)
def tq:au Un:=aQ (dS .val) fun v=>([],ay<|dN v)
def Cv:aj 161 tq:=aU zo (M:=Yr) rfl ⟨Yl,trivial⟩ Tryz.func161 fun v=>GiF.r fun _ _=>apC v
def EV:Mc Un:=az [(153,w8)] [] [] [] []
def Nt:Nat→NS:=aO [(3,{ts:=bl 17 456,bs:=bl 17 0,nm:=[]})] false
def xb(l:List Int)(v0:Int)(v1:Int):S Un:=(st 17 17 68 0 [(3,ai v0),(6,al .int l),(7,ai (↑l.length:Int)),(8,ai v1)] [] [])
def EW:S Un→Option (EX Un):=aC EV Nt Tryz.f208 [1,1,0,1,2,2] 3
def Yt:Exit→S Un→Option (RF Un):=aE EV Nt Tryz.f208 [1,1,0,1,2] [.d]
def Yu(l:List Int):Option (RF Un):=aw EV Nt Tryz.f208 0 [.d] [.d<|.v<|.dat (U:=Un) Ty.int l]
def apD(l):Yu l=(EW<|xb l (0:Int) (0:Int)).bind (zd Yt):=ah
def Yv(l v0 v1):EW (xb l v0 v1)=af (decide<|v1<(↑l.length:Int)) (ae (0≤v1∧v1<(↑l.length:Int))<|EW<|xb l (eL v0<|l.getD v1.toNat (0:Int))<|IntKind.i64.wrap<|v1+1) (some (.exit 0,(xb l v0 v1))):=aF
def apE(l v0 v1):Yt (.exit 0) (xb l v0 v1)=some (ay v0):=ah
def Aq(l:List Int):Int:=l.foldl (fun m a=>eL m a) 0
def apF(l:List Int)(hl:WL .int l):Yu l=some (ay<|Aq l):=by
 obtain⟨lp,_⟩:=zy (e:=.exit 0) (L:=EW) (st:=fun(m:Int) i=>xb l m i) (l:=l) (d:=0) (g:=fun m a=>eL m a) (fun _ _=>True) hl.len
  (fun m i x hi hx _=>by
   refine⟨trivial,?_⟩;rw[Yv];simp only[z8,hi,decide_true,if_true,and_true,y5,hx]
   rw[z6 (by omega)])
  (fun m _=>by rw[Yv];simp[z8]) 0 trivial
 rw[apD,zf lp,apE];rfl
def Yw:au Un:=aQ (dL .int) fun l=>([],ay<|Aq l)
def apG:aj 208 Yw:=aU zi (M:=EV) rfl ⟨Ns,trivial⟩ Tryz.func208 fun l=>GiF.r fun w _=>apF l<|am w 0
end
end Go.Proofs.YtjfpbchdcbhfgaaGreat.B
namespace Go.Proofs.YtjfpbchdcbhfgaaGreat.B
open Go Go.RowKit
set_option maxRecDepth 100000
noncomputable section
attribute [local irreducible] aB bk zw br aK b9 aR bu bA
noncomputable def deq{α:Type}(a b:α):Bool:=@decide (a=b)<|Classical.propDecidable _
def deq_iff{α}{a b:α}:deq a b=true↔a=b:=by unfold deq;exact@decide_eq_true_iff _<|Classical.propDecidable _
def EY{α}{a b:α}{x}(h:x=true↔a=b):x=deq a b:=by
 rw[Bb,h,deq_iff]
def apH{α β}{L:S Un→Option (EX Un)}{st:Int→S Un}{C}(R:Bool→Option β){a b:List α}{d e}(hl:a.length≤9223372036854775807)(step:∀i:Nat,i<a.length→i<b.length→L (st i)=if deq (a.getD i d) (b.getD i d)=true then L (st<|IntKind.i64.wrap<|(i:Int)+1)else some (.ret,st i))(stop:∀i:Nat,¬(i<a.length∧i<b.length)→L (st i)=some (e,st i))(cr:∀i:Nat,C .ret (st i)=R false)(ce:∀i:Nat,C e (st i)=R ((a.length:Int)==(b.length:Int))):(L<|st (0:Int)).bind (zd C)=R (deq a b):=by
 have key:∀(k i:Nat),i+k=a.length→i≤b.length→(L<|st i).bind (zd C)=R (deq (a.drop i)<|b.drop i):=by
  intro k
  induction k with
  |zero=>
   intro i hi hb;obtain rfl:i=a.length:=by omega
   rw[zf<|stop _<|by omega,ce];congr 1;refine EY ?_;rw[sC,beq_iff_eq];constructor
   ·intro h;rw[y4q<|by omega]
   ·intro h;have:=congrArg List.length h;rw[yt,nN]at this;omega
  |succ k ih=>
   intro i hi hb;have h1:i<a.length:=by omega
   by_cases h2:i<b.length
   ·have ga:a.getD i d=a[i]:=by rw[yf,ya h1];rfl
    have gb:b.getD i d=b[i]:=by rw[yf,ya h2];rfl
    have hs:=step i h1 h2;rw[ga,gb]at hs;rw[fR h1,fR h2];by_cases hq:deq a[i] b[i]=true
    ·rw[if_pos hq,eW h1 hl]at hs;rw[hs,ih (i+1) (by omega)<|by omega];rw[deq_iff]at hq;congr 1;refine EY ?_;rw[deq_iff,hq];exact⟨fun h=>by rw[h],fun h=>(Gj h).2⟩
    ·rw[if_neg hq]at hs;rw[zf hs,cr];congr 1;refine EY ?_;rw[deq_iff]at hq;exact⟨fun h=>absurd h<|by decide,fun h=>absurd (Gj h).1 hq⟩
   ·rw[zf<|stop _<|by omega,ce];congr 1;refine EY ?_;rw[beq_iff_eq];constructor
    ·intro h;omega
    ·intro h;have:=congrArg List.length h;rw[yt,yt]at this;omega
 exact key a.length 0 (by omega)<|by omega
def apI x y:(dA x y !=0)=!deq x y:=by
 rw[Bb,bne_iff_ne,jq,←Bool.not_eq_true,deq_iff,Qp,ne_eq,ordR_zero]
end
end Go.Proofs.YtjfpbchdcbhfgaaGreat.B
namespace Go.Proofs
open Go.Shelf
def Tryz.lays137_ren:Go.Shelf.Ren:=⟨fun|137=>235|217=>246|266=>251|n=>n,fun|9=>9|5=>5|3=>3|n=>n,fun|n=>n⟩
def Tryz.lays137:Go.Proofs.Lays.n137 Tryz.prog Tryz.lays137_ren:={
 mixed:=by kernel_rfl
 f137:=Tryz.func235.trans<|congrArg some<|by kernel_rfl
 f217:=Tryz.func246.trans<|congrArg some<|by kernel_rfl
 f266:=Tryz.func251.trans<|congrArg some<|by kernel_rfl
 t3:=Tryz.underlying3
 a3:=Tryz.isAgg3
 z3:=Tryz.sizeOf3
 v3:=Tryz.zeroValue3
 t5:=Tryz.underlying5
 a5:=Tryz.isAgg5
 z5:=Tryz.sizeOf5
 v5:=Tryz.zeroValue5
 t9:=Tryz.underlying9
 a9:=Tryz.isAgg9
 z9:=Tryz.sizeOf9
 v9:=Tryz.zeroValue9}
open Go.RowKit in
def Tryz.strings_IndexByte(s:ByteArray)(c:Int)(w:World):
 Calls Tryz.prog 235 #[.string s,.int .u8 c] w fun e w'=>e=.returned (.int .i64<|Lib.indexByte s.data.toList c.toNat.toUInt8)∧w'=w:=Any.strings_IndexByte Tryz.lays137 s c w
def Tryz.lays107_ren:Go.Shelf.Ren:=⟨fun|107=>206|108=>234|n=>n,fun|28=>42|3=>3|4=>4|0=>0|n=>n,fun|n=>n⟩
def Tryz.lays107:Go.Proofs.Lays.n107 Tryz.prog Tryz.lays107_ren:={
 mixed:=by kernel_rfl
 f107:=Tryz.func206.trans<|congrArg some<|by kernel_rfl
 f108:=Tryz.func234.trans<|congrArg some<|by kernel_rfl
 t0:=Tryz.underlying0
 a0:=Tryz.isAgg0
 z0:=Tryz.sizeOf0
 v0:=Tryz.zeroValue0
 t3:=Tryz.underlying3
 a3:=Tryz.isAgg3
 z3:=Tryz.sizeOf3
 v3:=Tryz.zeroValue3
 t4:=Tryz.underlying4
 a4:=Tryz.isAgg4
 z4:=Tryz.sizeOf4
 v4:=Tryz.zeroValue4
 t28:=Tryz.underlying42
 a28:=Tryz.isAgg42
 z28:=Tryz.sizeOf42
 v28:=Tryz.zeroValue42}
open Go.Lib in
def Tryz.slices_Contains_int(b off n c:Nat)(zs:List Int)(x:Int)(w:World)(hz:n≤zs.length)(hbig:n≤9223372036854775807)(hc:∀j,j<zs.length→w.cell? ⟨b,off+j,none⟩=some (.int .i64<|zs.getD j 0)):
 Calls Tryz.prog 206 #[.slice (some ⟨b,off,none⟩) n c,.int .i64 x] w fun e w'=>e=.returned (.bool<|(zs.take n).contains x)∧w'=w:=Any.slices_Contains_int Tryz.lays107 b off n c zs x w hz hbig hc
end Go.Proofs
namespace Go.Proofs.YtjfpbchdcbhfgaaGreat.B
open Go Go.RowKit
set_option maxRecDepth 1000000
def nF(s:ByteArray)(c:Int):Int:=Lib.indexByte s.data.toList c.toNat.toUInt8
def Yx:∀(l:List UInt8)(c:UInt8),Lib.indexByte l c≤l.length
 |[],_=>by simp[Lib.indexByte]
 |b::l,c=>by
  have:=Yx l c;unfold Lib.indexByte;rw[yz]
  repeat' split
  all_goals omega
def apJ s c: -1≤nF s c∧nF s c≤s.size:=by
 unfold nF;have h1:=Lib.indexByte_ge s.data.toList c.toNat.toUInt8;have h2:=Yx s.data.toList c.toNat.toUInt8;rw[iz]at h2;exact⟨h1,h2⟩
def QG:au Un:=fun args=>match args with
 |[x0,x1]=>(cB x0).bind fun s=>(dI .u8 x1).bind fun c=>some ([],[.c<|.s<|.int .i64<|nF s c],[])
 |_=>none
def apK:aj 235 QG:=by
 intro args ob rs os h hob;unfold QG at h;split at h
 ·rename_i x0 x1;simp only[y6,y8,yi]at h;obtain⟨s,e0,c,e1,rfl,rfl,rfl⟩:=h;obtain rfl:=cN e0;obtain rfl:=zn e1;refine⟨?_,zl Tryz.func235 (by kernel_rfl)<|by kernel_rfl⟩;have hx:=apJ s c;by_cases hr:s.size≤9223372036854775807
  ·refine XP (oneC_i64.2<|by omega) fun w vs St hvs=>?_
   match vs,hvs with
   |[v0,v1],⟨h0,h1,_⟩=>
    obtain⟨rfl,-⟩:=wW h0;obtain⟨rfl,-⟩:=tf h1;exact Tryz.strings_IndexByte s c w
  ·intro w St vs hbd hvs hld
   match vs,hvs with
   |[v0,v1],⟨h0,h1,_⟩=>
    obtain⟨rfl,g0⟩:=wW h0;exact absurd g0 hr
 ·simp at h
end Go.Proofs.YtjfpbchdcbhfgaaGreat.B
