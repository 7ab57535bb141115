/- Part 11 of the proof: Lnla Lscalar Lcompare Slcmp Svcmp Svord Snum2 Stri Sdeqp Shelf Lindexb Slike1. -/
import Derived.Lib.Bytealg
import Derived.Lib.Strings
import Derived.Lib.Walk
import Derived.Shelf.Small.Strs
import Derived.Shelf.Small.Wraps
import Derived.Shelf.Strings.Search1
import Derived.Shelf.GgClosure.StringsIndexFunc
import Derived.Ground.GgwProg
import Derived.Shelf.GgClosure.StringsIndexFuncTop
import Derived.Shelf.GgClosure.StringsRunes
import Derived.Shelf.Strings.FuncGrows
import Derived.Shelf.Slices.Turned
import Derived.Ground.Names2Prog
import Derived.Shelf.Slices.SearchI
import Derived.Test.YtjfpbchdcbhfgaaGreatProg
import Derived.Test.YtjfpbchdcbhfgaaGreatNse10
set_option linter.unusedVariables false
set_option linter.unusedSimpArgs false
namespace Go.Proofs.YtjfpbchdcbhfgaaGreat.B
open Go Go.RowKit
theorem z2kz{n x:Int}(h1:0≤n)(h2:n≤1048576)(h3:0≤x)(h4:x≤1048576):capI n x=if 1048576<n+x then 1048576 else n+x:=by
 grind[capI,z1p]
theorem zcn(a b:Int):minI a b=if b<a then b else a:=rfl
theorem zns(a b:Int):maxI a b=if a<b then b else a:=rfl
theorem capF{α:Type}(f:α→Int):∀(l:List α)(n:Int),(∀x∈l,0≤f x∧f x≤1048576)→0≤n→n≤1048576→
  n≤l.foldl (fun n x=>capI n (f x)) n∧l.foldl (fun n x=>capI n (f x)) n≤1048576∧(l.foldl (fun n x=>capI n (f x)) n≤20000→∀x∈l,f x≤20000)
 |[],n,_,h1,h2=>⟨y27 _,h2,fun _ x hx=>absurd hx (by simp)⟩
 |y::l,n,hf,h1,h2=>by
  have hy:=hf y y10;have e:=z2kz h1 h2 hy.1 hy.2;obtain⟨g1,g2,g3⟩:=capF f l (if 1048576<n+f y then 1048576 else n+f y) (fun x hx=>hf x (y12 _ hx)) (by omega) (by omega);grind
theorem addF{α:Type}(f:α→Int):∀(l:List α)(n:Int),(∀x∈l,0≤f x∧f x≤1048576)→0≤n→n+l.length*1048576≤4611686018427387904→
  n≤l.foldl (fun n x=>addI n (f x)) n∧l.foldl (fun n x=>addI n (f x)) n≤n+l.length*1048576∧(∀x∈l,n+f x≤l.foldl (fun n x=>addI n (f x)) n)
 |[],n,_,h1,h2=>⟨y27 _,by simp,fun x hx=>absurd hx (by simp)⟩
 |y::l,n,hf,h1,h2=>by
  have hy:=hf y y10;rw[yr]at h2 ⊢;have e:addI n (f y)=n+f y:=by grind[addI,z1p]
  obtain⟨g1,g2,g3⟩:=addF f l (n+f y) (fun x hx=>hf x (y12 _ hx)) (by omega) (by omega);grind
theorem z2l0(db:List Data)(r:Rel):zsz db (zll db 1 r.terms) r.aggs=(z10 r).foldl (fun n t=>addI n (wghT db t)) 1:=by
 have key:∀(l:List Agg)(n:Int),zsz db n l=(z8b l).foldl (fun n t=>addI n (wghT db t)) n:=by
  intro l
  induction l with
  |nil=>simp[zsz,z8b,y2j]
  |cons a l ih=>simp_all[zsz,z8b,y2c,z297,zlm]
 simp_all[z10,y2c,zlm]
def ioW(op held rl:Int)(rows:List Int):Int×Int:=
 if op=1 then(held,held)
 else if rows.length=0 then(rl,rl)
 else if rows.length=1 then(rows.getD 0 0,maxI (rows.getD 0 0) 1)
 else if op=5∨op=6 then(IntKind.i64.wrap (rows.getD 0 0*maxI (rows.getD 1 0) 1),IntKind.i64.wrap (rows.getD 0 0*maxI (rows.getD 1 0) 1))
 else(IntKind.i64.wrap (rows.getD 0 0+rows.getD 1 0),IntKind.i64.wrap (rows.getD 0 0+rows.getD 1 0))
theorem z2f5(op held rl n:Int)(rows:List Int)(asks:Int):z17x op held rl n rows asks=(minI (ioW op held rl rows).2 1048576,minI (addI n (IntKind.i64.wrap (minI (ioW op held rl rows).1 1048576*minI asks 1048576))) 1048576):=by
 grind[z17x,ioW]
def ioR(db:List Data)(r:Rel):Int×Int:=ioW r.op (zbr r.table db) r.rows.length (r.kids.map fun k=>(wghR db k).1)
def askR(db:List Data)(r:Rel):Int:=(z10 r).foldl (fun n t=>addI n (wghT db t)) 1
def kidR(db:List Data)(r:Rel):Int:=r.kids.foldl (fun n k=>addI n (wghR db k).2) 0
theorem z299(db:List Data)(r:Rel):wghR db r=(minI (ioR db r).2 1048576,minI (addI (kidR db r) (IntKind.i64.wrap (minI (ioR db r).1 1048576*minI (askR db r) 1048576))) 1048576):=by
 rw[z298,z2l0,z2f5];rfl
def zco:List Data→Nat
 |[]=>0
 |d::l=>d.rows.length+zco l
theorem z1c1(table:ByteArray):∀(db:List Data)(n:Int),0≤n→n+zco db≤4611686018427387904→n≤db.foldl (zlk table) n∧db.foldl (zlk table) n≤n+zco db∧∀d∈db,(d.table.toList==table.toList)=true→n+d.rows.length≤db.foldl (zlk table) n
 |[],n,_,_=>⟨y27 _,by grind,fun d hd=>absurd hd (by simp)⟩
 |y::l,n,h1,h2=>by
  simp only[zco]at h2 ⊢;rw[yt];unfold zlk;by_cases c:(y.table.toList==table.toList)=true
  ·have e:addI n y.rows.length=n+y.rows.length:=by grind[addI,z1p]
   rw[if_pos c,e];obtain⟨g1,g2,g3⟩:=z1c1 table l (n+y.rows.length) (by omega) (by omega);refine⟨by unfold zlk at g1;omega,by unfold zlk at g2;omega,fun d hd hc=>?_⟩;rcases yf.1 hd with rfl|hd
   ·exact g1
   ·have:=g3 d hd hc;unfold zlk at this;omega
  ·rw[if_neg c];obtain⟨g1,g2,g3⟩:=z1c1 table l n h1 (by omega);refine⟨g1,by unfold zlk at g2;omega,fun d hd hc=>?_⟩;rcases yf.1 hd with rfl|hd
   ·grind
   ·exact g3 d hd hc
theorem zg0(db:List Data)(r:Rel)(i:Nat)(h:i<r.kids.length):(r.kids.map fun k=>(wghR db k).1).getD i 0=(wghR db (r.kids.getD i za)).1:=by
 grind
theorem z1c2{a b:Int}(ha:0≤a)(ha2:a≤1048576)(hb:0≤b)(hb2:b≤1048576):0≤a*b∧a*b≤1099511627776:=by
 refine⟨Int.mul_nonneg ha hb,?_⟩;have h1:=y4r ha2 hb;omega
theorem z2f6(db:List Data)(hd:zco db≤2000000)(r:Rel)(hr:r.rows.length≤2000000)(hk:∀k∈r.kids,0≤(wghR db k).1∧(wghR db k).1≤1048576):0≤(ioR db r).1∧(ioR db r).1≤1099511627776∧0≤(ioR db r).2∧(ioR db r).2≤1099511627776:=by
 have hh:=z1c1 r.table db 0 (by omega) (by omega);have hg:∀i,0≤(r.kids.map fun k=>(wghR db k).1).getD i 0∧(r.kids.map fun k=>(wghR db k).1).getD i 0≤1048576:=fun i=>by
  grind
 have g0:=hg 0;have g1:=hg 1;unfold ioR ioW zbr;generalize(r.kids.map fun k=>(wghR db k).1).getD 1 0=b at*;have hm:0≤maxI b 1∧maxI b 1≤1048576:=by grind[zns]
 have hp:=z1c2 g0.1 g0.2 hm.1 hm.2;grind[z1p,maxI]
theorem z2f7(db:List Data)(hd:zco db≤2000000):∀n:Nat,(∀t:Term,t.ht<n→t.sz≤2000000→0≤wghT db t∧wghT db t≤1048576)∧
  (∀r:Rel,r.ht<n→r.sz≤2000000→(0≤(wghR db r).1∧(wghR db r).1≤1048576)∧0≤(wghR db r).2∧(wghR db r).2≤1048576):=by
 intro n
 induction n with
 |zero=>simp
 |succ n ih=>
  constructor
  ·intro t hn hs;rw[z1rx,←zt0,←zt1];obtain⟨a1,a2,_⟩:=capF (fun k=>wghT db k) t.kids 0 (fun k hk=>ih.1 k (by have:=Term.ht_kid hk;omega) (by have:=zlc hk;omega)) (by omega) (by omega);obtain⟨b1,b2,_⟩:=capF (fun k=>(wghR db k).2) t.sub _ (fun k hk=>(ih.2 k (by have:=Term.ht_sub hk;omega) (by have:=zld hk;omega)).2) a1 a2;omega
  ·intro r hn hs;have h3:=r.sz_eq;have hkl:=z12u r.kids;have hrl:r.rows.length≤2000000:=by omega
   have hk:=fun k(hk:k∈r.kids)=>ih.2 k (by have:=Rel.ht_kid hk;omega) (by have:=z9m hk;omega);have hio:=z2f6 db hd r hrl fun k h=>(hk k h).1;have htl:=zot r;obtain⟨a1,a2,_⟩:=addF (fun k=>wghT db k) (z10 r) 1 (fun t ht=>ih.1 t (by have:=(z92 ht).1;omega) (by have:=(z92 ht).2;omega)) (by omega) (by omega);obtain⟨b1,b2,_⟩:=addF (fun k=>(wghR db k).2) r.kids 0 (fun k h=>(hk k h).2) (by omega) (by omega);rw[z299];have hp:=z1c2 (a:=minI (ioR db r).1 1048576) (b:=minI (askR db r) 1048576) (by grind[zcn]) (by grind[zcn]) (by grind[askR,zcn]) (by grind[zcn]);grind[addI,kidR,z1p,zcn]
theorem z29a{db:List Data}(hd:zco db≤2000000){t:Term}(h:t.sz≤2000000):0≤wghT db t∧wghT db t≤1048576:=(z2f7 db hd (t.ht+1)).1 t (y39 _) h
theorem z5a{db:List Data}(hd:zco db≤2000000){r:Rel}(h:r.sz≤2000000):(0≤(wghR db r).1∧(wghR db r).1≤1048576)∧0≤(wghR db r).2∧(wghR db r).2≤1048576:=(z2f7 db hd (r.ht+1)).2 r (y39 _) h
theorem z1nh{db:List Data}(hd:zco db≤2000000){t:Term}(h:t.sz≤2000000)(hw:wghT db t≤20000):(∀k∈t.kids,wghT db k≤20000)∧∀k∈t.sub,(wghR db k).2≤20000:=by
 rw[z1rx,←zt0,←zt1]at hw;obtain⟨a1,a2,a3⟩:=capF (fun k=>wghT db k) t.kids 0 (fun k hk=>z29a hd (by have:=zlc hk;omega)) (by omega) (by omega);obtain⟨b1,b2,b3⟩:=capF (fun k=>(wghR db k).2) t.sub _ (fun k hk=>(z5a hd (by have:=zld hk;omega)).2) a1 a2;grind
theorem z197{db:List Data}(hd:zco db≤2000000){r:Rel}(h:r.sz≤2000000)(hw:(wghR db r).2≤20000):(∀k∈r.kids,(wghR db k).2≤20000)∧0≤(ioR db r).1∧(ioR db r).1≤20000∧(1≤(ioR db r).1→∀t∈z10 r,wghT db t≤20000)∧(wghR db r).1=minI (ioR db r).2 1048576:=by
 have h3:=r.sz_eq;have hkl:=z12u r.kids;have hk:=fun k(hk:k∈r.kids)=>z5a hd (r:=k) (by have:=z9m hk;omega);have hio:=z2f6 db hd r (by omega) fun k h=>(hk k h).1;have htl:=zot r;obtain⟨a1,a2,a3⟩:=addF (fun k=>wghT db k) (z10 r) 1 (fun t ht=>z29a hd (by have:=(z92 ht).2;omega)) (by omega) (by omega);obtain⟨b1,b2,b3⟩:=addF (fun k=>(wghR db k).2) r.kids 0 (fun k h=>(hk k h).2) (by omega) (by omega);change 1≤askR db r at a1;change∀x∈_,_≤askR db r at a3;change 0≤kidR db r at b1;change kidR db r≤_ at b2;change∀x∈_,_≤kidR db r at b3;have q1:0≤minI (ioR db r).1 1048576∧minI (ioR db r).1 1048576≤1048576:=by grind[zcn]
 have q2:1≤minI (askR db r) 1048576∧minI (askR db r) 1048576≤1048576:=by grind[zcn]
 have hp:=z1c2 q1.1 q1.2 (by omega:0≤minI (askR db r) 1048576) q2.2;have hp1:=Int.mul_le_mul_of_nonneg_left q2.1 q1.1;rw[z299]at hw ⊢;dsimp only at hw ⊢;have hp2:1≤minI (ioR db r).1 1048576→minI (askR db r) 1048576≤minI (ioR db r).1 1048576*minI (askR db r) 1048576:=fun hi=>by
  have:=y4r hi (show 0≤minI (askR db r) 1048576 by omega);omega
 generalize hpe:minI (ioR db r).1 1048576*minI (askR db r) 1048576=p at*;unfold addI at hw;rw[z1p (show-9223372036854775808≤p∧p≤9223372036854775807 by omega),z1p (by omega),zcn]at hw;rw[zcn]at q1 hp1 hp2;rw[zcn]at q2 hp2;grind
end Go.Proofs.YtjfpbchdcbhfgaaGreat.B
namespace Go.Proofs.YtjfpbchdcbhfgaaGreat.B
open Go Go.RowKit
set_option maxRecDepth 1000000
theorem zww{f:FuncId}{args:List (D Un)}{v:Value}(hv:oneC v=true)
  (h:∀(w:World)(vs:List Value),(∀St,All2 (DRel Tryz.prog En St w) vs args→Calls Tryz.prog f vs.toArray w fun e w'=>e=.returned v∧w'=w)):Contract Tryz.prog En f args [.c (.s v)] []:=by
 intro w St vs hbd hvs hld;refine(h w vs St hvs).mono ?_;rintro e w' ⟨rfl,rfl⟩;let gg:G:={β:=fun _=>0,lb:=fun _=>False,ω:=fun _ _=>none,tk:=fun _=>(none,0)};exact⟨_,rfl,Ext.refl _,gg,fun _ h=>h,fun b o x _ h=>by simp[gg]at h,fun b o x h=>by simp[gg]at h,⟨rfl,hv⟩,fun k o h=>by simp at h⟩
theorem zv6{St:Nat→Nat→Prop}{w:World}{v:Value}{s:ByteArray}(h:DRel Tryz.prog En St w v (.d (.v (cs s)))):v=.string s∧s.size≤9223372036854775807:=by
 have h':VRel En St w v (.s (.string s)):=h;cases h' with|s _ h=>exact⟨rfl,oneC_str.1 h⟩
theorem zv7{St:Nat→Nat→Prop}{w:World}{v:Value}{k:IntKind}{n:Int}(h:DRel Tryz.prog En St w v (.d (.v (.s (.int k n))))):v=.int k n∧k.min≤n∧n≤k.max:=by
 have h':VRel En St w v (.s (.int k n)):=h;cases h' with|s _ h=>exact⟨rfl,of_decide_eq_true h⟩
end Go.Proofs.YtjfpbchdcbhfgaaGreat.B
namespace Go.Proofs.YtjfpbchdcbhfgaaGreat.B
open Go Go.RowKit
set_option maxRecDepth 1000000
theorem z1cu(a b:ByteArray)(w:World):
  Calls Tryz.prog 229 #[.string a,.string b] w fun e w'=>e=.returned (.int .i64 (Lib.compareBytes a.data.toList b.data.toList))∧w'=w:=by
 have mixed:Tryz.prog.follows .mixedOrders=true:=by kernel_rfl
 go_enter Tryz.func229,Tryz.ntmps229
 go_wp2
 rw[run_callFunc_extern Tryz.func245 (by kernel_rfl) (by kernel_rfl) (by kernel_rfl) (e:=Extern.BytealgCompare.compare) (by kernel_rfl),Lib.run_compareString];simp only[Result.andThen];rw[Oper.upon_value]
 go_wp2
 go_ret;exact⟨rfl,rfl⟩
theorem zwx:∀(a b:List UInt8),Lib.compareBytes a b=cmpL a b
 |[],[]=>rfl
 |[],_::_=>rfl
 |_::_,[]=>rfl
 |x::a,y::b=>by
  have hlt:∀p q:UInt8,(p<q)=((p.toNat:Int)<q.toNat):=fun p q=>by simp[UInt8.lt_iff_toNat_lt]
  simp only[Lib.compareBytes,cmpL,cmpI,hlt];by_cases h:x=y
  ·subst h;simp[zwx a b]
  ·have hne:x.toNat≠y.toNat:=fun e=>h (UInt8.toNat_inj.1 e);rw[if_neg h];by_cases h1:(x.toNat:Int)<y.toNat
   ·rw[if_pos h1,if_pos h1]
   ·rw[if_neg h1,if_neg h1,if_pos (by omega),if_pos (by omega)]
theorem z1ni:∀(a b:List UInt8),-1≤cmpL a b∧cmpL a b≤1
 |[],[]=>by simp[cmpL]
 |[],_::_=>by simp[cmpL]
 |_::_,[]=>by simp[cmpL]
 |x::a,y::b=>by
  simp only[cmpL,cmpI];have:=z1ni a b
  repeat' split
  all_goals omega
def z5x:FnC Un:=fun args=>match args with
 |[x0,x1]=>(dStr x0).bind fun a=>(dStr x1).bind fun b=>some ([],[.c (.s (.int .i64 (cmpS a b)))],[])
 |_=>none
theorem zi8:FnOK 229 z5x:=by
 intro args ob rs os h hob;unfold z5x at h;split at h
 ·rename_i x0 x1;simp only[y6,y8,yl]at h;obtain⟨s,e0,t,e1,rfl,rfl,rfl⟩:=h;obtain rfl:=z3y e0;obtain rfl:=z3y e1;refine⟨?_,zk Tryz.func229 (by kernel_rfl) (by kernel_rfl)⟩;have hr:=z1ni s.toList t.toList;refine zww (oneC_i64.2 (by unfold cmpS;omega)) fun w vs St hvs=>?_
  match vs,hvs with
  |[v0,v1],⟨h0,h1,_⟩=>
   obtain⟨rfl,-⟩:=zv6 h0;obtain⟨rfl,-⟩:=zv6 h1;refine(z1cu s t w).mono ?_;rintro e w' ⟨rfl,rfl⟩;refine⟨?_,rfl⟩;rw[zwx];unfold cmpS;rw[ByteArray.toList_eq,ByteArray.toList_eq]
 ·simp at h
end Go.Proofs.YtjfpbchdcbhfgaaGreat.B
namespace Go.Proofs.YtjfpbchdcbhfgaaGreat.B
open Go Go.RowKit
set_option maxRecDepth 100000
noncomputable section
attribute [local irreducible] awp ctxK zu z1a retQ z1m
def z8q:Mc Un:=mcF_ [(229,z5x)] [] [] [] []
theorem z198(a:ByteArray)(b:ByteArray)(K:List (A Un)→List (Ob Un)→Prop):
  awp z8q z266 (ze Tryz.f194) (z2f Tryz.f194.ntmps 0 [.d (.v (cs a)),.d (.v (cs b))]) (retQ z8q Tryz.f194.results.toList [.d] K)=
(K (zag (cmpS a b)) (zah (cmpS a b))):=by kernel_rfl
def zqr(a:ByteArray)(b:ByteArray):Option (Int):=
 some (cmpS a b)
theorem z16f{a:ByteArray}{b:ByteArray}{r:Int}(h:zqr a b=some r):Runs (awp z8q z266 (ze Tryz.f194) (z2f Tryz.f194.ntmps 0 [.d (.v (cs a)),.d (.v (cs b))]) (retQ z8q Tryz.f194.results.toList [.d] fun rs os=>rs=zag r∧os=zah r)):=by
 rw[z198 a b (fun rs os=>rs=zag r∧os=zah r)];cases h;exact⟨rfl,rfl⟩
def strings_Compare(a:ByteArray)(b:ByteArray):Int:=
 (cmpS a b)
theorem z199(a:ByteArray)(b:ByteArray):zqr a b=some (strings_Compare a b):=by rfl
def z8r:FnC Un:=fnF2 dStr dStr fun a b=>([],zag (strings_Compare a b),zah (strings_Compare a b))
theorem zqs:FnOK 194 z8r:=fnK2 z3y z3y (M:=z8q) rfl ⟨zi8,trivial⟩ trivial trivial trivial trivial Tryz.func194 fun a b=>fun _ _=>z16f (z199 a b)
theorem z22w(x:Int)(K:List (A Un)→List (Ob Un)→Prop):
  awp z1dq z266 (ze Tryz.f228) (z2f Tryz.f228.ntmps 0 [.d (.v (.s (.int .i64 x)))]) (retQ z1dq Tryz.f228.results.toList [.d] K)=
(K (zuc (x !=x)) (zud (x !=x))):=by kernel_rfl
def z19a(x:Int):Option (Bool):=
 some (x !=x)
theorem z1ym{x:Int}{r:Bool}(h:z19a x=some r):Runs (awp z1dq z266 (ze Tryz.f228) (z2f Tryz.f228.ntmps 0 [.d (.v (.s (.int .i64 x)))]) (retQ z1dq Tryz.f228.results.toList [.d] fun rs os=>rs=zuc r∧os=zud r)):=by
 rw[z22w x (fun rs os=>rs=zuc r∧os=zud r)];cases h;exact⟨rfl,rfl⟩
def z60(x:Int):Bool:=
 (x !=x)
theorem z22x(x:Int):z19a x=some (z60 x):=by rfl
def z1ff:FnC Un:=fnF1 (dI .i64) fun x=>([],zuc (z60 x),zud (z60 x))
theorem z22y:FnOK 228 z1ff:=fnK1 z1c (M:=z1dq) rfl trivial trivial trivial trivial trivial Tryz.func228 fun x=>fun _ _=>z1ym (z22x x)
def ze1:Mc Un:=mcF_ [(228,z1ff)] [] [] [] []
theorem z1sn(x:Int)(y:Int)(K:List (A Un)→List (Ob Un)→Prop):
  awp ze1 z266 (ze Tryz.f193) (z2f Tryz.f193.ntmps 0 [.d (.v (.s (.int .i64 x))),.d (.v (.s (.int .i64 y)))]) (retQ ze1 Tryz.f193.results.toList [.d] K)=
(cnd (z60 x)
 (cnd (z60 y)
  (K (zag ((0:Int))) (zah ((0:Int))))
  (K (zag ((-1:Int))) (zah ((-1:Int)))))
 (cnd (z60 y)
  (K (zag ((1:Int))) (zah ((1:Int))))
  (cnd (decide (x<y))
   (K (zag ((-1:Int))) (zah ((-1:Int))))
   (cnd (decide (x>y))
    (K (zag ((1:Int))) (zah ((1:Int))))
    (K (zag ((0:Int))) (zah ((0:Int)))))))):=by kernel_rfl
def znt(x:Int)(y:Int):Option (Int):=
  if(z60 x)=true then
   if(z60 y)=true then
    some ((0:Int))
   else
    some ((-1:Int))
  else
   if(z60 y)=true then
    some ((1:Int))
   else
    if(decide (x<y))=true then
     some ((-1:Int))
    else
     if(decide (x>y))=true then
      some ((1:Int))
     else
      some ((0:Int))
theorem z1nj{x:Int}{y:Int}{r:Int}(h:znt x y=some r):Runs (awp ze1 z266 (ze Tryz.f193) (z2f Tryz.f193.ntmps 0 [.d (.v (.s (.int .i64 x))),.d (.v (.s (.int .i64 y)))]) (retQ ze1 Tryz.f193.results.toList [.d] fun rs os=>rs=zag r∧os=zah r)):=by
 constructor;rw[z1sn x y (fun rs os=>rs=zag r∧os=zah r)];rcases z14 h with⟨c1,h2⟩|⟨c1,h2⟩
 ·rcases z14 h2 with⟨c3,h4⟩|⟨c3,h4⟩
  ·cases h4;exact(z1f c1 (z1f c3 ⟨rfl,rfl⟩))
  ·cases h4;exact(z1f c1 (zw (zl c3) ⟨rfl,rfl⟩))
 ·rcases z14 h2 with⟨c5,h6⟩|⟨c5,h6⟩
  ·cases h6;exact(zw (zl c1) (z1f c5 ⟨rfl,rfl⟩))
  ·rcases z14 h6 with⟨c7,h8⟩|⟨c7,h8⟩
   ·cases h8;exact(zw (zl c1) (zw (zl c5) (z1f c7 ⟨rfl,rfl⟩)))
   ·rcases z14 h8 with⟨c9,h10⟩|⟨c9,h10⟩
    ·cases h10;exact(zw (zl c1) (zw (zl c5) (zw (zl c7) (z1f c9 ⟨rfl,rfl⟩))))
    ·cases h10;exact(zw (zl c1) (zw (zl c5) (zw (zl c7) (zw (zl c9) ⟨rfl,rfl⟩))))
def z3b(x:Int)(y:Int):Int:=
  if(z60 x)=true then
   if(z60 y)=true then
    ((0:Int))
   else
    ((-1:Int))
  else
   if(z60 y)=true then
    ((1:Int))
   else
    if(decide (x<y))=true then
     ((-1:Int))
    else
     if(decide (x>y))=true then
      ((1:Int))
     else
      ((0:Int))
theorem z1so(x:Int)(y:Int):znt x y=some (z3b x y):=by grind[znt,z3b]
def ze2:FnC Un:=fnF2 (dI .i64) (dI .i64) fun x y=>([],zag (z3b x y),zah (z3b x y))
theorem z10x:FnOK 193 ze2:=fnK2 z1c z1c (M:=ze1) rfl ⟨z22y,trivial⟩ trivial trivial trivial trivial Tryz.func193 fun x y=>fun _ _=>z1nj (z1so x y)
@[simp] theorem z1im(x y:Int):z3b x y=cmpI x y:=by
 unfold z3b z60 cmpI;simp
@[simp] theorem z13k(a b:ByteArray):strings_Compare a b=cmpS a b:=rfl
def z5y:Nat→NS:=nsF_ [(3,{ts:=[false,false,true,true,false,false,true,true,true,false,false,false,false,false,false,false,false,false],bs:=[false,false,false,false,false,false,false,false,false,false,false,false,false,false,false,false,false,false],nm:=[],gb:=[],gs:=[]})] false
def zba(vals:List Int)(v0:Int):S Un:=(st 18 18 72 0 [(2,AV.one (A.c (C.s (Value.int IntKind.i64 (0:Int))))),(3,AV.one (A.c (C.s (Value.int IntKind.i64 (0:Int))))),(6,AV.one (A.c (C.sl Ty.int vals false))),(7,AV.one (A.c (C.s (Value.int IntKind.i64 (↑vals.length:Int))))),(8,AV.one (A.c (C.s (Value.int IntKind.i64 v0))))] [] [])
def zj6(vals:List Int)(v0:Int)(v1:Int):S Un:=(st 18 18 72 0 [(2,AV.one (A.c (C.s (Value.int IntKind.i64 v1)))),(3,AV.one (A.c (C.s (Value.int IntKind.i64 (0:Int))))),(6,AV.one (A.c (C.sl Ty.int vals false))),(7,AV.one (A.c (C.s (Value.int IntKind.i64 (↑vals.length:Int))))),(8,AV.one (A.c (C.s (Value.int IntKind.i64 v0))))] [] [])
theorem z2f8(vals:List Int)(K:List (A Un)→List (Ob Un)→Prop):
  awp z1dq z5y (ze Tryz.f192) (z2f Tryz.f192.ntmps 0 [.d (.v (.dat (U:=Un) Ty.int vals))]) (retQ z1dq Tryz.f192.results.toList [.d] K)=
(zu (z5y 3) (awp z1dq z5y (sub (ze Tryz.f192) [1,1,0,1,2,2])) (ctxK z1dq z5y (ze Tryz.f192) [1,1,0,1,2] (retQ z1dq Tryz.f192.results.toList [.d] K)) (zba vals (0:Int))):=by kernel_rfl
theorem z19b(vals:List Int)(v0:Int)(k:Nat)(Q:Exit→S Un→Prop):
  z1a (z5y 3) (awp z1dq z5y (sub (ze Tryz.f192) [1,1,0,1,2,2])) Q (k+1) (zba vals v0)=
(cnd (decide (v0<(↑vals.length:Int)))
 (((0:Int)≤v0∧v0<(↑vals.length:Int))∧
 (cnd (vals.getD v0.toNat (0:Int) !=(0:Int))
  (Q .ret (zj6 vals v0 (vals.getD v0.toNat (0:Int))))
  (z1a (z5y 3) (awp z1dq z5y (sub (ze Tryz.f192) [1,1,0,1,2,2])) Q k (zba vals (IntKind.i64.wrap (v0+(1:Int)))))))
 (Q (.exit 0) (zba vals v0))):=by kernel_rfl
theorem z1yn(vals:List Int)(v0:Int)(v1:Int)(K:List (A Un)→List (Ob Un)→Prop):
  ctxK z1dq z5y (ze Tryz.f192) [1,1,0,1,2] (retQ z1dq Tryz.f192.results.toList [.d] K) .ret (zj6 vals v0 v1)=
(K (zag (v1)) (zah (v1))):=by kernel_rfl
theorem z22z(vals:List Int)(v0:Int)(K:List (A Un)→List (Ob Un)→Prop):
  ctxK z1dq z5y (ze Tryz.f192) [1,1,0,1,2] (retQ z1dq Tryz.f192.results.toList [.d] K) (.exit 0) (zba vals v0)=
(K (zag ((0:Int))) (zah ((0:Int)))):=by kernel_rfl
def zqt(vals:List Int)(v:Int):Option ((Int) ⊕((Int×Int) ⊕(Int))):=
  if(decide (v<(↑vals.length:Int)))=true then
   if(0:Int)≤v∧v<(↑vals.length:Int)then
    if(vals.getD v.toNat (0:Int) !=(0:Int))=true then
     some (.inr (.inl (v,(vals.getD v.toNat (0:Int)))))
    else
     some (.inl (IntKind.i64.wrap (v+(1:Int))))
   else none
  else
   some (.inr (.inr v))
def zkf(vals:List Int)(v:Int):Option ((Int×Int) ⊕(Int)):=zda (zqt vals) v
theorem z19c(vals:List Int)(v:Int):zkf vals v=zol (zkf vals) (zqt vals v):=zu9 _ _
def zwy(vals:List Int)(r:(Int×Int) ⊕(Int))(Q:Exit→S Un→Prop):Prop:=match r with| .inl x=>Q .ret (zj6 vals x.1 x.2)| .inr x=>Q (.exit 0) (zba vals x)
theorem z1yo{vals:List Int}{x:Int×Int}{Q:Exit→S Un→Prop}(h:Q .ret (zj6 vals x.1 x.2)):zwy vals (.inl x) Q:=h
theorem z230{vals:List Int}{x:Int}{Q:Exit→S Un→Prop}(h:Q (.exit 0) (zba vals x)):zwy vals (.inr x) Q:=h
theorem z159{vals:List Int}{v:Int}{r:(Int×Int) ⊕(Int)}(h:zkf vals v=some r)(Q:Exit→S Un→Prop)(hQ:zwy vals r Q):zu (z5y 3) (awp z1dq z5y (sub (ze Tryz.f192) [1,1,0,1,2,2])) Q (zba vals v):=by
 refine@zua _ _ (zqt vals) (fun v=>zu (z5y 3) (awp z1dq z5y (sub (ze Tryz.f192) [1,1,0,1,2,2])) Q (zba vals v)) (fun r=>zwy vals r Q) ?_ v r h hQ;intro v o h hI;rcases z14 h with⟨c1,h2⟩|⟨c1,h2⟩
 ·obtain⟨c3,h4⟩:=z9j h2;rcases z14 h4 with⟨c5,h6⟩|⟨c5,h6⟩
  ·cases h6;exact z4q 1 (mpr (z19b vals v 0 Q) (z1f c1 (And.intro c3 (z1f c5 hI))))
  ·cases h6;obtain⟨k7,hk8⟩:=zsm hI;exact z4q (k7+1) (mpr (z19b vals v k7 Q) (z1f c1 (And.intro c3 (zw (zl c5) hk8))))
 ·cases h2;exact z4q 1 (mpr (z19b vals v 0 Q) (zw (zl c1) hI))
def z19d(vals:List Int):Option (Int):=
  (zkf vals (0:Int))>>=fun o9=>match o9 with
   | .inl o10=>
     some (o10.2)
   | .inr o11=>
     some ((0:Int))
theorem z2bf{vals:List Int}{r:Int}(h:z19d vals=some r):Runs (awp z1dq z5y (ze Tryz.f192) (z2f Tryz.f192.ntmps 0 [.d (.v (.dat (U:=Un) Ty.int vals))]) (retQ z1dq Tryz.f192.results.toList [.d] fun rs os=>rs=zag r∧os=zah r)):=by
 constructor;rw[z2f8 vals (fun rs os=>rs=zag r∧os=zah r)];obtain⟨o12,ho13,h14⟩:=bind_some h;rcases o12 with o15|o16
 ·cases h14;exact(z159 ho13 _ (z1yo (mpr (z1yn vals o15.1 o15.2 _) ⟨rfl,rfl⟩)))
 ·cases h14;exact(z159 ho13 _ (z230 (mpr (z22z vals o16 _) ⟨rfl,rfl⟩)))
def orL:List Int→Int
 |[]=>0
 |x::r=>if x=0 then orL r else x
def zqu(vals:List Int):Int:=orL vals
@[simp] theorem z2f9(vals:List Int):zqu vals=orL vals:=by rfl
theorem z27g(vals:List Int)(h:WL .int vals):∀(r:List Int)(i:Nat),vals.drop i=r→
  ∃o,zkf vals i=some o∧(match o with| .inl o=>o.2| .inr _=>0)=orL r:=by
 intro r
 induction r with
 |nil=>
  intro i h1;have e1:=drop_nil h1;have hn:¬((i:Int)<vals.length):=by omega
  exact⟨.inr i,by rw[z19c,zqt];simp[hn],rfl⟩
 |cons x r ih=>
  intro i h1;obtain⟨a1,a2,a3,_⟩:=z32 h1;have hp:(i:Int)<vals.length:=by omega
  have hi:(0:Int)≤i:=by omega
  rw[z19c,zqt];simp only[hp,hi,decide_true,if_true,and_self,y5,a2,bne_iff_ne,ne_eq,ite_not,orL];by_cases hx:x=0
  ·rw[if_pos hx,if_pos hx,zwj a1 h.len,zqj];grind
  simp_all
theorem z27h(vals:List Int)(h:WL .int vals):z19d vals=some (zqu vals):=by
 obtain⟨o,ho,e⟩:=z27g vals h _ 0 rfl;unfold z19d zqu;simp at e;rw[←e];have ho':zkf vals 0=some o:=ho;rw[ho'];cases o<;>rfl
def z1in:FnC Un:=fnF1 (dL .int) fun vals=>([],zag (zqu vals),zah (zqu vals))
theorem z2fa:FnOK 192 z1in:=fnK1 zx (M:=z1dq) rfl trivial trivial trivial trivial trivial Tryz.func192 fun vals=>fun w _=>z2bf (z27h vals (wfA_ w 0))
end
end Go.Proofs.YtjfpbchdcbhfgaaGreat.B
namespace Go.Proofs.YtjfpbchdcbhfgaaGreat.B
open Go Go.RowKit
set_option maxRecDepth 100000
noncomputable section
attribute [local irreducible] awp ctxK zu z1a retQ z1m
def cmpV(a b:Val):Int×Bool:=if a.kind=b.kind then(if a.kind=3 then(cmpS a.s b.s,true)else if a.kind=1∨a.kind=2 then(cmpI a.n b.n,true)else(0,false))else(0,false)
def ze3:Mc Un:=mcF_ [(193,ze2),(194,z8r),(192,z1in)] [] [] [] []
theorem z1sp(a:Val)(b:Val)(K:List (A Un)→List (Ob Un)→Prop):
  awp ze3 z266 (ze Tryz.f147) (z2f Tryz.f147.ntmps 0 [.d (.agg (enc Ty.val a)),.d (.agg (enc Ty.val b))]) (retQ ze3 Tryz.f147.results.toList [.d] K)=
(K (zag (zqu [z3b a.kind b.kind,z3b a.n b.n,strings_Compare a.s b.s])) (zah (zqu [z3b a.kind b.kind,z3b a.n b.n,strings_Compare a.s b.s]))):=by kernel_rfl
def znu(a:Val)(b:Val):Option (Int):=
 some (zqu [z3b a.kind b.kind,z3b a.n b.n,strings_Compare a.s b.s])
theorem z1nk{a:Val}{b:Val}{r:Int}(h:znu a b=some r):Runs (awp ze3 z266 (ze Tryz.f147) (z2f Tryz.f147.ntmps 0 [.d (.agg (enc Ty.val a)),.d (.agg (enc Ty.val b))]) (retQ ze3 Tryz.f147.results.toList [.d] fun rs os=>rs=zag r∧os=zah r)):=by
 rw[z1sp a b (fun rs os=>rs=zag r∧os=zah r)];cases h;exact⟨rfl,rfl⟩
theorem z1io(a b:Val)(_ha:WS .val a)(_hb:WS .val b):znu a b=some (zb4 a b):=by
 unfold znu zb4 ordV;simp only[z2f9,z1im,z13k,orL,z178];grind
def zav:FnC Un:=fun args=>match args with
 |[x0,x1]=>(dS .val x0).bind fun a=>(dS .val x1).bind fun b=>some ([],zag (zb4 a b),zah (zb4 a b))
 |_=>none
theorem znv:FnOK 147 zav:=by
 intro args ob rs os h hob;unfold zav at h;split at h
 ·simp only[y6,y8,yl]at h;obtain⟨a,e0,b,e1,rfl,rfl,rfl⟩:=h;obtain rfl:=zr e0;obtain rfl:=zr e1;exact⟨zhg (M:=ze3) rfl (z4p (l1:=[(193,ze2),(194,z8r),(192,z1in)]) (l2:=[]) (l3:=[]) (l4:=[]) (l5:=[]) ⟨z10x,zqs,z2fa,trivial⟩ trivial trivial trivial trivial) Tryz.func147 (by rfl) z266 0 [.d] (fun hwf=>z1nk (z1io a b (z46 hwf (a:=.d (.agg (enc Ty.val a))) (yd (i:=0) rfl)) (z46 hwf (a:=.d (.agg (enc Ty.val b))) (yd (i:=1) rfl)))),zk Tryz.func147 (by rfl) (by rfl)⟩
 grind
def z2e:FV Un:=fun args=>match args with
 |[x0,x1]=>(dS .val (.d x0)).bind fun a=>(dS .val (.d x1)).bind fun b=>some ([],[.v (.s (.int .i64 (zb4 a b)))])
 |_=>none
theorem zwz:FvOK 147 z2e:=by
 refine⟨zk Tryz.func147 (by rfl) (by rfl),fun args ob rs h hob=>?_⟩;unfold z2e at h;split at h
 ·simp only[y6,y8,yl]at h;obtain⟨a,e0,b,e1,rfl,rfl⟩:=h;simp;rw[zr e0];rw[zr e1];refine Contract.data (znv _ ([]) _ _ (?_:zav _=some _) (by simp)).1;rfl
 grind
theorem zva:z2e=z1i ordV:=by
 rfl
def zbb:Mc Un:=mcF_ [(194,z8r),(193,ze2)] [] [] [] []
def z4j(r:Int×Bool):List (A Un):=[.c (.s (.int .i64 r.1)),.c (.s (.bool r.2))]
def z4k(_r:Int×Bool):List (Ob Un):=[]
theorem z1ip(a:Val)(b:Val)(K:List (A Un)→List (Ob Un)→Prop):
  awp zbb z266 (ze Tryz.f152) (z2f Tryz.f152.ntmps 0 [.d (.agg (enc Ty.val a)),.d (.agg (enc Ty.val b))]) (retQ zbb Tryz.f152.results.toList [.d,.d] K)=
(cnd (a.kind !=b.kind)
 (K (z4j ((0:Int),false)) (z4k ((0:Int),false)))
 (cnd (decide (a.kind<(1:Int)))
  (K (z4j ((0:Int),false)) (z4k ((0:Int),false)))
  (cnd (decide (a.kind>(3:Int)))
   (K (z4j ((0:Int),false)) (z4k ((0:Int),false)))
   (cnd (a.kind==(3:Int))
    (K (z4j (strings_Compare a.s b.s,true)) (z4k (strings_Compare a.s b.s,true)))
    (K (z4j (z3b a.n b.n,true)) (z4k (z3b a.n b.n,true))))))):=by kernel_rfl
def zjz(a:Val)(b:Val):Option (Int×Bool):=
  if(a.kind !=b.kind)=true then
   some ((0:Int),false)
  else
   if(decide (a.kind<(1:Int)))=true then
    some ((0:Int),false)
   else
    if(decide (a.kind>(3:Int)))=true then
     some ((0:Int),false)
    else
     if(a.kind==(3:Int))=true then
      some (strings_Compare a.s b.s,true)
     else
      some (z3b a.n b.n,true)
theorem z1cv{a:Val}{b:Val}{r:Int×Bool}(h:zjz a b=some r):Runs (awp zbb z266 (ze Tryz.f152) (z2f Tryz.f152.ntmps 0 [.d (.agg (enc Ty.val a)),.d (.agg (enc Ty.val b))]) (retQ zbb Tryz.f152.results.toList [.d,.d] fun rs os=>rs=z4j r∧os=z4k r)):=by
 constructor;rw[z1ip a b (fun rs os=>rs=z4j r∧os=z4k r)];rcases z14 h with⟨c1,h2⟩|⟨c1,h2⟩
 ·cases h2;exact(z1f c1 ⟨rfl,rfl⟩)
 ·rcases z14 h2 with⟨c3,h4⟩|⟨c3,h4⟩
  ·cases h4;exact(zw (zl c1) (z1f c3 ⟨rfl,rfl⟩))
  ·rcases z14 h4 with⟨c5,h6⟩|⟨c5,h6⟩
   ·cases h6;exact(zw (zl c1) (zw (zl c3) (z1f c5 ⟨rfl,rfl⟩)))
   ·rcases z14 h6 with⟨c7,h8⟩|⟨c7,h8⟩
    ·cases h8;exact(zw (zl c1) (zw (zl c3) (zw (zl c5) (z1f c7 ⟨rfl,rfl⟩))))
    ·cases h8;exact(zw (zl c1) (zw (zl c3) (zw (zl c5) (zw (zl c7) ⟨rfl,rfl⟩))))
def z1t(a b:Val):Int×Bool:=cmpV a b
@[simp] theorem z1iq(a b:Val):z1t a b=cmpV a b:=by rfl
theorem z19e(a b:Val)(_ha:WS .val a)(_hb:WS .val b):zjz a b=some (z1t a b):=by
 unfold zjz z1t cmpV;simp;grind
def z8c:FnC Un:=fun args=>match args with
 |[x0,x1]=>(dS .val x0).bind fun a=>(dS .val x1).bind fun b=>some ([],z4j (z1t a b),z4k (z1t a b))
 |_=>none
theorem zk0:FnOK 152 z8c:=by
 intro args ob rs os h hob;unfold z8c at h;split at h
 ·simp only[y6,y8,yl]at h;obtain⟨a,e0,b,e1,rfl,rfl,rfl⟩:=h;obtain rfl:=zr e0;obtain rfl:=zr e1;exact⟨zhg (M:=zbb) rfl (z4p (l1:=[(194,z8r),(193,ze2)]) (l2:=[]) (l3:=[]) (l4:=[]) (l5:=[]) ⟨zqs,z10x,trivial⟩ trivial trivial trivial trivial) Tryz.func152 (by rfl) z266 0 [.d,.d] (fun hwf=>z1cv (z19e a b (z46 hwf (a:=.d (.agg (enc Ty.val a))) (yd (i:=0) rfl)) (z46 hwf (a:=.d (.agg (enc Ty.val b))) (yd (i:=1) rfl)))),zk Tryz.func152 (by rfl) (by rfl)⟩
 grind
end
end Go.Proofs.YtjfpbchdcbhfgaaGreat.B
namespace Go.Proofs.YtjfpbchdcbhfgaaGreat.B
open Go Go.RowKit
set_option maxRecDepth 100000
noncomputable section
attribute [local irreducible] awp ctxK zu z1a retQ z1m awf ctxF z1k
def z19f(r:Int):RF Un:=(zag r,zah r)
def z1nm:Nat→NS:=nsF_ [(2,{ts:=bl 39 14407,bs:=bl 39 0,nm:=[]})] false
def zaw(s1:List Val)(s2:List Val)(p:Val→Val→Int)(v0:Int):S Un:=(st 39 39 156 0 [(0,al .val s1),(1,al .val s2),(2,AV.one (A.c (C.fv (z1i p)))),(6,ai (0:Int)),(11,al .val s1),(12,ai (↑s1.length:Int)),(13,ai v0)] [] [])
def zia(s1:List Val)(s2:List Val)(p:Val→Val→Int)(v0:Int)(v1:Int):S Un:=(st 39 39 156 0 [(0,al .val s1),(1,al .val s2),(2,AV.one (A.c (C.fv (z1i p)))),(6,ai v1),(11,al .val s1),(12,ai (↑s1.length:Int)),(13,ai v0)] [] [])
def zgy:S Un→Option (EX Un):=lpF_ z1dq z1nm Tryz.f195 [1,0,1,2,2] 2
def z1c3:Exit→S Un→Option (RF Un):=cxF_ z1dq z1nm Tryz.f195 [1,0,1,2] [.d]
def z29b(s1:List Val)(s2:List Val)(p:Val→Val→Int):Option (RF Un):=fnF_ z1dq z1nm Tryz.f195 0 [.d] [.d (.v (.dat (U:=Un) Ty.val s1)),.d (.v (.dat (U:=Un) Ty.val s2)),.fn (z1i p)]
theorem z2l1(s1:List Val)(s2:List Val)(p:Val→Val→Int):z29b s1 s2 p=(zgy (zaw s1 s2 p (0:Int))).bind (zd z1c3):=by kernel_rfl
theorem z1c4(s1:List Val)(s2:List Val)(p:Val→Val→Int)(v0:Int):zgy (zaw s1 s2 p v0)=cndO (decide (v0<(↑s1.length:Int))) (obO (0≤v0∧v0<(↑s1.length:Int)) (cndO (decide (v0≥(↑s2.length:Int))) (some (.ret,(zia s1 s2 p v0 (1:Int)))) (obO (0≤v0∧v0<(↑s2.length:Int)) (cndO (p (s1.getD v0.toNat z7) (s2.getD v0.toNat z7) !=0) (some (.ret,(zia s1 s2 p v0 (p (s1.getD v0.toNat z7) (s2.getD v0.toNat z7))))) (zgy (zaw s1 s2 p (IntKind.i64.wrap (v0+1)))))))) (some (.exit 0,(zaw s1 s2 p v0))):=lpQ_ (by kernel_rfl)
theorem z1fg(s1:List Val)(s2:List Val)(p:Val→Val→Int)(v0:Int)(v1:Int):z1c3 .ret (zia s1 s2 p v0 v1)=some (z19f (v1)):=by kernel_rfl
theorem z2bg(s1:List Val)(s2:List Val)(p:Val→Val→Int)(v0:Int):z1c3 (.exit 0) (zaw s1 s2 p v0)=cndO (decide ((↑s1.length:Int)<(↑s2.length:Int))) (some (z19f ((-1:Int)))) (some (z19f ((0:Int)))):=by kernel_rfl
def z13l(p:Val→Val→Int):List Val→List Val→Int
 |[],[]=>0
 |[],_::_=>-1
 |_::_,[]=>1
 |a::l,b::r=>if p a b=0 then z13l p l r else p a b
def cmpR(s1 s2:List Val)(p:Val→Val→Int):Int:=z13l p s1 s2
theorem z2ii (s1 s2:List Val) (p:Val→Val→Int) (h1:WL .val s1) (h2:WL .val s2) : ∀ (ra rb:List Val) (i:Nat),s1.drop i=ra→s2.drop i=rb→i≤s1.length→i≤s2.length →
    (zgy (zaw s1 s2 p (i:Int))).bind (zd z1c3)=some (z19f (z13l p ra rb)):=by
  have l1:=h1.len;intro ra
  induction ra with
  | nil =>
    intro rb i e1 e2 i1 i2
    have n1 : s1.length = i := by have : s1.length ≤ i := y1o.1 e1
                                  omega
    have hL:zgy (zaw s1 s2 p (i:Int))=some (.exit 0,zaw s1 s2 p (i:Int)):=by
      rw[z1c4,z8,if_neg (by rw[decide_eq_true_eq];omega)]
    rw[zg hL,z2bg,z8];cases rb with
    | nil =>
      have : s2.length≤i:=y1o.1 e2;rw[if_neg (by rw[decide_eq_true_eq];omega)];rfl
    | cons y rb =>
      have hlt:i<s2.length:=by
        rcases yi i s2.length with h | h
        · exact h
        · rw[y4s h] at e2;simp at e2
      rw[if_pos (by rw[decide_eq_true_eq];omega)];rfl
  | cons x ra ih =>
    intro rb i e1 e2 i1 i2;obtain⟨a1,a2,a3,_⟩:=z32 e1;cases rb with
    | nil =>
      have n2:s2.length≤i:=y1o.1 e2;have hL:zgy (zaw s1 s2 p (i:Int))=some (.ret,zia s1 s2 p (i:Int) 1):=by
        rw[z1c4,z8,if_pos (by rw[decide_eq_true_eq];omega),z6 (by omega),z8,if_pos (by rw[decide_eq_true_eq];omega)]
      rw[zg hL,z1fg];rfl
    | cons y rb =>
      obtain⟨b1,b2,b3,_⟩:=z32 e2;by_cases hxy : p x y=0
      · have hL:zgy (zaw s1 s2 p (i:Int))=zgy (zaw s1 s2 p ((i+1:Nat):Int)):=by
          rw[z1c4,z8,if_pos (by rw[decide_eq_true_eq];omega),z6 (by omega),z8,if_neg (by rw[decide_eq_true_eq];omega),z6 (by omega),y5,a2,b2,z8,if_neg (by simp [hxy]),z1p (by omega)];rfl
        rw[hL,ih rb (i+1) a3 b3 (by omega) (by omega)];simp only[z13l,if_pos hxy]
      · have hL:zgy (zaw s1 s2 p (i:Int))=some (.ret,zia s1 s2 p (i:Int) (p x y)):=by
          rw[z1c4,z8,if_pos (by rw[decide_eq_true_eq];omega),z6 (by omega),z8,if_neg (by rw[decide_eq_true_eq];omega),z6 (by omega),y5,a2,b2,z8,if_pos (by simpa using hxy)]
        rw[zg hL,z1fg];simp only[z13l,if_neg hxy]
theorem z2fd(s1 s2:List Val)(p:Val→Val→Int)(h1:WL .val s1)(h2:WL .val s2):z29b s1 s2 p=some (z19f (cmpR s1 s2 p)):=by
 rw[z2l1];exact z2ii s1 s2 p h1 h2 s1 s2 0 rfl rfl (yb _) (yb _)
def z231:FnC Un:=fun args=>match args with
 |[x0,x1,x2]=>(dL .val x0).bind fun s1=>(dL .val x1).bind fun s2=>(dF x2).bind fun p=>some ([p=(z1i (zm p))],zag (cmpR s1 s2 (zm p)),zah (cmpR s1 s2 (zm p)))
 |_=>none
theorem z2l2:FnOK 195 z231:=by
 intro args ob rs os h hob;unfold z231 at h;split at h
 ·simp only[y6,y8,yl]at h;obtain⟨s1,e0,s2,e1,p,e2,rfl,rfl,rfl⟩:=h;obtain rfl:=zx e0;obtain rfl:=zx e1;obtain rfl:=zok e2;have hfv0:=hob _ (yd (i:=0) rfl);generalize zm p=pp0 at*;subst hfv0;exact⟨z2c (M:=z1dq) rfl (z4p (l1:=[]) (l2:=[]) (l3:=[]) (l4:=[]) (l5:=[]) trivial trivial trivial trivial trivial) Tryz.func195 (by rfl) z1nm 0 [.d] (fun hwf=>(z2fd s1 s2 pp0 (z46 hwf (a:=.d (.v (.dat (U:=Un) Ty.val s1))) (yd (i:=0) rfl)) (z46 hwf (a:=.d (.v (.dat (U:=Un) Ty.val s2))) (yd (i:=1) rfl)))),zk Tryz.func195 (by rfl) (by rfl)⟩
 grind
def z10y:Mc Un:=mcF_ [(195,z231)] [(147,z2e)] [] [] []
def zx0(a:List Val)(b:List Val):Option (RF Un):=fnF_ z10y z266 Tryz.f149 0 [.d] [.d (.v (.dat (U:=Un) Ty.val a)),.d (.v (.dat (U:=Un) Ty.val b))]
theorem z1nn(a:List Val)(b:List Val):zx0 a b=obO (z2e=z1i (zm z2e)) (some (z2b (cmpR a b (zm z2e)))):=by kernel_rfl
theorem z1vz:∀a b:List Val,z13l ordV a b=ordR a b
 |[],[]=>rfl
 |[],_::_=>rfl
 |_::_,[]=>rfl
 |a::l,b::r=>by simp only[z13l,ordR,z1vz l r]
theorem z1cw(a b:List Val)(_ha:WL .val a)(_hb:WL .val b):zx0 a b=some (z2b (z7f a b)):=by
 have e:zm (z1i ordV)=ordV:=zf9 ordV;rw[z1nn,zva,e,z6 rfl];unfold cmpR z7f;rw[z1vz]
def z79:FnC Un:=fnF2 (dL .val) (dL .val) fun a b=>([],z2b (z7f a b))
theorem zmk:FnOK 149 z79:=fnK2 zx zx (M:=z10y) rfl ⟨z2l2,trivial⟩ ⟨zwz,trivial⟩ trivial trivial trivial Tryz.func149 fun a b=>GiF.r fun w _=>z1cw a b (wfA_ w 0) (wfA_ w 1)
end
end Go.Proofs.YtjfpbchdcbhfgaaGreat.B
namespace Go.Proofs.YtjfpbchdcbhfgaaGreat.B
open Go Go.RowKit
set_option maxRecDepth 100000
noncomputable section
attribute [local irreducible] awp ctxK zu z1a retQ z1m awf ctxF z1k
def z1no:Mc Un:=mcF_ [(211,zbm)] [] [] [] []
def z1fh(a:Int)(b:Int)(n:Int):Option (RF Un):=fnF_ z1no z266 Tryz.f233 0 [.d,.d] [.d (.v (.s (.int .i64 a))),.d (.v (.s (.int .i64 b))),.d (.v (.s (.int .i64 n)))]
theorem z27i(a:Int)(b:Int)(n:Int):z1fh a b n=cndO (!z1q a) (some (zlu ((0:Int),false))) (cndO (!z1q b) (some (zlu ((0:Int),false))) (cndO (!z1q n) (some (zlu ((0:Int),false))) (some (zlu (n,true))))):=by kernel_rfl
def z3m(a:Int)(b:Int)(n:Int):Int×Bool:=
  if(!z1q a)=true then
   ((0:Int),false)
  else
   if(!z1q b)=true then
    ((0:Int),false)
   else
    if(!z1q n)=true then
     ((0:Int),false)
    else
     (n,true)
theorem z27j(a:Int)(b:Int)(n:Int):z1fh a b n=some (zlu (z3m a b n)):=by grind[z27i,z3m,z8]
def zh0:FnC Un:=fnF3 (dI .i64) (dI .i64) (dI .i64) fun a b n=>([],zlu (z3m a b n))
theorem zib:FnOK 233 zh0:=fnK3 z1c z1c z1c (M:=z1no) rfl ⟨zb3,trivial⟩ trivial trivial trivial trivial Tryz.func233 fun a b n=>GiF.r fun _ _=>z27j a b n
def z1w0:Mc Un:=mcF_ [(211,zbm),(233,zh0)] [] [] [] []
def z1np(a:Int)(b:Int):Option (RF Un):=fnF_ z1w0 z266 Tryz.f202 0 [.d,.d] [.d (.v (.s (.int .i64 a))),.d (.v (.s (.int .i64 b)))]
theorem z2bi(a:Int)(b:Int):z1np a b=cndO (!z1q a) (some (zlu ((0:Int),false))) (cndO (!z1q b) (some (zlu ((0:Int),false))) (some (zlu ((z3m a b (IntKind.i64.wrap (a+b))).fst,(z3m a b (IntKind.i64.wrap (a+b))).snd)))):=by kernel_rfl
def z10z(a:Int)(b:Int):Int×Bool:=
  if(!z1q a)=true then
   ((0:Int),false)
  else
   if(!z1q b)=true then
    ((0:Int),false)
   else
    ((z3m a b (IntKind.i64.wrap (a+b))).fst,(z3m a b (IntKind.i64.wrap (a+b))).snd)
theorem z2bj(a:Int)(b:Int):z1np a b=some (zlu (z10z a b)):=by grind[z2bi,z10z,z8]
def z2ff:FnC Un:=fnF2 (dI .i64) (dI .i64) fun a b=>([],zlu (z10z a b))
theorem z2bk:FnOK 202 z2ff:=fnK2 z1c z1c (M:=z1w0) rfl ⟨zb3,zib,trivial⟩ trivial trivial trivial trivial Tryz.func202 fun a b=>GiF.r fun _ _=>z2bj a b
def z1nq(a:Int)(b:Int):Option (RF Un):=fnF_ z1w0 z266 Tryz.f201 0 [.d,.d] [.d (.v (.s (.int .i64 a))),.d (.v (.s (.int .i64 b)))]
theorem z2bl(a:Int)(b:Int):z1nq a b=cndO (!z1q a) (some (zlu ((0:Int),false))) (cndO (!z1q b) (some (zlu ((0:Int),false))) (some (zlu ((z3m a b (IntKind.i64.wrap (a- b))).fst,(z3m a b (IntKind.i64.wrap (a- b))).snd)))):=by kernel_rfl
def zh1(a:Int)(b:Int):Int×Bool:=
  if(!z1q a)=true then
   ((0:Int),false)
  else
   if(!z1q b)=true then
    ((0:Int),false)
   else
    ((z3m a b (IntKind.i64.wrap (a- b))).fst,(z3m a b (IntKind.i64.wrap (a- b))).snd)
theorem z2bm(a:Int)(b:Int):z1nq a b=some (zlu (zh1 a b)):=by grind[z2bl,zh1,z8]
def z1w2:FnC Un:=fnF2 (dI .i64) (dI .i64) fun a b=>([],zlu (zh1 a b))
theorem z1nr:FnOK 201 z1w2:=fnK2 z1c z1c (M:=z1w0) rfl ⟨zb3,zib,trivial⟩ trivial trivial trivial trivial Tryz.func201 fun a b=>GiF.r fun _ _=>z2bm a b
def z1w3:Mc Un:=mcF_ [(201,z1w2)] [] [] [] []
def z1ns(a:Int):Option (RF Un):=fnF_ z1w3 z266 Tryz.f159 0 [.d,.d] [.d (.v (.s (.int .i64 a)))]
theorem z2bn(a:Int):z1ns a=some (zlu ((zh1 (0:Int) a).fst,(zh1 (0:Int) a).snd)):=by kernel_rfl
def zcp(a:Int):Int×Bool:=
 ((zh1 (0:Int) a).fst,(zh1 (0:Int) a).snd)
theorem z2bo(a:Int):z1ns a=some (zlu (zcp a)):=by simp[z2bn,zcp,z8]
def z19h:FnC Un:=fnF1 (dI .i64) fun a=>([],zlu (zcp a))
theorem z1nt:FnOK 159 z19h:=fnK1 z1c (M:=z1w3) rfl ⟨z1nr,trivial⟩ trivial trivial trivial trivial Tryz.func159 fun a=>GiF.r fun _ _=>z2bo a
def z1nu(a:Int)(b:Int):Option (RF Un):=fnF_ z1w0 z266 Tryz.f203 0 [.d,.d] [.d (.v (.s (.int .i64 a))),.d (.v (.s (.int .i64 b)))]
theorem z2bp(a:Int)(b:Int):z1nu a b=cndO (!z1q a) (some (zlu ((0:Int),false))) (cndO (!z1q b) (some (zlu ((0:Int),false))) (cndO (a==0) (some (zlu ((0:Int),true))) (cndO (b==0) (some (zlu ((0:Int),true))) (obO (¬List.foldl (fun a b=>if a<b then b else a) b [IntKind.i64.wrap ((0:Int)- b)]=0) (cndO (decide (List.foldl (fun a b=>if a<b then b else a) a [IntKind.i64.wrap ((0:Int)- a)]>IntKind.i64.wrap (Int.tdiv (1000000000000000:Int) (List.foldl (fun a b=>if a<b then b else a) b [IntKind.i64.wrap ((0:Int)- b)])))) (some (zlu ((0:Int),false))) (some (zlu ((z3m a b (IntKind.i64.wrap (a*b))).fst,(z3m a b (IntKind.i64.wrap (a*b))).snd)))))))):=by kernel_rfl
def mxI(a:Int):Int:=List.foldl (fun a b=>if a<b then b else a) a [IntKind.i64.wrap ((0:Int)- a)]
def z110(a b:Int):Int×Bool:=
 if z1q a=true then(if z1q b=true then(if a=0 then(0,true)else if b=0 then(0,true)else if mxI a>IntKind.i64.wrap (Int.tdiv 1000000000000000 (mxI b))then(0,false)else z3m a b (IntKind.i64.wrap (a*b)))else(0,false))else(0,false)
theorem z2l3(n:Int):inN n=true↔-1000000000000000≤n∧n≤1000000000000000:=by unfold inN;simp
theorem z232(a b:Int)(_ha:WI a)(_hb:WI b):z1nu a b=some (zlu (z110 a b)):=by
 rw[z2bp];unfold z110;simp only[z8,y1y,beq_iff_eq,decide_eq_true_eq];by_cases h1:z1q a=true
 ·by_cases h2:z1q b=true
  ·rw[if_neg (by grind),if_neg (by grind),if_pos h1,if_pos h2];by_cases h3:a=0
   ·grind
   ·by_cases h4:b=0
    ·grind
    ·have hb:=h2;rw[zyi,z2l3]at hb;have hm:mxI b≠0:=by
      unfold mxI;simp;rw[z1p (by omega)];split<;>omega
     rw[if_neg h3,if_neg h4,if_neg h3,if_neg h4];refine(z6 hm).trans ?_;show(if mxI a>IntKind.i64.wrap (Int.tdiv 1000000000000000 (mxI b))then _ else _)=_;grind
  grind
 grind
def z2fj:FnC Un:=fnF2 (dI .i64) (dI .i64) fun a b=>([],zlu (z110 a b))
theorem z2bq:FnOK 203 z2fj:=fnK2 z1c z1c (M:=z1w0) rfl ⟨zb3,zib,trivial⟩ trivial trivial trivial trivial Tryz.func203 fun a b=>GiF.r fun w _=>z232 a b (wfA_ w 0) (wfA_ w 1)
def z1nv(a:Int)(b:Int):Option (RF Un):=fnF_ z1w0 z266 Tryz.f204 0 [.d,.d] [.d (.v (.s (.int .i64 a))),.d (.v (.s (.int .i64 b)))]
theorem z2br(a:Int)(b:Int):z1nv a b=cndO (!z1q a) (some (zlu ((0:Int),false))) (cndO (!z1q b) (some (zlu ((0:Int),false))) (cndO (b==0) (some (zlu ((0:Int),false))) (obO (¬b=0) (some (zlu ((z3m a b (IntKind.i64.wrap (a.tdiv b))).fst,(z3m a b (IntKind.i64.wrap (a.tdiv b))).snd)))))):=by kernel_rfl
def z111(a b:Int):Int×Bool:=
 if z1q a=true then(if z1q b=true then(if b=0 then(0,false)else z3m a b (IntKind.i64.wrap (a.tdiv b)))else(0,false))else(0,false)
theorem z233(a b:Int)(_ha:WI a)(_hb:WI b):z1nv a b=some (zlu (z111 a b)):=by
 rw[z2br];unfold z111;simp only[z8,y1y,beq_iff_eq];by_cases h1:z1q a=true
 ·by_cases h2:z1q b=true
  ·by_cases h3:b=0
   all_goals simp_all[if_neg,if_pos,z6]
  grind
 grind
def z2fl:FnC Un:=fnF2 (dI .i64) (dI .i64) fun a b=>([],zlu (z111 a b))
theorem z2bs:FnOK 204 z2fl:=fnK2 z1c z1c (M:=z1w0) rfl ⟨zb3,zib,trivial⟩ trivial trivial trivial trivial Tryz.func204 fun a b=>GiF.r fun w _=>z233 a b (wfA_ w 0) (wfA_ w 1)
def z1nw(a:Int)(b:Int):Option (RF Un):=fnF_ z1w0 z266 Tryz.f205 0 [.d,.d] [.d (.v (.s (.int .i64 a))),.d (.v (.s (.int .i64 b)))]
theorem z2bt(a:Int)(b:Int):z1nw a b=cndO (!z1q a) (some (zlu ((0:Int),false))) (cndO (!z1q b) (some (zlu ((0:Int),false))) (cndO (b==0) (some (zlu ((0:Int),false))) (obO (¬b=0) (some (zlu ((z3m a b (a.tmod b)).fst,(z3m a b (a.tmod b)).snd)))))):=by kernel_rfl
def z112(a b:Int):Int×Bool:=
 if z1q a=true then(if z1q b=true then(if b=0 then(0,false)else z3m a b (a.tmod b))else(0,false))else(0,false)
theorem z234(a b:Int)(_ha:WI a)(_hb:WI b):z1nw a b=some (zlu (z112 a b)):=by
 rw[z2bt];unfold z112;simp only[z8,y1y,beq_iff_eq];by_cases h1:z1q a=true
 ·by_cases h2:z1q b=true
  ·by_cases h3:b=0
   all_goals simp_all[if_neg,if_pos,z6]
  grind
 grind
def z2fn:FnC Un:=fnF2 (dI .i64) (dI .i64) fun a b=>([],zlu (z112 a b))
theorem z2bu:FnOK 205 z2fn:=fnK2 z1c z1c (M:=z1w0) rfl ⟨zb3,zib,trivial⟩ trivial trivial trivial trivial Tryz.func205 fun a b=>GiF.r fun w _=>z234 a b (wfA_ w 0) (wfA_ w 1)
end
end Go.Proofs.YtjfpbchdcbhfgaaGreat.B
namespace Go.Proofs.YtjfpbchdcbhfgaaGreat.B
open Go Go.RowKit
set_option maxRecDepth 100000
noncomputable section
attribute [local irreducible] awp ctxK zu z1a retQ z1m awf ctxF z1k
def z1w7(a:Int):Option (RF Un):=fnF_ z1dq z266 Tryz.f232 0 [.d] [.d (.v (.s (.int .i64 a)))]
theorem z2fo(a:Int):z1w7 a=cndO (a==0) (some (z91 (true))) (cndO (a==1) (some (z91 (true))) (some (z91 (a==2)))):=by kernel_rfl
def z19i(a:Int):Bool:=
  if(a==(0:Int))=true then
   (true)
  else
   if(a==(1:Int))=true then
    (true)
   else
    (a==(2:Int))
theorem z2fp(a:Int):z1w7 a=some (z91 (z19i a)):=by rw[z2fo];unfold z19i;simp only[z8];repeat(first|rfl|split)
def z236:FnC Un:=fnF1 (dI .i64) fun a=>([],z91 (z19i a))
theorem z2fq:FnOK 232 z236:=fnK1 z1c (M:=z1dq) rfl trivial trivial trivial trivial trivial Tryz.func232 fun a=>GiF.r fun _ _=>z2fp a
def z1w8:Mc Un:=mcF_ [(232,z236)] [] [] [] []
def z1nx(a:Int):Option (RF Un):=fnF_ z1w8 z266 Tryz.f198 0 [.d] [.d (.v (.s (.int .i64 a)))]
theorem z2bv(a:Int):z1nx a=cndO (z19i a) (some (z2b (a))) (some (z2b ((1:Int)))):=by kernel_rfl
def z61(a:Int):Int:=
  if(z19i a)=true then
   (a)
  else
   ((1:Int))
theorem z2bw(a:Int):z1nx a=some (z2b (z61 a)):=by rw[z2bv];unfold z61;simp only[z8];repeat(first|rfl|split)
def zg1:FnC Un:=fnF1 (dI .i64) fun a=>([],z2b (z61 a))
theorem zt7:FnOK 198 zg1:=fnK1 z1c (M:=z1w8) rfl ⟨z2fq,trivial⟩ trivial trivial trivial trivial Tryz.func198 fun a=>GiF.r fun _ _=>z2bw a
def z1w9(b:Bool):Option (RF Un):=fnF_ z1dq z266 Tryz.f154 0 [.d] [.d (.v (cb b))]
theorem z2fs(b:Bool):z1w9 b=cndO (b) (some (z2b ((2:Int)))) (some (z2b ((0:Int)))):=by kernel_rfl
def zqx(b:Bool):Int:=
  if(b)=true then
   ((2:Int))
  else
   ((0:Int))
theorem z2ft(b:Bool):z1w9 b=some (z2b (zqx b)):=by rw[z2fs];unfold zqx;simp only[z8];repeat(first|rfl|split)
def z1ir:FnC Un:=fnF1 dB fun b=>([],z2b (zqx b))
theorem z1wa:FnOK 154 z1ir:=fnK1 z1kw (M:=z1dq) rfl trivial trivial trivial trivial trivial Tryz.func154 fun b=>GiF.r fun _ _=>z2ft b
def z1wb:Mc Un:=mcF_ [(198,zg1)] [] [] [] []
def z1ny(a:Int):Option (RF Un):=fnF_ z1wb z266 Tryz.f160 0 [.d] [.d (.v (.s (.int .i64 a)))]
theorem z2bx(a:Int):z1ny a=some (z2b (IntKind.i64.wrap ((2:Int)- z61 a))):=by kernel_rfl
def z113(a:Int):Int:=
 (IntKind.i64.wrap ((2:Int)- z61 a))
theorem z2by(a:Int):z1ny a=some (z2b (z113 a)):=by rw[z2bx];unfold z113;simp only[z8];repeat(first|rfl|split)
def z1wc:FnC Un:=fnF1 (dI .i64) fun a=>([],z2b (z113 a))
theorem z2bz:FnOK 160 z1wc:=fnK1 z1c (M:=z1wb) rfl ⟨zt7,trivial⟩ trivial trivial trivial trivial Tryz.func160 fun a=>GiF.r fun _ _=>z2by a
def z1nz(a:Int)(b:Int):Option (RF Un):=fnF_ z1wb z266 Tryz.f166 0 [.d] [.d (.v (.s (.int .i64 a))),.d (.v (.s (.int .i64 b)))]
theorem z2c0(a:Int)(b:Int):z1nz a b=some (z19f (List.foldl (fun a b=>if b<a then b else a) (z61 a) [z61 b])):=by kernel_rfl
def zki(a:Int)(b:Int):Int:=
 (List.foldl (fun a b=>if b<a then b else a) (z61 a) [z61 b])
theorem z2c1(a:Int)(b:Int):z1nz a b=some (z19f (zki a b)):=by rw[z2c0];unfold zki;simp only[z8];repeat(first|rfl|split)
def zx2:FnC Un:=fun args=>match args with
 |[x0,x1]=>(dI .i64 x0).bind fun a=>(dI .i64 x1).bind fun b=>some ([],zag (zki a b),zah (zki a b))
 |_=>none
theorem z2c2:FnOK 166 zx2:=by
 intro args ob rs os h hob;unfold zx2 at h;split at h
 ·simp only[y6,y8,yl]at h;obtain⟨a,e0,b,e1,rfl,rfl,rfl⟩:=h;obtain rfl:=z1c e0;obtain rfl:=z1c e1;exact⟨z2c (M:=z1wb) rfl (z4p (l1:=[(198,zg1)]) (l2:=[]) (l3:=[]) (l4:=[]) (l5:=[]) ⟨zt7,trivial⟩ trivial trivial trivial trivial) Tryz.func166 (by kernel_rfl) z266 0 [.d] (fun hwf=>(z2c1 a b)),zk Tryz.func166 (by kernel_rfl) (by kernel_rfl)⟩
 ·simp at h
def z1wi(a:Int)(b:Int):Option (RF Un):=fnF_ z1wb z266 Tryz.f153 0 [.d] [.d (.v (.s (.int .i64 a))),.d (.v (.s (.int .i64 b)))]
theorem z2fv(a:Int)(b:Int):z1wi a b=some (z19f (List.foldl (fun a b=>if a<b then b else a) (z61 a) [z61 b])):=by kernel_rfl
def z8s(a:Int)(b:Int):Int:=
 (List.foldl (fun a b=>if a<b then b else a) (z61 a) [z61 b])
theorem z2fw(a:Int)(b:Int):z1wi a b=some (z19f (z8s a b)):=by rw[z2fv];unfold z8s;simp only[z8];repeat(first|rfl|split)
def znx:FnC Un:=fun args=>match args with
 |[x0,x1]=>(dI .i64 x0).bind fun a=>(dI .i64 x1).bind fun b=>some ([],zag (z8s a b),zah (z8s a b))
 |_=>none
theorem z19k:FnOK 153 znx:=by
 intro args ob rs os h hob;unfold znx at h;split at h
 ·simp only[y6,y8,yl]at h;obtain⟨a,e0,b,e1,rfl,rfl,rfl⟩:=h;obtain rfl:=z1c e0;obtain rfl:=z1c e1;exact⟨z2c (M:=z1wb) rfl (z4p (l1:=[(198,zg1)]) (l2:=[]) (l3:=[]) (l4:=[]) (l5:=[]) ⟨zt7,trivial⟩ trivial trivial trivial trivial) Tryz.func153 (by kernel_rfl) z266 0 [.d] (fun hwf=>(z2fw a b)),zk Tryz.func153 (by kernel_rfl) (by kernel_rfl)⟩
 ·simp at h
def z70:FV Un:=z1j (fun a b=>zki a b)
theorem z27k:FvOK 166 z70:=by
 refine⟨zk Tryz.func166 (by kernel_rfl) (by kernel_rfl),fun args ob rs h hob=>?_⟩;unfold z70 z1j at h;split at h
 ·simp only[y6,y8,yl]at h;obtain⟨a,e0,b,e1,rfl,rfl⟩:=h;simp only[yw,y1n];rw[z1c e0];rw[z1c e1];refine Contract.data (z2c2 _ ([]) _ _ (?_:zx2 _=some _) (by simp)).1;unfold zx2;simp only[z1zw];rfl
 ·simp at h
def zdh:FV Un:=z1j (fun a b=>z8s a b)
theorem z2c3:FvOK 153 zdh:=by
 refine⟨zk Tryz.func153 (by kernel_rfl) (by kernel_rfl),fun args ob rs h hob=>?_⟩;unfold zdh z1j at h;split at h
 ·simp only[y6,y8,yl]at h;obtain⟨a,e0,b,e1,rfl,rfl⟩:=h;simp only[yw,y1n];rw[z1c e0];rw[z1c e1];refine Contract.data (z19k _ ([]) _ _ (?_:znx _=some _) (by simp)).1;unfold znx;simp only[z1zw];rfl
 ·simp at h
def z19l(a:Int):Option (RF Un):=fnF_ z1wb z266 Tryz.f155 0 [.d] [.d (.v (.s (.int .i64 a)))]
theorem z23d(a:Int):z19l a=cndO (z61 a==0) (some (zyh ({kind:=(1:Int),n:=(0:Int),s:=(ByteArray.mk #[])}))) (cndO (z61 a==2) (some (zyh ({kind:=(1:Int),n:=(1:Int),s:=(ByteArray.mk #[])}))) (some (zyh (z7)))):=by kernel_rfl
def z62(a:Int):Val:=
  if(z61 a==(0:Int))=true then
   ({kind:=(1:Int),n:=(0:Int),s:=(ByteArray.mk #[])})
  else
   if(z61 a==(2:Int))=true then
    ({kind:=(1:Int),n:=(1:Int),s:=(ByteArray.mk #[])})
   else
    (z7)
theorem z23e(a:Int):z19l a=some (zyh (z62 a)):=by rw[z23d];unfold z62;simp only[z8];repeat(first|rfl|split)
def zeo:FnC Un:=fnF1 (dI .i64) fun a=>([],zyh (z62 a))
theorem zml:FnOK 155 zeo:=fnK1 z1c (M:=z1wb) rfl ⟨zt7,trivial⟩ trivial trivial trivial trivial Tryz.func155 fun a=>GiF.r fun _ _=>z23e a
def z1o0:Mc Un:=mcF_ [(154,z1ir)] [] [] [] []
def z1fj(v:Val):Option (RF Un):=fnF_ z1o0 z266 Tryz.f161 0 [.d] [.d (.agg (enc Ty.val v))]
theorem z27m(v:Val):z1fj v=cndO (v.kind !=1) (some (z2b ((1:Int)))) (some (z2b (zqx (v.n !=0)))):=by kernel_rfl
def z3z(v:Val):Int:=
  if(v.kind !=(1:Int))=true then
   ((1:Int))
  else
   (zqx (v.n !=(0:Int)))
theorem z27n(v:Val):z1fj v=some (z2b (z3z v)):=by rw[z27m];unfold z3z;simp only[z8];repeat(first|rfl|split)
def zdi:FnC Un:=fnF1 (dS .val) fun v=>([],z2b (z3z v))
theorem zid:FnOK 161 zdi:=fnK1 zr (M:=z1o0) rfl ⟨z1wa,trivial⟩ trivial trivial trivial trivial Tryz.func161 fun v=>GiF.r fun _ _=>z27n v
def zx3:Mc Un:=mcF_ [(153,znx)] [] [] [] []
def z19n:Nat→NS:=nsF_ [(3,{ts:=bl 17 456,bs:=bl 17 0,nm:=[]})] false
def zh2(l:List Int)(v0:Int)(v1:Int):S Un:=(st 17 17 68 0 [(3,ai v0),(6,al .int l),(7,ai (↑l.length:Int)),(8,ai v1)] [] [])
def zt9:S Un→Option (EX Un):=lpF_ zx3 z19n Tryz.f208 [1,1,0,1,2,2] 3
def z1o1:Exit→S Un→Option (RF Un):=cxF_ zx3 z19n Tryz.f208 [1,1,0,1,2] [.d]
def z1o2(l:List Int):Option (RF Un):=fnF_ zx3 z19n Tryz.f208 0 [.d] [.d (.v (.dat (U:=Un) Ty.int l))]
theorem z2c5(l:List Int):z1o2 l=(zt9 (zh2 l (0:Int) (0:Int))).bind (zd z1o1):=by kernel_rfl
theorem z1o3(l:List Int)(v0:Int)(v1:Int):zt9 (zh2 l v0 v1)=cndO (decide (v1<(↑l.length:Int))) (obO (0≤v1∧v1<(↑l.length:Int)) (zt9 (zh2 l (z8s v0 (l.getD v1.toNat (0:Int))) (IntKind.i64.wrap (v1+1))))) (some (.exit 0,(zh2 l v0 v1))):=lpQ_ (by kernel_rfl)
theorem z1yp(l:List Int)(v0:Int)(v1:Int):z1o1 (.exit 0) (zh2 l v0 v1)=some (z2b (v0)):=by kernel_rfl
def z1c5(l:List Int):Int:=l.foldl (fun m a=>z8s m a) 0
theorem z23f(l:List Int)(hl:WL .int l):z1o2 l=some (z2b (z1c5 l)):=by
 obtain⟨lp,_⟩:=z1n (e:=.exit 0) (L:=zt9) (st:=fun(m:Int) i=>zh2 l m i) (l:=l) (d:=0) (g:=fun m a=>z8s m a) (fun _ _=>True) hl.len
  (fun m i x hi hx _=>by
   refine⟨trivial,?_⟩;rw[z1o3];simp only[z8,hi,decide_true,if_true,and_true,y5,hx]
   rw[z6 (by omega)])
  (fun m _=>by rw[z1o3];simp[z8]) 0 trivial
 rw[z2c5,zg lp,z1yp];rfl
def z1wj:FnC Un:=fnF1 (dL .int) fun l=>([],z2b (z1c5 l))
theorem z2c6:FnOK 208 z1wj:=fnK1 zx (M:=zx3) rfl ⟨z19k,trivial⟩ trivial trivial trivial trivial Tryz.func208 fun l=>GiF.r fun w _=>z23f l (wfA_ w 0)
end
end Go.Proofs.YtjfpbchdcbhfgaaGreat.B
namespace Go.Proofs.YtjfpbchdcbhfgaaGreat.B
open Go Go.RowKit
set_option maxRecDepth 100000
noncomputable section
attribute [local irreducible] awp ctxK zu z1a retQ z1m awf ctxF z1k
noncomputable def deq{α:Type}(a b:α):Bool:=@decide (a=b) (Classical.propDecidable _)
theorem deq_iff{α:Type}{a b:α}:deq a b=true↔a=b:=by unfold deq;exact@decide_eq_true_iff _ (Classical.propDecidable _)
theorem z1o4{α:Type}{a b:α}{x:Bool}(h:x=true↔a=b):x=deq a b:=by
 rw[y26,h,deq_iff]
theorem z2il{α β:Type}{L:S Un→Option (EX Un)}{st:Int→S Un}{C:Exit→S Un→Option β}(R:Bool→Option β){a b:List α}{d:α}{e:Exit}(hl:a.length≤9223372036854775807)
  (step:∀i:Nat,i<a.length→i<b.length→L (st i)=if deq (a.getD i d) (b.getD i d)=true then L (st (IntKind.i64.wrap ((i:Int)+1)))else some (.ret,st i))
  (stop:∀i:Nat,¬(i<a.length∧i<b.length)→L (st i)=some (e,st i))(cr:∀i:Nat,C .ret (st i)=R false)(ce:∀i:Nat,C e (st i)=R ((a.length:Int)==(b.length:Int))):(L (st (0:Int))).bind (zd C)=R (deq a b):=by
 have key:∀(k i:Nat),i+k=a.length→i≤b.length→(L (st i)).bind (zd C)=R (deq (a.drop i) (b.drop i)):=by
  intro k
  induction k with
  |zero=>
   intro i hi hb;obtain rfl:i=a.length:=by omega
   rw[zg (stop _ (by omega)),ce];congr 1;refine z1o4 ?_;rw[y3o,beq_iff_eq];constructor
   ·intro h;rw[y4s (by omega)]
   ·intro h;have:=congrArg List.length h;rw[yq,y1v]at this;omega
  |succ k ih=>
   intro i hi hb;have h1:i<a.length:=by omega
   by_cases h2:i<b.length
   ·have ga:a.getD i d=a[i]:=by rw[ye,y9 h1];rfl
    have gb:b.getD i d=b[i]:=by rw[ye,y9 h2];rfl
    have hs:=step i h1 h2;rw[ga,gb]at hs;rw[y1m h1,y1m h2];by_cases hq:deq a[i] b[i]=true
    ·rw[if_pos hq,z3e h1 hl]at hs;rw[hs,ih (i+1) (by omega) (by omega)];rw[deq_iff]at hq;congr 1;refine z1o4 ?_;rw[deq_iff,hq];exact⟨fun h=>by rw[h],fun h=>(y3k h).2⟩
    ·rw[if_neg hq]at hs;rw[zg hs,cr];congr 1;refine z1o4 ?_;rw[deq_iff]at hq;exact⟨fun h=>absurd h (by decide),fun h=>absurd (y3k h).1 hq⟩
   ·rw[zg (stop _ (by omega)),ce];congr 1;refine z1o4 ?_;rw[beq_iff_eq];constructor
    ·intro h;omega
    ·intro h;have:=congrArg List.length h;rw[yq,yq]at this;omega
 exact key a.length 0 (by omega) (by omega)
theorem z29c(x y:List Val):(z7f x y !=0)=!deq x y:=by
 rw[y26,bne_iff_ne,y1y,←Bool.not_eq_true,deq_iff,z1xn,ne_eq,ordR_zero]
end
end Go.Proofs.YtjfpbchdcbhfgaaGreat.B
namespace Go.Proofs
open Go.Shelf
def Tryz.lays106_ren:Go.Shelf.Ren:=⟨fun|106=>194|213=>229|265=>245|n=>n,fun|9=>9|3=>3|n=>n,fun|n=>n⟩
theorem Tryz.lays106:Go.Proofs.Lays.n106 Tryz.prog Tryz.lays106_ren:={
  mixed:=by kernel_rfl
  f106:=Tryz.func194.trans (congrArg some (by kernel_rfl))
  f213:=Tryz.func229.trans (congrArg some (by kernel_rfl))
  f265:=Tryz.func245.trans (congrArg some (by kernel_rfl))
  t3:=Tryz.underlying3
  a3:=Tryz.isAgg3
  z3:=Tryz.sizeOf3
  v3:=Tryz.zeroValue3
  t9:=Tryz.underlying9
  a9:=Tryz.isAgg9
  z9:=Tryz.sizeOf9
  v9:=Tryz.zeroValue9}
open Go.RowKit in
theorem Tryz.strings_Compare(a b:ByteArray)(w:World):
  Calls Tryz.prog 194 #[.string a,.string b] w fun e w'=>e=.returned (.int .i64 (Lib.compareBytes a.data.toList b.data.toList))∧w'=w:=Any.strings_Compare Tryz.lays106 a b w
def Tryz.lays137_ren:Go.Shelf.Ren:=⟨fun|137=>235|217=>246|266=>251|n=>n,fun|9=>9|5=>5|3=>3|n=>n,fun|n=>n⟩
theorem Tryz.lays137:Go.Proofs.Lays.n137 Tryz.prog Tryz.lays137_ren:={
  mixed:=by kernel_rfl
  f137:=Tryz.func235.trans (congrArg some (by kernel_rfl))
  f217:=Tryz.func246.trans (congrArg some (by kernel_rfl))
  f266:=Tryz.func251.trans (congrArg some (by kernel_rfl))
  t3:=Tryz.underlying3
  a3:=Tryz.isAgg3
  z3:=Tryz.sizeOf3
  v3:=Tryz.zeroValue3
  t5:=Tryz.underlying5
  a5:=Tryz.isAgg5
  z5:=Tryz.sizeOf5
  v5:=Tryz.zeroValue5
  t9:=Tryz.underlying9
  a9:=Tryz.isAgg9
  z9:=Tryz.sizeOf9
  v9:=Tryz.zeroValue9}
open Go.RowKit in
theorem Tryz.strings_IndexByte(s:ByteArray)(c:Int)(w:World):
  Calls Tryz.prog 235 #[.string s,.int .u8 c] w fun e w'=>e=.returned (.int .i64 (Lib.indexByte s.data.toList c.toNat.toUInt8))∧w'=w:=Any.strings_IndexByte Tryz.lays137 s c w
def Tryz.laysGw15_ren:Go.Shelf.Ren:=⟨fun|15=>247|20=>252|n=>n,fun|9=>9|23=>221|3=>3|4=>4|0=>0|21=>21|n=>n,fun|n=>n⟩
theorem Tryz.laysGw15:Go.Proofs.LaysGw.n15 Tryz.prog Tryz.laysGw15_ren:={
  mixed:=by kernel_rfl
  f15:=Tryz.func247.trans (congrArg some (by kernel_rfl))
  f20:=Tryz.func252.trans (congrArg some (by kernel_rfl))
  t0:=Tryz.underlying0
  a0:=Tryz.isAgg0
  z0:=Tryz.sizeOf0
  v0:=Tryz.zeroValue0
  i0:=by kernel_rfl
  t3:=Tryz.underlying3
  a3:=Tryz.isAgg3
  z3:=Tryz.sizeOf3
  v3:=Tryz.zeroValue3
  i3:=by kernel_rfl
  t4:=Tryz.underlying4
  a4:=Tryz.isAgg4
  z4:=Tryz.sizeOf4
  v4:=Tryz.zeroValue4
  i4:=by kernel_rfl
  t9:=Tryz.underlying9
  a9:=Tryz.isAgg9
  z9:=Tryz.sizeOf9
  v9:=Tryz.zeroValue9
  i9:=by kernel_rfl
  t21:=Tryz.underlying21
  a21:=Tryz.isAgg21
  z21:=Tryz.sizeOf21
  v21:=Tryz.zeroValue21
  i21:=by kernel_rfl
  t23:=Tryz.underlying221
  a23:=Tryz.isAgg221
  z23:=Tryz.sizeOf221
  v23:=Tryz.zeroValue221
  i23:=by kernel_rfl}
open Go.RowKit Go.Lib in
theorem Tryz.strings_IndexFunc(g:Nat)(lb:Array Value)(eg:∀args w,(callFunc g args).run Tryz.prog w=.ok (.enter g args) w)(p:Nat→Bool)(s:ByteArray)(w:World)(hp:PredAt Tryz.prog g lb encR p w):
  Calls Tryz.prog 247 #[.string s,.func (.func g) #[] lb] w fun e w'=>e=.returned (.int .i64 (Lib.idxFunc p true s))∧Below w.heap.size w w':=Any.strings_IndexFunc Tryz.laysGw15 g lb eg p s w hp
def Tryz.lays107_ren:Go.Shelf.Ren:=⟨fun|107=>206|108=>234|n=>n,fun|28=>42|3=>3|4=>4|0=>0|n=>n,fun|n=>n⟩
theorem Tryz.lays107:Go.Proofs.Lays.n107 Tryz.prog Tryz.lays107_ren:={
  mixed:=by kernel_rfl
  f107:=Tryz.func206.trans (congrArg some (by kernel_rfl))
  f108:=Tryz.func234.trans (congrArg some (by kernel_rfl))
  t0:=Tryz.underlying0
  a0:=Tryz.isAgg0
  z0:=Tryz.sizeOf0
  v0:=Tryz.zeroValue0
  t3:=Tryz.underlying3
  a3:=Tryz.isAgg3
  z3:=Tryz.sizeOf3
  v3:=Tryz.zeroValue3
  t4:=Tryz.underlying4
  a4:=Tryz.isAgg4
  z4:=Tryz.sizeOf4
  v4:=Tryz.zeroValue4
  t28:=Tryz.underlying42
  a28:=Tryz.isAgg42
  z28:=Tryz.sizeOf42
  v28:=Tryz.zeroValue42}
open Go.Lib in
theorem Tryz.slices_Contains_int(b off n c:Nat)(zs:List Int)(x:Int)(w:World)(hz:n≤zs.length)(hbig:n≤9223372036854775807)(hc:∀j,j<zs.length→w.cell? ⟨b,off+j,none⟩=some (.int .i64 (zs.getD j 0))):
  Calls Tryz.prog 206 #[.slice (some ⟨b,off,none⟩) n c,.int .i64 x] w fun e w'=>e=.returned (.bool ((zs.take n).contains x))∧w'=w:=Any.slices_Contains_int Tryz.lays107 b off n c zs x w hz hbig hc
end Go.Proofs
namespace Go.Proofs.YtjfpbchdcbhfgaaGreat.B
open Go Go.RowKit
set_option maxRecDepth 1000000
def idxB(s:ByteArray)(c:Int):Int:=Lib.indexByte s.data.toList c.toNat.toUInt8
theorem z19o:∀(l:List UInt8)(c:UInt8),Lib.indexByte l c≤l.length
 |[],_=>by simp[Lib.indexByte]
 |b::l,c=>by
  have:=z19o l c;unfold Lib.indexByte;rw[yr]
  repeat' split
  all_goals omega
theorem z2c7(s:ByteArray)(c:Int): -1≤idxB s c∧idxB s c≤s.size:=by
 unfold idxB;have h1:=Lib.indexByte_ge s.data.toList c.toNat.toUInt8;have h2:=z19o s.data.toList c.toNat.toUInt8;rw[y1l]at h2;exact⟨h1,h2⟩
def zeu:FnC Un:=fun args=>match args with
 |[x0,x1]=>(dStr x0).bind fun s=>(dI .u8 x1).bind fun c=>some ([],[.c (.s (.int .i64 (idxB s c)))],[])
 |_=>none
theorem z13n:FnOK 235 zeu:=by
 intro args ob rs os h hob;unfold zeu at h;split at h
 ·rename_i x0 x1;simp only[y6,y8,yl]at h;obtain⟨s,e0,c,e1,rfl,rfl,rfl⟩:=h;obtain rfl:=z3y e0;obtain rfl:=z1c e1;refine⟨?_,zk Tryz.func235 (by kernel_rfl) (by kernel_rfl)⟩;have hx:=z2c7 s c;by_cases hr:s.size≤9223372036854775807
  ·refine zww (oneC_i64.2 (by omega)) fun w vs St hvs=>?_
   match vs,hvs with
   |[v0,v1],⟨h0,h1,_⟩=>
    obtain⟨rfl,-⟩:=zv6 h0;obtain⟨rfl,-⟩:=zv7 h1;exact Tryz.strings_IndexByte s c w
  ·intro w St vs hbd hvs hld
   match vs,hvs with
   |[v0,v1],⟨h0,h1,_⟩=>
    obtain⟨rfl,g0⟩:=zv6 h0;exact absurd g0 hr
 ·simp at h
end Go.Proofs.YtjfpbchdcbhfgaaGreat.B
namespace Go.Proofs.YtjfpbchdcbhfgaaGreat.B
open Go Go.RowKit
set_option maxRecDepth 100000
noncomputable section
attribute [local irreducible] awp ctxK zu z1a retQ z1m awf ctxF z1k
def zmm:Mc Un:=mcF_ [(235,zeu)] [] [] [] []
def zvc(r:List Sign):RF Un:=([.c (.ob 0 0)],[⟨0,Ty.sign,r,none,true⟩])
def zvd:Nat→NS:=nsF_ [(3,{ts:=bl 66 25,bs:=bl 66 0,nm:=[(.sl 3,264)]})] false
def z2h(p:ByteArray)(v0:Int)(v1:List Sign):S Un:=(st 66 66 265 0 [(0,at_ p),(3,ao 264),(4,ai v0)] [] [(264,some ⟨(0:Nat),Ty.sign,v1,some (0:Nat),true⟩)])
def z5r:S Un→Option (EX Un):=lpF_ zmm zvd Tryz.f207 [1,1,0,1,2,2] 3
def z15a:Exit→S Un→Option (RF Un):=cxF_ zmm zvd Tryz.f207 [1,1,0,1,2] [.o]
def z15b(p:ByteArray):Option (RF Un):=fnF_ zmm zvd Tryz.f207 1 [.o] [.d (.v (cs p))]
theorem z1yq(p:ByteArray):z15b p=(z5r (z2h p (0:Int) ([]))).bind (zd z15a):=by kernel_rfl
def ze4(p:ByteArray)(v0:Int)(v1:List Sign):Option (EX Un):=obO (0≤v0∧v0<(↑p.size:Int)) (obO ((v1.length+([{kind:=(0:Int),b:=(↑(p.toList.getD v0.toNat 0).toNat:Int)}]:List Sign).length)*(16:Nat)≤zh) (z5r (z2h p (IntKind.i64.wrap (v0+1)) (v1++[{kind:=(0:Int),b:=(↑(p.toList.getD v0.toNat 0).toNat:Int)}]))))
theorem z15c(p:ByteArray)(v0:Int)(v1:List Sign):z5r (z2h p v0 v1)=cndO (decide (v0<(↑p.size:Int))) (obO (0≤v0∧v0<(↑p.size:Int)) (cndO ((↑(p.toList.getD v0.toNat 0).toNat:Int)==(37:Int)) (obO ((v1.length+([{kind:=(2:Int),b:=(0:Int)}]:List Sign).length)*(16:Nat)≤zh) (z5r (z2h p (IntKind.i64.wrap (v0+1)) (v1++[{kind:=(2:Int),b:=(0:Int)}])))) (obO (0≤v0∧v0<(↑p.size:Int)) (cndO ((↑(p.toList.getD v0.toNat 0).toNat:Int)==(95:Int)) (obO ((v1.length+([{kind:=(1:Int),b:=(0:Int)}]:List Sign).length)*(16:Nat)≤zh) (z5r (z2h p (IntKind.i64.wrap (v0+1)) (v1++[{kind:=(1:Int),b:=(0:Int)}])))) (obO (0≤v0∧v0<(↑p.size:Int)) (cndO ((↑(p.toList.getD v0.toNat 0).toNat:Int)==(92:Int)) (cndO (decide (IntKind.i64.wrap (v0+1)<(↑p.size:Int))) (obO (0≤IntKind.i64.wrap (v0+1)∧IntKind.i64.wrap (v0+1)<(↑p.size:Int)) (cndO (decide (idxB (ByteArray.mk #[37,95,92]) (↑(p.toList.getD (IntKind.i64.wrap (v0+1)).toNat 0).toNat:Int)≥(0:Int))) (obO (0≤IntKind.i64.wrap (v0+1)∧IntKind.i64.wrap (v0+1)<(↑p.size:Int)) (obO ((v1.length+([{kind:=(0:Int),b:=(↑(p.toList.getD (IntKind.i64.wrap (v0+1)).toNat 0).toNat:Int)}]:List Sign).length)*(16:Nat)≤zh) (z5r (z2h p (IntKind.i64.wrap (IntKind.i64.wrap (v0+1)+1)) (v1++[{kind:=(0:Int),b:=(↑(p.toList.getD (IntKind.i64.wrap (v0+1)).toNat 0).toNat:Int)}]))))) (ze4 p v0 v1))) (ze4 p v0 v1)) (ze4 p v0 v1))))))) (some (.exit 0,(z2h p v0 v1))):=lpQ_ (by kernel_rfl)
theorem z1is(p:ByteArray)(v0:Int)(v1:List Sign):z15a (.exit 0) (z2h p v0 v1)=some (zvc (v1)):=by kernel_rfl
def escB(d:UInt8):Bool:=decide (idxB (ByteArray.mk #[37,95,92]) (d.toNat:Int)≥0)
def za5:List UInt8→List Sign
 |[]=>[]
 |[c]=>if(c.toNat:Int)=37 then[⟨2,0⟩]else if(c.toNat:Int)=95 then[⟨1,0⟩]else[⟨0,(c.toNat:Int)⟩]
 |c::d::r=>if(c.toNat:Int)=37 then⟨2,0⟩::za5 (d::r)else if(c.toNat:Int)=95 then⟨1,0⟩::za5 (d::r)else if(c.toNat:Int)=92∧escB d=true then⟨0,(d.toNat:Int)⟩::za5 r else⟨0,(c.toNat:Int)⟩::za5 (d::r)
def z1g(p:ByteArray):List Sign:=za5 p.toList
theorem z13o:∀(n:Nat)(l:List UInt8),l.length≤n→(za5 l).length≤l.length
 |_,[],_=>y7 _
 |_,[c],_=>by
  grind[za5]
 |n+1,c::d::r,h=>by
  simp at h;have h1:=z13o n (d::r) (by grind);have h2:=z13o n r (by omega);grind[List.length_cons,za5]
 |0,c::d::r,h=>by grind
theorem z2c8(p:ByteArray)(hp:p.size≤2000000):∀(n i:Nat)(o:List Sign),p.size- i≤n→i≤p.size→o.length≤i→z5r (z2h p (i:Int) o)=some (.exit 0,z2h p (p.size:Int) (o++za5 (p.toList.drop i))):=by
 intro n;have hsz:=z38 p
 induction n with
 |zero=>
  intro i o h1 h2 h3;have e:i=p.size:=by omega
  subst e;rw[z15c,z8,if_neg (by simp),y22 (by omega)];simp only[za5,y14]
 |succ n ih=>
  intro i o h1 h2 h3;rcases yi i p.size with hi|hi
  ·have hw:IntKind.i64.wrap ((i:Int)+1)=((i+1:Nat):Int):=by grind[z1p]
   have hg:(p.toList.getD i 0)=p.toList[i]'(by omega):=by grind
   have hd:p.toList.drop i=p.toList[i]'(by omega)::p.toList.drop (i+1):=y1m (by omega);have ih1:∀x:Sign,z5r (z2h p ((i+1:Nat):Int) (o++[x]))=some (.exit 0,z2h p (p.size:Int) (o++x::za5 (p.toList.drop (i+1)))):=by
    intro x;rw[ih (i+1) (o++[x]) (by omega) (by omega) (by grind),y11];rfl
   have e1:ze4 p (i:Int) o=some (.exit 0,z2h p (p.size:Int) (o++⟨0,((p.toList[i]'(by omega)).toNat:Int)⟩::za5 (p.toList.drop (i+1)))):=by
    unfold ze4;rw[z6 (by omega),z6 (by grind[zh,List.length_singleton]),y5,hg,hw,ih1]
   rw[z15c,e1];simp only[z8,decide_eq_true_eq,beq_iff_eq,y5,hg,hw];rw[if_pos (by omega),z6 (by omega),z6 (by grind[zh,List.length_singleton]),z6 (by omega),z6 (by grind[zh,List.length_singleton]),z6 (by omega),ih1,ih1,hd];generalize p.toList[i]'(by omega)=c;rcases yi (i+1) p.size with hj|hj
   ·have hg2:(p.toList.getD (i+1) 0)=p.toList[i+1]'(by omega):=by grind
    have hd2:p.toList.drop (i+1)=p.toList[i+1]'(by omega)::p.toList.drop (i+1+1):=y1m (by omega);have hw2:IntKind.i64.wrap (((i+1:Nat):Int)+1)=((i+1+1:Nat):Int):=by grind[z1p]
    have ih2:∀x:Sign,z5r (z2h p ((i+1+1:Nat):Int) (o++[x]))=some (.exit 0,z2h p (p.size:Int) (o++x::za5 (p.toList.drop (i+1+1)))):=by
     intro x;rw[ih (i+1+1) (o++[x]) (by omega) (by omega) (by grind),y11];rfl
    rw[if_pos (show((i+1:Nat):Int)<(p.size:Int) by omega),z6 (by omega),z6 (by omega),z6 (by grind[zh,List.length_singleton]),hg2,hw2,ih2,hd2];generalize p.toList[i+1]'(by omega)=d;simp only[za5];by_cases c1:(c.toNat:Int)=37
    ·grind
    ·by_cases c2:(c.toNat:Int)=95
     ·grind
     ·by_cases c3:(c.toNat:Int)=92
      ·by_cases c4:escB d=true
       ·have c4':idxB (ByteArray.mk #[37,95,92]) (d.toNat:Int)≥0:=by unfold escB at c4;grind
        grind
       ·have c4':¬idxB (ByteArray.mk #[37,95,92]) (d.toNat:Int)≥0:=fun e=>c4 (by grind[escB,decide_eq_true]);grind
      grind
   ·have hd2:p.toList.drop (i+1)=[]:=y22 (by omega);rw[if_neg (show¬((i+1:Nat):Int)<(p.size:Int) by omega),hd2];simp only[za5];by_cases c1:(c.toNat:Int)=37
    ·grind
    ·by_cases c2:(c.toNat:Int)=95
     all_goals simp_all
  grind
theorem z1o5(p:ByteArray)(_hp:WStr p)(h:p.size≤2000000):z15b p=some (zvc (z1g p)):=by
 have lp:=z2c8 p h p.size 0 [] (by omega) (by omega) (y7 _);rw[z1yq];refine(zg lp).trans ?_;rw[z1is];rfl
def z19p:FnC Un:=fnF1 dStr fun p=>([p.size≤2000000],zvc (z1g p))
theorem z1yr:FnOK 207 z19p:=fnK1 z3y (M:=zmm) rfl ⟨z13n,trivial⟩ trivial trivial trivial trivial Tryz.func207 fun p=>GiF.r fun w o=>z1o5 p (wfA_ w 0) (obA_ o 0)
def zcq:Mc Un:=mcF_ [(207,z19p)] [] [] [] []
def zg2:Nat→NS:=nsF_ [(4,{ts:=bl 87 1009,bs:=bl 87 0,nm:=[(.sl 5,348)]}),(15,{ts:=bl 87 160,bs:=bl 87 0,nm:=[(.sl 5,349)]})] false
def z2a(s:ByteArray)(p:ByteArray)(v0:Int)(v1:Int)(v2:Int)(v3:Int):S Un:=(st 87 87 350 0 [(0,at_ s),(4,ab false),(5,ao 348),(6,ai v2),(7,ai v0),(8,ai v1),(9,ai v3)] [] [(348,some ⟨(0:Nat),Ty.sign,z1g p,none,true⟩)])
def z2p(p:ByteArray)(v0:Int):S Un:=(st 87 87 350 0 [(5,ao 349),(7,ai v0)] [] [(349,some ⟨(0:Nat),Ty.sign,z1g p,none,true⟩)])
def z51:S Un→Option (EX Un):=lpF_ zcq zg2 Tryz.f167 [1,1,1,1,0,2,2] 4
def z63:S Un→Option (EX Un):=lpF_ zcq zg2 Tryz.f167 [1,1,1,1,1,0,2,2] 15
def z8j:Exit→S Un→Option (RF Un):=cxF_ zcq zg2 Tryz.f167 [1,1,1,1,0,2] [.d]
def zny:Exit→S Un→Option (RF Un):=cxF_ zcq zg2 Tryz.f167 [1,1,1,1,1,0,2] [.d]
def zj9(s:ByteArray)(p:ByteArray):Option (RF Un):=fnF_ zcq zg2 Tryz.f167 2 [.d] [.d (.v (cs s)),.d (.v (cs p))]
theorem z1ys(s:ByteArray)(p:ByteArray):zj9 s p=obO (p.size≤(2000000:Nat)) ((z51 (z2a s p (0:Int) (-1:Int) (0:Int) (0:Int))).bind (zd z8j)):=by kernel_rfl
def zja(s:ByteArray)(p:ByteArray)(v0:Int)(v1:Int)(v2:Int)(v3:Int):Option (EX Un):=cndO (decide (v1≥0)) (z51 (z2a s p (IntKind.i64.wrap (v1+1)) v1 (IntKind.i64.wrap (v3+1)) (IntKind.i64.wrap (v3+1)))) (some (.ret,(z2a s p v0 v1 v2 v3)))
def zjb(s:ByteArray)(p:ByteArray)(v0:Int)(v1:Int)(v2:Int)(v3:Int):Option (EX Un):=cndO (decide (v0<(↑(z1g p).length:Int))) (obO (0≤v0∧v0<(↑(z1g p).length:Int)) (cndO (((z1g p).getD v0.toNat znl).kind ==1) (z51 (z2a s p (IntKind.i64.wrap (v0+1)) v1 (IntKind.i64.wrap (v2+1)) v3)) (obO (0≤v0∧v0<(↑(z1g p).length:Int)) (obO (0≤v2∧v2<(↑s.size:Int)) (cndO (((z1g p).getD v0.toNat znl).b ==(↑(s.toList.getD v2.toNat 0).toNat:Int)) (z51 (z2a s p (IntKind.i64.wrap (v0+1)) v1 (IntKind.i64.wrap (v2+1)) v3)) (zja s p v0 v1 v2 v3)))))) (zja s p v0 v1 v2 v3)
theorem z15d(s:ByteArray)(p:ByteArray)(v0:Int)(v1:Int)(v2:Int)(v3:Int):z51 (z2a s p v0 v1 v2 v3)=cndO (decide (v2<(↑s.size:Int))) (cndO (decide (v0<(↑(z1g p).length:Int))) (obO (0≤v0∧v0<(↑(z1g p).length:Int)) (cndO (((z1g p).getD v0.toNat znl).kind ==2) (z51 (z2a s p (IntKind.i64.wrap (v0+1)) v0 v2 v2)) (zjb s p v0 v1 v2 v3))) (zjb s p v0 v1 v2 v3)) (some (.exit 0,(z2a s p v0 v1 v2 v3))):=lpQ_ (by kernel_rfl)
theorem z1cx(s:ByteArray)(p:ByteArray)(v0:Int)(v1:Int)(v2:Int)(v3:Int):z8j .ret (z2a s p v0 v1 v2 v3)=some (z91 (false)):=by kernel_rfl
theorem z1it(s:ByteArray)(p:ByteArray)(v0:Int)(v1:Int)(v2:Int)(v3:Int):z8j (.exit 0) (z2a s p v0 v1 v2 v3)=(z63 (z2p p v0)).bind (zd zny):=by kernel_rfl
theorem znz(p:ByteArray)(v0:Int):z63 (z2p p v0)=cndO (decide (v0<(↑(z1g p).length:Int))) (obO (0≤v0∧v0<(↑(z1g p).length:Int)) (cndO (((z1g p).getD v0.toNat znl).kind ==2) (z63 (z2p p (IntKind.i64.wrap (v0+1)))) (some (.exit 3,(z2p p v0))))) (some (.exit 3,(z2p p v0))):=lpQ_ (by kernel_rfl)
theorem zsh(p:ByteArray)(v0:Int):zny (.exit 3) (z2p p v0)=some (z91 (v0==(↑(z1g p).length:Int))):=by kernel_rfl
theorem z2fx(s p:ByteArray)(hp:(z1g p).length≤2000000):∀(c k:Nat),(z1g p).length - k=c→k≤(z1g p).length→∃r,(z63 (z2p p (k:Int))).bind (zd zny)=some (z91 r):=by
 intro c
 induction c with
 |zero=>
  intro k h1 h2;have e:z63 (z2p p (k:Int))=some (.exit 3,z2p p (k:Int)):=by rw[znz,z8,if_neg (by grind)]
  rw[zg e,zsh];grind
 |succ c ih=>
  intro k h1 h2;by_cases hk:((z1g p).getD k znl).kind=2
  ·have e:z63 (z2p p (k:Int))=z63 (z2p p ((k+1:Nat):Int)):=by
    rw[znz,z8,if_pos (by grind),z6 (by omega),y5,z8,if_pos (by grind),show IntKind.i64.wrap ((k:Int)+1)=((k+1:Nat):Int) by grind[z1p]]
   grind
  ·have e:z63 (z2p p (k:Int))=some (.exit 3,z2p p (k:Int)):=by
    rw[znz,z8,if_pos (by grind),z6 (by omega),y5,z8,if_neg (by grind)]
   rw[zg e,zsh];grind
theorem z2fy(s p:ByteArray)(hs:s.size≤2000000)(hp:(z1g p).length≤2000000):∀(a b c k at_ from_:Nat)(star:Int),s.size- from_=a→s.size- at_=b→(z1g p).length - k=c→
  at_≤s.size→from_≤at_→k≤(z1g p).length→star<((z1g p).length:Int)→-1≤star→
  ∃r,(z51 (z2a s p (k:Int) star (at_:Int) (from_:Int))).bind (zd z8j)=some (z91 r):=by
 intro a
 induction a using Nat.strongRecOn with
 |ind a iha=>
  intro b
  induction b using Nat.strongRecOn with
  |ind b ihb=>
   intro c
   induction c using Nat.strongRecOn with
   |ind c ihc=>
    intro k at_ from_ star h1 h2 h3 h4 h5 h6 h7 h8;rcases yi at_ s.size with ha|ha
    ·have wk:k<(z1g p).length→IntKind.i64.wrap ((k:Int)+1)=((k+1:Nat):Int):=fun h=>by grind[z1p]
     have wa:IntKind.i64.wrap ((at_:Int)+1)=((at_+1:Nat):Int):=by grind[z1p]
     have wf:IntKind.i64.wrap ((from_:Int)+1)=((from_+1:Nat):Int):=by grind[z1p]
     have t1:∃r,(zja s p (k:Int) star (at_:Int) (from_:Int)).bind (zd z8j)=some (z91 r):=by
      unfold zja;by_cases hst:star≥0
      ·obtain⟨q,rfl⟩:=y4c hst;rw[z8,if_pos (decide_eq_true hst),wf,show IntKind.i64.wrap ((q:Int)+1)=((q+1:Nat):Int) by grind[z1p]];exact iha (s.size- (from_+1)) (by omega) _ _ (q+1) (from_+1) (from_+1) (q:Int) rfl rfl rfl (by omega) (by omega) (by omega) h7 h8
      ·have e:cndO (decide (star≥0)) (z51 (z2a s p (IntKind.i64.wrap (star+1)) star (IntKind.i64.wrap ((from_:Int)+1)) (IntKind.i64.wrap ((from_:Int)+1)))) (some (.ret,(z2a s p (k:Int) star (at_:Int) (from_:Int))))=some (.ret,(z2a s p (k:Int) star (at_:Int) (from_:Int))):=by simp_all[z8,if_neg]
       rw[zg e,z1cx];simp
     have t2:∃r,(zjb s p (k:Int) star (at_:Int) (from_:Int)).bind (zd z8j)=some (z91 r):=by
      unfold zjb;rcases yi k (z1g p).length with hk|hk
      ·have ihm:∃r,(z51 (z2a s p ((k+1:Nat):Int) star ((at_+1:Nat):Int) (from_:Int))).bind (zd z8j)=some (z91 r):=
        ihb (s.size- (at_+1)) (by omega) _ (k+1) (at_+1) from_ star h1 rfl rfl (by omega) (by omega) (by omega) h7 h8
       rw[z8,if_pos (by grind),z6 (by omega),z6 (by omega),z6 (by omega),wk hk,wa,z8,z8];split
       ·omega
       ·split
        all_goals omega
      simp_all[z8,if_neg]
     rw[z15d,z8,if_pos (by grind),z8];rcases yi k (z1g p).length with hk|hk
     ·rw[if_pos (by grind),z6 (by omega),z8];split
      ·rw[wk hk];rcases yi (s.size- at_) a with hlt|hge
       ·exact iha (s.size- at_) hlt _ _ (k+1) at_ at_ (k:Int) rfl rfl rfl (by omega) (by omega) (by omega) (by omega) (by omega)
       ·exact ihc ((z1g p).length - (k+1)) (by omega) (k+1) at_ at_ (k:Int) (by omega) h2 rfl (by omega) (by omega) (by omega) (by omega) (by omega)
      omega
     simp_all[if_neg]
    ·have e:z51 (z2a s p (k:Int) star (at_:Int) (from_:Int))=some (.exit 0,z2a s p (k:Int) star (at_:Int) (from_:Int)):=by rw[z15d,z8,if_neg (by grind)]
     rw[zg e,z1it];exact z2fx s p hp _ k rfl h6
theorem z2c9(s p:ByteArray)(hs:s.size≤2000000)(hp:p.size≤2000000):∃r,zj9 s p=some (z91 r):=by
 have hl:(z1g p).length≤2000000:=by
  have:=z13o _ p.toList (y7 _);grind[z38,z1g]
 rw[z1ys,z6 hp];exact z2fy s p hs hl _ _ _ 0 0 0 (-1) rfl rfl rfl (by omega) (by omega) (by omega) (by omega) (by omega)
noncomputable def zmn(s p:ByteArray):Bool:=@dite _ (∃r,zj9 s p=some (z91 r)) (Classical.propDecidable _) (fun h=>h.choose) (fun _=>false)
theorem z1o6(s p:ByteArray)(_hs:WStr s)(_hp:WStr p)(h1:s.size≤2000000)(h2:p.size≤2000000):zj9 s p=some (z91 (zmn s p)):=by
 have h:=z2c9 s p h1 h2;unfold zmn;grind
def z19q:FnC Un:=fnF2 dStr dStr fun s p=>([s.size≤2000000,p.size≤2000000],z91 (zmn s p))
theorem z1yt:FnOK 167 z19q:=fnK2 z3y z3y (M:=zcq) rfl ⟨z1yr,trivial⟩ trivial trivial trivial trivial Tryz.func167 fun s p=>GiF.r fun w o=>z1o6 s p (wfA_ w 0) (wfA_ w 1) (obA_ o 0) (obA_ o 1)
end
end Go.Proofs.YtjfpbchdcbhfgaaGreat.B
