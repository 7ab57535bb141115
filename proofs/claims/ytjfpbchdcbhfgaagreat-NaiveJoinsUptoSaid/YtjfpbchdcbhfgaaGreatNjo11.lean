/- Part 11 of the proof: Lnla Lscalar Lcompare Slcmp Svcmp Svord Snum2 Stri Sdeqp Shelf Lindexb Slike1. -/
import Derived.Lib.Bytealg
import Derived.Lib.Strings
import Derived.Lib.Walk
import Derived.Shelf.Small.Strs
import Derived.Shelf.Small.Wraps
import Derived.Shelf.Strings.Search1
import Derived.Shelf.GgClosure.StringsIndexFunc
import Derived.Ground.GgwProg
import Derived.Shelf.GgClosure.StringsIndexFuncTop
import Derived.Shelf.GgClosure.StringsRunes
import Derived.Shelf.Strings.FuncGrows
import Derived.Shelf.Slices.Turned
import Derived.Ground.Names2Prog
import Derived.Shelf.Slices.SearchI
import Derived.Test.YtjfpbchdcbhfgaaGreatProg
import Derived.Test.YtjfpbchdcbhfgaaGreatNjo10
set_option linter.unusedVariables false
set_option linter.unusedSimpArgs false
namespace Go.Proofs.YtjfpbchdcbhfgaaGreat.B
open Go Go.RowKit
theorem z2n5{n x:Int}(h1:0≤n)(h2:n≤1048576)(h3:0≤x)(h4:x≤1048576):capI n x=if 1048576<n+x then 1048576 else n+x:=by
 grind[capI,z1f]
theorem zb6(a b:Int):minI a b=if b<a then b else a:=rfl
theorem zhe(a b:Int):maxI a b=if a<b then b else a:=rfl
theorem capF{α:Type}(f:α→Int):∀(l:List α)(n:Int),(∀x∈l,0≤f x∧f x≤1048576)→0≤n→n≤1048576→
  n≤l.foldl (fun n x=>capI n (f x)) n∧l.foldl (fun n x=>capI n (f x)) n≤1048576∧(l.foldl (fun n x=>capI n (f x)) n≤20000→∀x∈l,f x≤20000)
 |[],n,_,h1,h2=>⟨y2f _,h2,fun _ x hx=>absurd hx (by simp)⟩
 |y::l,n,hf,h1,h2=>by
  have hy:=hf y y10;have e:=z2n5 h1 h2 hy.1 hy.2;obtain⟨g1,g2,g3⟩:=capF f l (if 1048576<n+f y then 1048576 else n+f y) (fun x hx=>hf x (y12 _ hx)) (by omega) (by omega);grind
theorem addF{α:Type}(f:α→Int):∀(l:List α)(n:Int),(∀x∈l,0≤f x∧f x≤1048576)→0≤n→n+l.length*1048576≤4611686018427387904→
  n≤l.foldl (fun n x=>addI n (f x)) n∧l.foldl (fun n x=>addI n (f x)) n≤n+l.length*1048576∧(∀x∈l,n+f x≤l.foldl (fun n x=>addI n (f x)) n)
 |[],n,_,h1,h2=>⟨y2f _,by simp,fun x hx=>absurd hx (by simp)⟩
 |y::l,n,hf,h1,h2=>by
  have hy:=hf y y10;rw[yt]at h2 ⊢;have e:addI n (f y)=n+f y:=by grind[addI,z1f]
  obtain⟨g1,g2,g3⟩:=addF f l (n+f y) (fun x hx=>hf x (y12 _ hx)) (by omega) (by omega);grind
theorem z2n6(db:List Data)(r:Rel):ztx db (zm8 db 1 r.terms) r.aggs=(z10 r).foldl (fun n t=>addI n (wghT db t)) 1:=by
 have key:∀(l:List Agg)(n:Int),ztx db n l=(z8k l).foldl (fun n t=>addI n (wghT db t)) n:=by
  intro l
  induction l with
  |nil=>simp[ztx,z8k,y2m]
  |cons a l ih=>simp_all[ztx,z8k,y2e,z2bb,zm9]
 simp_all[z10,y2e,zm9]
def ioW(op held rl:Int)(rows:List Int):Int×Int:=
 if op=1 then(held,held)
 else if rows.length=0 then(rl,rl)
 else if rows.length=1 then(rows.getD 0 0,maxI (rows.getD 0 0) 1)
 else if op=5∨op=6 then(IntKind.i64.wrap (rows.getD 0 0*maxI (rows.getD 1 0) 1),IntKind.i64.wrap (rows.getD 0 0*maxI (rows.getD 1 0) 1))
 else(IntKind.i64.wrap (rows.getD 0 0+rows.getD 1 0),IntKind.i64.wrap (rows.getD 0 0+rows.getD 1 0))
theorem z2h5(op held rl n:Int)(rows:List Int)(asks:Int):z19c op held rl n rows asks=(minI (ioW op held rl rows).2 1048576,minI (addI n (IntKind.i64.wrap (minI (ioW op held rl rows).1 1048576*minI asks 1048576))) 1048576):=by
 grind[z19c,ioW]
def ioR(db:List Data)(r:Rel):Int×Int:=ioW r.op (zc8 r.table db) r.rows.length (r.kids.map fun k=>(wghR db k).1)
def askR(db:List Data)(r:Rel):Int:=(z10 r).foldl (fun n t=>addI n (wghT db t)) 1
def kidR(db:List Data)(r:Rel):Int:=r.kids.foldl (fun n k=>addI n (wghR db k).2) 0
theorem z2bd(db:List Data)(r:Rel):wghR db r=(minI (ioR db r).2 1048576,minI (addI (kidR db r) (IntKind.i64.wrap (minI (ioR db r).1 1048576*minI (askR db r) 1048576))) 1048576):=by
 rw[z2bc,z2n6,z2h5];rfl
def zd8:List Data→Nat
 |[]=>0
 |d::l=>d.rows.length+zd8 l
theorem z1dh(table:ByteArray):∀(db:List Data)(n:Int),0≤n→n+zd8 db≤4611686018427387904→n≤db.foldl (zm7 table) n∧db.foldl (zm7 table) n≤n+zd8 db∧∀d∈db,(d.table.toList==table.toList)=true→n+d.rows.length≤db.foldl (zm7 table) n
 |[],n,_,_=>⟨y2f _,by grind,fun d hd=>absurd hd (by simp)⟩
 |y::l,n,h1,h2=>by
  simp only[zd8]at h2 ⊢;rw[yx];unfold zm7;by_cases c:(y.table.toList==table.toList)=true
  ·have e:addI n y.rows.length=n+y.rows.length:=by grind[addI,z1f]
   rw[if_pos c,e];obtain⟨g1,g2,g3⟩:=z1dh table l (n+y.rows.length) (by omega) (by omega);refine⟨by unfold zm7 at g1;omega,by unfold zm7 at g2;omega,fun d hd hc=>?_⟩;rcases yg.1 hd with rfl|hd
   ·exact g1
   ·have:=g3 d hd hc;unfold zm7 at this;omega
  ·rw[if_neg c];obtain⟨g1,g2,g3⟩:=z1dh table l n h1 (by omega);refine⟨g1,by unfold zm7 at g2;omega,fun d hd hc=>?_⟩;rcases yg.1 hd with rfl|hd
   ·grind
   ·exact g3 d hd hc
theorem zah(db:List Data)(r:Rel)(i:Nat)(h:i<r.kids.length):(r.kids.map fun k=>(wghR db k).1).getD i 0=(wghR db (r.kids.getD i za)).1:=by
 grind
theorem z11u{a b:Int}(ha:0≤a)(ha2:a≤1048576)(hb:0≤b)(hb2:b≤1048576):0≤a*b∧a*b≤1099511627776:=by
 refine⟨Int.mul_nonneg ha hb,?_⟩;have h1:=y4v ha2 hb;omega
theorem z2h6(db:List Data)(hd:zd8 db≤2000000)(r:Rel)(hr:r.rows.length≤2000000)(hk:∀k∈r.kids,0≤(wghR db k).1∧(wghR db k).1≤1048576):0≤(ioR db r).1∧(ioR db r).1≤1099511627776∧0≤(ioR db r).2∧(ioR db r).2≤1099511627776:=by
 have hh:=z1dh r.table db 0 (by omega) (by omega);have hg:∀i,0≤(r.kids.map fun k=>(wghR db k).1).getD i 0∧(r.kids.map fun k=>(wghR db k).1).getD i 0≤1048576:=fun i=>by
  grind
 have g0:=hg 0;have g1:=hg 1;unfold ioR ioW zc8;generalize(r.kids.map fun k=>(wghR db k).1).getD 1 0=b at*;have hm:0≤maxI b 1∧maxI b 1≤1048576:=by grind[zhe]
 have hp:=z11u g0.1 g0.2 hm.1 hm.2;grind[z1f,maxI]
theorem z2h7(db:List Data)(hd:zd8 db≤2000000):∀n:Nat,(∀t:Term,t.ht<n→t.sz≤2000000→0≤wghT db t∧wghT db t≤1048576)∧
  (∀r:Rel,r.ht<n→r.sz≤2000000→(0≤(wghR db r).1∧(wghR db r).1≤1048576)∧0≤(wghR db r).2∧(wghR db r).2≤1048576):=by
 intro n
 induction n with
 |zero=>simp
 |succ n ih=>
  constructor
  ·intro t hn hs;rw[z1tm,←zty,←ztz];obtain⟨a1,a2,_⟩:=capF (fun k=>wghT db k) t.kids 0 (fun k hk=>ih.1 k (by have:=Term.ht_kid hk;omega) (by have:=zlz hk;omega)) (by omega) (by omega);obtain⟨b1,b2,_⟩:=capF (fun k=>(wghR db k).2) t.sub _ (fun k hk=>(ih.2 k (by have:=Term.ht_sub hk;omega) (by have:=zm0 hk;omega)).2) a1 a2;omega
  ·intro r hn hs;have h3:=r.sz_eq;have hkl:=z13x r.kids;have hrl:r.rows.length≤2000000:=by omega
   have hk:=fun k(hk:k∈r.kids)=>ih.2 k (by have:=Rel.ht_kid hk;omega) (by have:=z9x hk;omega);have hio:=z2h6 db hd r hrl fun k h=>(hk k h).1;have htl:=zpk r;obtain⟨a1,a2,_⟩:=addF (fun k=>wghT db k) (z10 r) 1 (fun t ht=>ih.1 t (by have:=(z9c ht).1;omega) (by have:=(z9c ht).2;omega)) (by omega) (by omega);obtain⟨b1,b2,_⟩:=addF (fun k=>(wghR db k).2) r.kids 0 (fun k h=>(hk k h).2) (by omega) (by omega);rw[z2bd];have hp:=z11u (a:=minI (ioR db r).1 1048576) (b:=minI (askR db r) 1048576) (by grind[zb6]) (by grind[zb6]) (by grind[askR,zb6]) (by grind[zb6]);grind[addI,kidR,z1f,zb6]
theorem z2be{db:List Data}(hd:zd8 db≤2000000){t:Term}(h:t.sz≤2000000):0≤wghT db t∧wghT db t≤1048576:=(z2h7 db hd (t.ht+1)).1 t (y2l _) h
theorem z5f{db:List Data}(hd:zd8 db≤2000000){r:Rel}(h:r.sz≤2000000):(0≤(wghR db r).1∧(wghR db r).1≤1048576)∧0≤(wghR db r).2∧(wghR db r).2≤1048576:=(z2h7 db hd (r.ht+1)).2 r (y2l _) h
theorem z1p4{db:List Data}(hd:zd8 db≤2000000){t:Term}(h:t.sz≤2000000)(hw:wghT db t≤20000):(∀k∈t.kids,wghT db k≤20000)∧∀k∈t.sub,(wghR db k).2≤20000:=by
 rw[z1tm,←zty,←ztz]at hw;obtain⟨a1,a2,a3⟩:=capF (fun k=>wghT db k) t.kids 0 (fun k hk=>z2be hd (by have:=zlz hk;omega)) (by omega) (by omega);obtain⟨b1,b2,b3⟩:=capF (fun k=>(wghR db k).2) t.sub _ (fun k hk=>(z5f hd (by have:=zm0 hk;omega)).2) a1 a2;grind
theorem zrm{db:List Data}(hd:zd8 db≤2000000){r:Rel}(h:r.sz≤2000000)(hw:(wghR db r).2≤20000):(∀k∈r.kids,(wghR db k).2≤20000)∧0≤(ioR db r).1∧(ioR db r).1≤20000∧(1≤(ioR db r).1→∀t∈z10 r,wghT db t≤20000)∧(wghR db r).1=minI (ioR db r).2 1048576:=by
 have h3:=r.sz_eq;have hkl:=z13x r.kids;have hk:=fun k(hk:k∈r.kids)=>z5f hd (r:=k) (by have:=z9x hk;omega);have hio:=z2h6 db hd r (by omega) fun k h=>(hk k h).1;have htl:=zpk r;obtain⟨a1,a2,a3⟩:=addF (fun k=>wghT db k) (z10 r) 1 (fun t ht=>z2be hd (by have:=(z9c ht).2;omega)) (by omega) (by omega);obtain⟨b1,b2,b3⟩:=addF (fun k=>(wghR db k).2) r.kids 0 (fun k h=>(hk k h).2) (by omega) (by omega);change 1≤askR db r at a1;change∀x∈_,_≤askR db r at a3;change 0≤kidR db r at b1;change kidR db r≤_ at b2;change∀x∈_,_≤kidR db r at b3;have q1:0≤minI (ioR db r).1 1048576∧minI (ioR db r).1 1048576≤1048576:=by grind[zb6]
 have q2:1≤minI (askR db r) 1048576∧minI (askR db r) 1048576≤1048576:=by grind[zb6]
 have hp:=z11u q1.1 q1.2 (by omega:0≤minI (askR db r) 1048576) q2.2;have hp1:=Int.mul_le_mul_of_nonneg_left q2.1 q1.1;rw[z2bd]at hw ⊢;dsimp only at hw ⊢;have hp2:1≤minI (ioR db r).1 1048576→minI (askR db r) 1048576≤minI (ioR db r).1 1048576*minI (askR db r) 1048576:=fun hi=>by
  have:=y4v hi (show 0≤minI (askR db r) 1048576 by omega);omega
 generalize hpe:minI (ioR db r).1 1048576*minI (askR db r) 1048576=p at*;unfold addI at hw;rw[z1f (show-9223372036854775808≤p∧p≤9223372036854775807 by omega),z1f (by omega),zb6]at hw;rw[zb6]at q1 hp1 hp2;rw[zb6]at q2 hp2;grind
end Go.Proofs.YtjfpbchdcbhfgaaGreat.B
namespace Go.Proofs.YtjfpbchdcbhfgaaGreat.B
open Go Go.RowKit
set_option maxRecDepth 1000000
theorem zxt{f:FuncId}{args:List (D Un)}{v:Value}(hv:oneC v=true)
  (h:∀(w:World)(vs:List Value),(∀St,All2 (DRel Tryz.prog En St w) vs args→Calls Tryz.prog f vs.toArray w fun e w'=>e=.returned v∧w'=w)):Contract Tryz.prog En f args [.c (.s v)] []:=by
 intro w St vs hbd hvs hld;refine(h w vs St hvs).mono ?_;rintro e w' ⟨rfl,rfl⟩;let gg:G:={β:=fun _=>0,lb:=fun _=>False,ω:=fun _ _=>none,tk:=fun _=>(none,0)};exact⟨_,rfl,Ext.refl _,gg,fun _ h=>h,fun b o x _ h=>by simp[gg]at h,fun b o x h=>by simp[gg]at h,⟨rfl,hv⟩,fun k o h=>by simp at h⟩
theorem zw2{St:Nat→Nat→Prop}{w:World}{v:Value}{s:ByteArray}(h:DRel Tryz.prog En St w v (.d (.v (cs s)))):v=.string s∧s.size≤9223372036854775807:=by
 have h':VRel En St w v (.s (.string s)):=h;cases h' with|s _ h=>exact⟨rfl,oneC_str.1 h⟩
theorem zw3{St:Nat→Nat→Prop}{w:World}{v:Value}{k:IntKind}{n:Int}(h:DRel Tryz.prog En St w v (.d (.v (.s (.int k n))))):v=.int k n∧k.min≤n∧n≤k.max:=by
 have h':VRel En St w v (.s (.int k n)):=h;cases h' with|s _ h=>exact⟨rfl,of_decide_eq_true h⟩
end Go.Proofs.YtjfpbchdcbhfgaaGreat.B
namespace Go.Proofs.YtjfpbchdcbhfgaaGreat.B
open Go Go.RowKit
set_option maxRecDepth 1000000
theorem z1e7(a b:ByteArray)(w:World):
  Calls Tryz.prog 229 #[.string a,.string b] w fun e w'=>e=.returned (.int .i64 (Lib.compareBytes a.data.toList b.data.toList))∧w'=w:=by
 have mixed:Tryz.prog.follows .mixedOrders=true:=by kernel_rfl
 go_enter Tryz.func229,Tryz.ntmps229
 go_wp2
 rw[run_callFunc_extern Tryz.func245 (by kernel_rfl) (by kernel_rfl) (by kernel_rfl) (e:=Extern.BytealgCompare.compare) (by kernel_rfl),Lib.run_compareString];simp only[Result.andThen];rw[Oper.upon_value]
 go_wp2
 go_ret;exact⟨rfl,rfl⟩
theorem zxu:∀(a b:List UInt8),Lib.compareBytes a b=cmpL a b
 |[],[]=>rfl
 |[],_::_=>rfl
 |_::_,[]=>rfl
 |x::a,y::b=>by
  have hlt:∀p q:UInt8,(p<q)=((p.toNat:Int)<q.toNat):=fun p q=>by simp[UInt8.lt_iff_toNat_lt]
  simp only[Lib.compareBytes,cmpL,cmpI,hlt];by_cases h:x=y
  ·subst h;simp[zxu a b]
  ·have hne:x.toNat≠y.toNat:=fun e=>h (UInt8.toNat_inj.1 e);rw[if_neg h];by_cases h1:(x.toNat:Int)<y.toNat
   ·rw[if_pos h1,if_pos h1]
   ·rw[if_neg h1,if_neg h1,if_pos (by omega),if_pos (by omega)]
theorem z1p5:∀(a b:List UInt8),-1≤cmpL a b∧cmpL a b≤1
 |[],[]=>by simp[cmpL]
 |[],_::_=>by simp[cmpL]
 |_::_,[]=>by simp[cmpL]
 |x::a,y::b=>by
  simp only[cmpL,cmpI];have:=z1p5 a b
  repeat' split
  all_goals omega
def z62:FnC Un:=fun args=>match args with
 |[x0,x1]=>(dStr x0).bind fun a=>(dStr x1).bind fun b=>some ([],[.c (.s (.int .i64 (cmpS a b)))],[])
 |_=>none
theorem zip:FnOK 229 z62:=by
 intro args ob rs os h hob;unfold z62 at h;split at h
 ·rename_i x0 x1;simp only[y7,y8,ym]at h;obtain⟨s,e0,t,e1,rfl,rfl,rfl⟩:=h;obtain rfl:=z3y e0;obtain rfl:=z3y e1;refine⟨?_,zk Tryz.func229 (by kernel_rfl) (by kernel_rfl)⟩;have hr:=z1p5 s.toList t.toList;refine zxt (oneC_i64.2 (by unfold cmpS;omega)) fun w vs St hvs=>?_
  match vs,hvs with
  |[v0,v1],⟨h0,h1,_⟩=>
   obtain⟨rfl,-⟩:=zw2 h0;obtain⟨rfl,-⟩:=zw2 h1;refine(z1e7 s t w).mono ?_;rintro e w' ⟨rfl,rfl⟩;refine⟨?_,rfl⟩;rw[zxu];unfold cmpS;rw[ByteArray.toList_eq,ByteArray.toList_eq]
 ·simp at h
end Go.Proofs.YtjfpbchdcbhfgaaGreat.B
namespace Go.Proofs.YtjfpbchdcbhfgaaGreat.B
open Go Go.RowKit
set_option maxRecDepth 100000
noncomputable section
attribute [local irreducible] awp ctxK zw z1a retQ z1m
def z8z:Mc Un:=mcF_ [(229,z62)] [] [] [] []
theorem z1ak(a:ByteArray)(b:ByteArray)(K:List (A Un)→List (Ob Un)→Prop):
  awp z8z z286 (zf Tryz.f194) (z2h Tryz.f194.ntmps 0 [.d (.v (cs a)),.d (.v (cs b))]) (retQ z8z Tryz.f194.results.toList [.d] K)=
(K (zas (cmpS a b)) (zat (cmpS a b))):=by kernel_rfl
def zrn(a:ByteArray)(b:ByteArray):Option (Int):=
 some (cmpS a b)
theorem z17t{a:ByteArray}{b:ByteArray}{r:Int}(h:zrn a b=some r):Runs (awp z8z z286 (zf Tryz.f194) (z2h Tryz.f194.ntmps 0 [.d (.v (cs a)),.d (.v (cs b))]) (retQ z8z Tryz.f194.results.toList [.d] fun rs os=>rs=zas r∧os=zat r)):=by
 rw[z1ak a b (fun rs os=>rs=zas r∧os=zat r)];cases h;exact⟨rfl,rfl⟩
def strings_Compare(a:ByteArray)(b:ByteArray):Int:=
 (cmpS a b)
theorem z1al(a:ByteArray)(b:ByteArray):zrn a b=some (strings_Compare a b):=by rfl
def z90:FnC Un:=fnF2 dStr dStr fun a b=>([],zas (strings_Compare a b),zat (strings_Compare a b))
theorem zro:FnOK 194 z90:=fnK2 z3y z3y (M:=z8z) rfl ⟨zip,trivial⟩ trivial trivial trivial trivial Tryz.func194 fun a b=>fun _ _=>z17t (z1al a b)
theorem z24v(x:Int)(K:List (A Un)→List (Ob Un)→Prop):
  awp z1f6 z286 (zf Tryz.f228) (z2h Tryz.f228.ntmps 0 [.d (.v (.s (.int .i64 x)))]) (retQ z1f6 Tryz.f228.results.toList [.d] K)=
(K (zv8 (x !=x)) (zv9 (x !=x))):=by kernel_rfl
def z1am(x:Int):Option (Bool):=
 some (x !=x)
theorem z20f{x:Int}{r:Bool}(h:z1am x=some r):Runs (awp z1f6 z286 (zf Tryz.f228) (z2h Tryz.f228.ntmps 0 [.d (.v (.s (.int .i64 x)))]) (retQ z1f6 Tryz.f228.results.toList [.d] fun rs os=>rs=zv8 r∧os=zv9 r)):=by
 rw[z24v x (fun rs os=>rs=zv8 r∧os=zv9 r)];cases h;exact⟨rfl,rfl⟩
def z64(x:Int):Bool:=
 (x !=x)
theorem z24w(x:Int):z1am x=some (z64 x):=by rfl
def z1gx:FnC Un:=fnF1 (dI .i64) fun x=>([],zv8 (z64 x),zv9 (z64 x))
theorem z24x:FnOK 228 z1gx:=fnK1 z17 (M:=z1f6) rfl trivial trivial trivial trivial trivial Tryz.func228 fun x=>fun _ _=>z20f (z24w x)
def zek:Mc Un:=mcF_ [(228,z1gx)] [] [] [] []
theorem z1uc(x:Int)(y:Int)(K:List (A Un)→List (Ob Un)→Prop):
  awp zek z286 (zf Tryz.f193) (z2h Tryz.f193.ntmps 0 [.d (.v (.s (.int .i64 x))),.d (.v (.s (.int .i64 y)))]) (retQ zek Tryz.f193.results.toList [.d] K)=
(cnd (z64 x)
 (cnd (z64 y)
  (K (zas ((0:Int))) (zat ((0:Int))))
  (K (zas ((-1:Int))) (zat ((-1:Int)))))
 (cnd (z64 y)
  (K (zas ((1:Int))) (zat ((1:Int))))
  (cnd (decide (x<y))
   (K (zas ((-1:Int))) (zat ((-1:Int))))
   (cnd (decide (x>y))
    (K (zas ((1:Int))) (zat ((1:Int))))
    (K (zas ((0:Int))) (zat ((0:Int)))))))):=by kernel_rfl
def zoh(x:Int)(y:Int):Option (Int):=
  if(z64 x)=true then
   if(z64 y)=true then
    some ((0:Int))
   else
    some ((-1:Int))
  else
   if(z64 y)=true then
    some ((1:Int))
   else
    if(decide (x<y))=true then
     some ((-1:Int))
    else
     if(decide (x>y))=true then
      some ((1:Int))
     else
      some ((0:Int))
theorem z1p6{x:Int}{y:Int}{r:Int}(h:zoh x y=some r):Runs (awp zek z286 (zf Tryz.f193) (z2h Tryz.f193.ntmps 0 [.d (.v (.s (.int .i64 x))),.d (.v (.s (.int .i64 y)))]) (retQ zek Tryz.f193.results.toList [.d] fun rs os=>rs=zas r∧os=zat r)):=by
 constructor;rw[z1uc x y (fun rs os=>rs=zas r∧os=zat r)];rcases z13 h with⟨c1,h2⟩|⟨c1,h2⟩
 ·rcases z13 h2 with⟨c3,h4⟩|⟨c3,h4⟩
  ·cases h4;exact(z1d c1 (z1d c3 ⟨rfl,rfl⟩))
  ·cases h4;exact(z1d c1 (zx (zl c3) ⟨rfl,rfl⟩))
 ·rcases z13 h2 with⟨c5,h6⟩|⟨c5,h6⟩
  ·cases h6;exact(zx (zl c1) (z1d c5 ⟨rfl,rfl⟩))
  ·rcases z13 h6 with⟨c7,h8⟩|⟨c7,h8⟩
   ·cases h8;exact(zx (zl c1) (zx (zl c5) (z1d c7 ⟨rfl,rfl⟩)))
   ·rcases z13 h8 with⟨c9,h10⟩|⟨c9,h10⟩
    ·cases h10;exact(zx (zl c1) (zx (zl c5) (zx (zl c7) (z1d c9 ⟨rfl,rfl⟩))))
    ·cases h10;exact(zx (zl c1) (zx (zl c5) (zx (zl c7) (zx (zl c9) ⟨rfl,rfl⟩))))
def z3c(x:Int)(y:Int):Int:=
  if(z64 x)=true then
   if(z64 y)=true then
    ((0:Int))
   else
    ((-1:Int))
  else
   if(z64 y)=true then
    ((1:Int))
   else
    if(decide (x<y))=true then
     ((-1:Int))
    else
     if(decide (x>y))=true then
      ((1:Int))
     else
      ((0:Int))
theorem z1ud(x:Int)(y:Int):zoh x y=some (z3c x y):=by grind[zoh,z3c]
def zel:FnC Un:=fnF2 (dI .i64) (dI .i64) fun x y=>([],zas (z3c x y),zat (z3c x y))
theorem z11v:FnOK 193 zel:=fnK2 z17 z17 (M:=zek) rfl ⟨z24x,trivial⟩ trivial trivial trivial trivial Tryz.func193 fun x y=>fun _ _=>z1p6 (z1ud x y)
@[simp] theorem z1k4(x y:Int):z3c x y=cmpI x y:=by
 unfold z3c z64 cmpI;simp
@[simp] theorem z14r(a b:ByteArray):strings_Compare a b=cmpS a b:=rfl
def z63:Nat→NS:=nsF_ [(3,{ts:=[false,false,true,true,false,false,true,true,true,false,false,false,false,false,false,false,false,false],bs:=[false,false,false,false,false,false,false,false,false,false,false,false,false,false,false,false,false,false],nm:=[],gb:=[],gs:=[]})] false
def zbp(vals:List Int)(v0:Int):S Un:=(st 18 18 72 0 [(2,AV.one (A.c (C.s (Value.int IntKind.i64 (0:Int))))),(3,AV.one (A.c (C.s (Value.int IntKind.i64 (0:Int))))),(6,AV.one (A.c (C.sl Ty.int vals false))),(7,AV.one (A.c (C.s (Value.int IntKind.i64 (↑vals.length:Int))))),(8,AV.one (A.c (C.s (Value.int IntKind.i64 v0))))] [] [])
def zjp(vals:List Int)(v0:Int)(v1:Int):S Un:=(st 18 18 72 0 [(2,AV.one (A.c (C.s (Value.int IntKind.i64 v1)))),(3,AV.one (A.c (C.s (Value.int IntKind.i64 (0:Int))))),(6,AV.one (A.c (C.sl Ty.int vals false))),(7,AV.one (A.c (C.s (Value.int IntKind.i64 (↑vals.length:Int))))),(8,AV.one (A.c (C.s (Value.int IntKind.i64 v0))))] [] [])
theorem z2h8(vals:List Int)(K:List (A Un)→List (Ob Un)→Prop):
  awp z1f6 z63 (zf Tryz.f192) (z2h Tryz.f192.ntmps 0 [.d (.v (.dat (U:=Un) Ty.int vals))]) (retQ z1f6 Tryz.f192.results.toList [.d] K)=
(zw (z63 3) (awp z1f6 z63 (sub (zf Tryz.f192) [1,1,0,1,2,2])) (ctxK z1f6 z63 (zf Tryz.f192) [1,1,0,1,2] (retQ z1f6 Tryz.f192.results.toList [.d] K)) (zbp vals (0:Int))):=by kernel_rfl
theorem z1an(vals:List Int)(v0:Int)(k:Nat)(Q:Exit→S Un→Prop):
  z1a (z63 3) (awp z1f6 z63 (sub (zf Tryz.f192) [1,1,0,1,2,2])) Q (k+1) (zbp vals v0)=
(cnd (decide (v0<(↑vals.length:Int)))
 (((0:Int)≤v0∧v0<(↑vals.length:Int))∧
 (cnd (vals.getD v0.toNat (0:Int) !=(0:Int))
  (Q .ret (zjp vals v0 (vals.getD v0.toNat (0:Int))))
  (z1a (z63 3) (awp z1f6 z63 (sub (zf Tryz.f192) [1,1,0,1,2,2])) Q k (zbp vals (IntKind.i64.wrap (v0+(1:Int)))))))
 (Q (.exit 0) (zbp vals v0))):=by kernel_rfl
theorem z20g(vals:List Int)(v0:Int)(v1:Int)(K:List (A Un)→List (Ob Un)→Prop):
  ctxK z1f6 z63 (zf Tryz.f192) [1,1,0,1,2] (retQ z1f6 Tryz.f192.results.toList [.d] K) .ret (zjp vals v0 v1)=
(K (zas (v1)) (zat (v1))):=by kernel_rfl
theorem z24y(vals:List Int)(v0:Int)(K:List (A Un)→List (Ob Un)→Prop):
  ctxK z1f6 z63 (zf Tryz.f192) [1,1,0,1,2] (retQ z1f6 Tryz.f192.results.toList [.d] K) (.exit 0) (zbp vals v0)=
(K (zas ((0:Int))) (zat ((0:Int)))):=by kernel_rfl
def zrp(vals:List Int)(v:Int):Option ((Int) ⊕((Int×Int) ⊕(Int))):=
  if(decide (v<(↑vals.length:Int)))=true then
   if(0:Int)≤v∧v<(↑vals.length:Int)then
    if(vals.getD v.toNat (0:Int) !=(0:Int))=true then
     some (.inr (.inl (v,(vals.getD v.toNat (0:Int)))))
    else
     some (.inl (IntKind.i64.wrap (v+(1:Int))))
   else none
  else
   some (.inr (.inr v))
def zl1(vals:List Int)(v:Int):Option ((Int×Int) ⊕(Int)):=zdy (zrp vals) v
theorem z1ao(vals:List Int)(v:Int):zl1 vals v=zpc (zl1 vals) (zrp vals v):=zv5 _ _
def zxv(vals:List Int)(r:(Int×Int) ⊕(Int))(Q:Exit→S Un→Prop):Prop:=match r with| .inl x=>Q .ret (zjp vals x.1 x.2)| .inr x=>Q (.exit 0) (zbp vals x)
theorem z20h{vals:List Int}{x:Int×Int}{Q:Exit→S Un→Prop}(h:Q .ret (zjp vals x.1 x.2)):zxv vals (.inl x) Q:=h
theorem z24z{vals:List Int}{x:Int}{Q:Exit→S Un→Prop}(h:Q (.exit 0) (zbp vals x)):zxv vals (.inr x) Q:=h
theorem z16l{vals:List Int}{v:Int}{r:(Int×Int) ⊕(Int)}(h:zl1 vals v=some r)(Q:Exit→S Un→Prop)(hQ:zxv vals r Q):zw (z63 3) (awp z1f6 z63 (sub (zf Tryz.f192) [1,1,0,1,2,2])) Q (zbp vals v):=by
 refine@zv6 _ _ (zrp vals) (fun v=>zw (z63 3) (awp z1f6 z63 (sub (zf Tryz.f192) [1,1,0,1,2,2])) Q (zbp vals v)) (fun r=>zxv vals r Q) ?_ v r h hQ;intro v o h hI;rcases z13 h with⟨c1,h2⟩|⟨c1,h2⟩
 ·obtain⟨c3,h4⟩:=z9u h2;rcases z13 h4 with⟨c5,h6⟩|⟨c5,h6⟩
  ·cases h6;exact z4p 1 (mpr (z1an vals v 0 Q) (z1d c1 (And.intro c3 (z1d c5 hI))))
  ·cases h6;obtain⟨k7,hk8⟩:=ztk hI;exact z4p (k7+1) (mpr (z1an vals v k7 Q) (z1d c1 (And.intro c3 (zx (zl c5) hk8))))
 ·cases h2;exact z4p 1 (mpr (z1an vals v 0 Q) (zx (zl c1) hI))
def z1ap(vals:List Int):Option (Int):=
  (zl1 vals (0:Int))>>=fun o9=>match o9 with
   | .inl o10=>
     some (o10.2)
   | .inr o11=>
     some ((0:Int))
theorem z2dg{vals:List Int}{r:Int}(h:z1ap vals=some r):Runs (awp z1f6 z63 (zf Tryz.f192) (z2h Tryz.f192.ntmps 0 [.d (.v (.dat (U:=Un) Ty.int vals))]) (retQ z1f6 Tryz.f192.results.toList [.d] fun rs os=>rs=zas r∧os=zat r)):=by
 constructor;rw[z2h8 vals (fun rs os=>rs=zas r∧os=zat r)];obtain⟨o12,ho13,h14⟩:=bind_some h;rcases o12 with o15|o16
 ·cases h14;exact(z16l ho13 _ (z20h (mpr (z20g vals o15.1 o15.2 _) ⟨rfl,rfl⟩)))
 ·cases h14;exact(z16l ho13 _ (z24z (mpr (z24y vals o16 _) ⟨rfl,rfl⟩)))
def orL:List Int→Int
 |[]=>0
 |x::r=>if x=0 then orL r else x
def zrq(vals:List Int):Int:=orL vals
@[simp] theorem z2h9(vals:List Int):zrq vals=orL vals:=by rfl
theorem z29h(vals:List Int)(h:WL .int vals):∀(r:List Int)(i:Nat),vals.drop i=r→
  ∃o,zl1 vals i=some o∧(match o with| .inl o=>o.2| .inr _=>0)=orL r:=by
 intro r
 induction r with
 |nil=>
  intro i h1;have e1:=drop_nil h1;have hn:¬((i:Int)<vals.length):=by omega
  exact⟨.inr i,by rw[z1ao,zrp];simp[hn],rfl⟩
 |cons x r ih=>
  intro i h1;obtain⟨a1,a2,a3,_⟩:=z3f h1;have hp:(i:Int)<vals.length:=by omega
  have hi:(0:Int)≤i:=by omega
  rw[z1ao,zrp];simp only[hp,hi,decide_true,if_true,and_self,y5,a2,bne_iff_ne,ne_eq,ite_not,orL];by_cases hx:x=0
  ·rw[if_pos hx,if_pos hx,zxf a1 h.len,zrf];grind
  simp_all
theorem z29i(vals:List Int)(h:WL .int vals):z1ap vals=some (zrq vals):=by
 obtain⟨o,ho,e⟩:=z29h vals h _ 0 rfl;unfold z1ap zrq;simp at e;rw[←e];have ho':zl1 vals 0=some o:=ho;rw[ho'];cases o<;>rfl
def z1k5:FnC Un:=fnF1 (dL .int) fun vals=>([],zas (zrq vals),zat (zrq vals))
theorem z2ha:FnOK 192 z1k5:=fnK1 zr (M:=z1f6) rfl trivial trivial trivial trivial trivial Tryz.func192 fun vals=>fun w _=>z2dg (z29i vals (wfA_ w 0))
end
end Go.Proofs.YtjfpbchdcbhfgaaGreat.B
namespace Go.Proofs.YtjfpbchdcbhfgaaGreat.B
open Go Go.RowKit
set_option maxRecDepth 100000
noncomputable section
attribute [local irreducible] awp ctxK zw z1a retQ z1m
def cmpV(a b:Val):Int×Bool:=if a.kind=b.kind then(if a.kind=3 then(cmpS a.s b.s,true)else if a.kind=1∨a.kind=2 then(cmpI a.n b.n,true)else(0,false))else(0,false)
def zem:Mc Un:=mcF_ [(193,zel),(194,z90),(192,z1k5)] [] [] [] []
theorem z1ue(a:Val)(b:Val)(K:List (A Un)→List (Ob Un)→Prop):
  awp zem z286 (zf Tryz.f147) (z2h Tryz.f147.ntmps 0 [.d (.agg (enc Ty.val a)),.d (.agg (enc Ty.val b))]) (retQ zem Tryz.f147.results.toList [.d] K)=
(K (zas (zrq [z3c a.kind b.kind,z3c a.n b.n,strings_Compare a.s b.s])) (zat (zrq [z3c a.kind b.kind,z3c a.n b.n,strings_Compare a.s b.s]))):=by kernel_rfl
def zoi(a:Val)(b:Val):Option (Int):=
 some (zrq [z3c a.kind b.kind,z3c a.n b.n,strings_Compare a.s b.s])
theorem z1p7{a:Val}{b:Val}{r:Int}(h:zoi a b=some r):Runs (awp zem z286 (zf Tryz.f147) (z2h Tryz.f147.ntmps 0 [.d (.agg (enc Ty.val a)),.d (.agg (enc Ty.val b))]) (retQ zem Tryz.f147.results.toList [.d] fun rs os=>rs=zas r∧os=zat r)):=by
 rw[z1ue a b (fun rs os=>rs=zas r∧os=zat r)];cases h;exact⟨rfl,rfl⟩
theorem z1k6(a b:Val)(_ha:WS .val a)(_hb:WS .val b):zoi a b=some (zbg a b):=by
 unfold zoi zbg ordV;simp only[z2h9,z1k4,z14r,orL,z18n];grind
def zb7:FnC Un:=fun args=>match args with
 |[x0,x1]=>(dS .val x0).bind fun a=>(dS .val x1).bind fun b=>some ([],zas (zbg a b),zat (zbg a b))
 |_=>none
theorem zoj:FnOK 147 zb7:=by
 intro args ob rs os h hob;unfold zb7 at h;split at h
 ·simp only[y7,y8,ym]at h;obtain⟨a,e0,b,e1,rfl,rfl,rfl⟩:=h;obtain rfl:=zt e0;obtain rfl:=zt e1;exact⟨zhy (M:=zem) rfl (z4o (l1:=[(193,zel),(194,z90),(192,z1k5)]) (l2:=[]) (l3:=[]) (l4:=[]) (l5:=[]) ⟨z11v,zro,z2ha,trivial⟩ trivial trivial trivial trivial) Tryz.func147 (by rfl) z286 0 [.d] (fun hwf=>z1p7 (z1k6 a b (z57 hwf (a:=.d (.agg (enc Ty.val a))) (ye (i:=0) rfl)) (z57 hwf (a:=.d (.agg (enc Ty.val b))) (ye (i:=1) rfl)))),zk Tryz.func147 (by rfl) (by rfl)⟩
 grind
def z2g:FV Un:=fun args=>match args with
 |[x0,x1]=>(dS .val (.d x0)).bind fun a=>(dS .val (.d x1)).bind fun b=>some ([],[.v (.s (.int .i64 (zbg a b)))])
 |_=>none
theorem zxw:FvOK 147 z2g:=by
 refine⟨zk Tryz.func147 (by rfl) (by rfl),fun args ob rs h hob=>?_⟩;unfold z2g at h;split at h
 ·simp only[y7,y8,ym]at h;obtain⟨a,e0,b,e1,rfl,rfl⟩:=h;simp;rw[zt e0];rw[zt e1];refine Contract.data (zoj _ ([]) _ _ (?_:zb7 _=some _) (by simp)).1;rfl
 grind
theorem zw6:z2g=z1h ordV:=by
 rfl
def zbq:Mc Un:=mcF_ [(194,z90),(193,zel)] [] [] [] []
def z4i(r:Int×Bool):List (A Un):=[.c (.s (.int .i64 r.1)),.c (.s (.bool r.2))]
def z4j(_r:Int×Bool):List (Ob Un):=[]
theorem z1k7(a:Val)(b:Val)(K:List (A Un)→List (Ob Un)→Prop):
  awp zbq z286 (zf Tryz.f152) (z2h Tryz.f152.ntmps 0 [.d (.agg (enc Ty.val a)),.d (.agg (enc Ty.val b))]) (retQ zbq Tryz.f152.results.toList [.d,.d] K)=
(cnd (a.kind !=b.kind)
 (K (z4i ((0:Int),false)) (z4j ((0:Int),false)))
 (cnd (decide (a.kind<(1:Int)))
  (K (z4i ((0:Int),false)) (z4j ((0:Int),false)))
  (cnd (decide (a.kind>(3:Int)))
   (K (z4i ((0:Int),false)) (z4j ((0:Int),false)))
   (cnd (a.kind==(3:Int))
    (K (z4i (strings_Compare a.s b.s,true)) (z4j (strings_Compare a.s b.s,true)))
    (K (z4i (z3c a.n b.n,true)) (z4j (z3c a.n b.n,true))))))):=by kernel_rfl
def zki(a:Val)(b:Val):Option (Int×Bool):=
  if(a.kind !=b.kind)=true then
   some ((0:Int),false)
  else
   if(decide (a.kind<(1:Int)))=true then
    some ((0:Int),false)
   else
    if(decide (a.kind>(3:Int)))=true then
     some ((0:Int),false)
    else
     if(a.kind==(3:Int))=true then
      some (strings_Compare a.s b.s,true)
     else
      some (z3c a.n b.n,true)
theorem z1e8{a:Val}{b:Val}{r:Int×Bool}(h:zki a b=some r):Runs (awp zbq z286 (zf Tryz.f152) (z2h Tryz.f152.ntmps 0 [.d (.agg (enc Ty.val a)),.d (.agg (enc Ty.val b))]) (retQ zbq Tryz.f152.results.toList [.d,.d] fun rs os=>rs=z4i r∧os=z4j r)):=by
 constructor;rw[z1k7 a b (fun rs os=>rs=z4i r∧os=z4j r)];rcases z13 h with⟨c1,h2⟩|⟨c1,h2⟩
 ·cases h2;exact(z1d c1 ⟨rfl,rfl⟩)
 ·rcases z13 h2 with⟨c3,h4⟩|⟨c3,h4⟩
  ·cases h4;exact(zx (zl c1) (z1d c3 ⟨rfl,rfl⟩))
  ·rcases z13 h4 with⟨c5,h6⟩|⟨c5,h6⟩
   ·cases h6;exact(zx (zl c1) (zx (zl c3) (z1d c5 ⟨rfl,rfl⟩)))
   ·rcases z13 h6 with⟨c7,h8⟩|⟨c7,h8⟩
    ·cases h8;exact(zx (zl c1) (zx (zl c3) (zx (zl c5) (z1d c7 ⟨rfl,rfl⟩))))
    ·cases h8;exact(zx (zl c1) (zx (zl c3) (zx (zl c5) (zx (zl c7) ⟨rfl,rfl⟩))))
def z1t(a b:Val):Int×Bool:=cmpV a b
@[simp] theorem z1k8(a b:Val):z1t a b=cmpV a b:=by rfl
theorem z1aq(a b:Val)(_ha:WS .val a)(_hb:WS .val b):zki a b=some (z1t a b):=by
 unfold zki z1t cmpV;simp;grind
def z8l:FnC Un:=fun args=>match args with
 |[x0,x1]=>(dS .val x0).bind fun a=>(dS .val x1).bind fun b=>some ([],z4i (z1t a b),z4j (z1t a b))
 |_=>none
theorem zkj:FnOK 152 z8l:=by
 intro args ob rs os h hob;unfold z8l at h;split at h
 ·simp only[y7,y8,ym]at h;obtain⟨a,e0,b,e1,rfl,rfl,rfl⟩:=h;obtain rfl:=zt e0;obtain rfl:=zt e1;exact⟨zhy (M:=zbq) rfl (z4o (l1:=[(194,z90),(193,zel)]) (l2:=[]) (l3:=[]) (l4:=[]) (l5:=[]) ⟨zro,z11v,trivial⟩ trivial trivial trivial trivial) Tryz.func152 (by rfl) z286 0 [.d,.d] (fun hwf=>z1e8 (z1aq a b (z57 hwf (a:=.d (.agg (enc Ty.val a))) (ye (i:=0) rfl)) (z57 hwf (a:=.d (.agg (enc Ty.val b))) (ye (i:=1) rfl)))),zk Tryz.func152 (by rfl) (by rfl)⟩
 grind
end
end Go.Proofs.YtjfpbchdcbhfgaaGreat.B
namespace Go.Proofs.YtjfpbchdcbhfgaaGreat.B
open Go Go.RowKit
set_option maxRecDepth 100000
noncomputable section
attribute [local irreducible] awp ctxK zw z1a retQ z1m awf ctxF z1l
def z1ar(r:Int):RF Un:=(zas r,zat r)
def z1p9:Nat→NS:=nsF_ [(2,{ts:=bl 39 14407,bs:=bl 39 0,nm:=[]})] false
def zb8(s1:List Val)(s2:List Val)(p:Val→Val→Int)(v0:Int):S Un:=(st 39 39 156 0 [(0,al .val s1),(1,al .val s2),(2,AV.one (A.c (C.fv (z1h p)))),(6,ai (0:Int)),(11,al .val s1),(12,ai (↑s1.length:Int)),(13,ai v0)] [] [])
def zir(s1:List Val)(s2:List Val)(p:Val→Val→Int)(v0:Int)(v1:Int):S Un:=(st 39 39 156 0 [(0,al .val s1),(1,al .val s2),(2,AV.one (A.c (C.fv (z1h p)))),(6,ai v1),(11,al .val s1),(12,ai (↑s1.length:Int)),(13,ai v0)] [] [])
def zhf:S Un→Option (EX Un):=lpF_ z1f6 z1p9 Tryz.f195 [1,0,1,2,2] 2
def z1di:Exit→S Un→Option (RF Un):=cxF_ z1f6 z1p9 Tryz.f195 [1,0,1,2] [.d]
def z2bf(s1:List Val)(s2:List Val)(p:Val→Val→Int):Option (RF Un):=fnF_ z1f6 z1p9 Tryz.f195 0 [.d] [.d (.v (.dat (U:=Un) Ty.val s1)),.d (.v (.dat (U:=Un) Ty.val s2)),.fn (z1h p)]
theorem z2n7(s1:List Val)(s2:List Val)(p:Val→Val→Int):z2bf s1 s2 p=(zhf (zb8 s1 s2 p (0:Int))).bind (zd z1di):=by kernel_rfl
theorem z1dj(s1:List Val)(s2:List Val)(p:Val→Val→Int)(v0:Int):zhf (zb8 s1 s2 p v0)=cndO (decide (v0<(↑s1.length:Int))) (obO (0≤v0∧v0<(↑s1.length:Int)) (cndO (decide (v0≥(↑s2.length:Int))) (some (.ret,(zir s1 s2 p v0 (1:Int)))) (obO (0≤v0∧v0<(↑s2.length:Int)) (cndO (p (s1.getD v0.toNat z7) (s2.getD v0.toNat z7) !=0) (some (.ret,(zir s1 s2 p v0 (p (s1.getD v0.toNat z7) (s2.getD v0.toNat z7))))) (zhf (zb8 s1 s2 p (IntKind.i64.wrap (v0+1)))))))) (some (.exit 0,(zb8 s1 s2 p v0))):=lpQ_ (by kernel_rfl)
theorem z1gy(s1:List Val)(s2:List Val)(p:Val→Val→Int)(v0:Int)(v1:Int):z1di .ret (zir s1 s2 p v0 v1)=some (z1ar (v1)):=by kernel_rfl
theorem z2dh(s1:List Val)(s2:List Val)(p:Val→Val→Int)(v0:Int):z1di (.exit 0) (zb8 s1 s2 p v0)=cndO (decide ((↑s1.length:Int)<(↑s2.length:Int))) (some (z1ar ((-1:Int)))) (some (z1ar ((0:Int)))):=by kernel_rfl
def z14s(p:Val→Val→Int):List Val→List Val→Int
 |[],[]=>0
 |[],_::_=>-1
 |_::_,[]=>1
 |a::l,b::r=>if p a b=0 then z14s p l r else p a b
def cmpR(s1 s2:List Val)(p:Val→Val→Int):Int:=z14s p s1 s2
theorem z2kn (s1 s2:List Val) (p:Val→Val→Int) (h1:WL .val s1) (h2:WL .val s2) : ∀ (ra rb:List Val) (i:Nat),s1.drop i=ra→s2.drop i=rb→i≤s1.length→i≤s2.length →
    (zhf (zb8 s1 s2 p (i:Int))).bind (zd z1di)=some (z1ar (z14s p ra rb)):=by
  have l1:=h1.len;intro ra
  induction ra with
  | nil =>
    intro rb i e1 e2 i1 i2
    have n1 : s1.length = i := by have : s1.length ≤ i := y1q.1 e1
                                  omega
    have hL:zhf (zb8 s1 s2 p (i:Int))=some (.exit 0,zb8 s1 s2 p (i:Int)):=by
      rw[z1dj,z8,if_neg (by rw[decide_eq_true_eq];omega)]
    rw[zj hL,z2dh,z8];cases rb with
    | nil =>
      have : s2.length≤i:=y1q.1 e2;rw[if_neg (by rw[decide_eq_true_eq];omega)];rfl
    | cons y rb =>
      have hlt:i<s2.length:=by
        rcases yj i s2.length with h | h
        · exact h
        · rw[y4w h] at e2;simp at e2
      rw[if_pos (by rw[decide_eq_true_eq];omega)];rfl
  | cons x ra ih =>
    intro rb i e1 e2 i1 i2;obtain⟨a1,a2,a3,_⟩:=z3f e1;cases rb with
    | nil =>
      have n2:s2.length≤i:=y1q.1 e2;have hL:zhf (zb8 s1 s2 p (i:Int))=some (.ret,zir s1 s2 p (i:Int) 1):=by
        rw[z1dj,z8,if_pos (by rw[decide_eq_true_eq];omega),z6 (by omega),z8,if_pos (by rw[decide_eq_true_eq];omega)]
      rw[zj hL,z1gy];rfl
    | cons y rb =>
      obtain⟨b1,b2,b3,_⟩:=z3f e2;by_cases hxy : p x y=0
      · have hL:zhf (zb8 s1 s2 p (i:Int))=zhf (zb8 s1 s2 p ((i+1:Nat):Int)):=by
          rw[z1dj,z8,if_pos (by rw[decide_eq_true_eq];omega),z6 (by omega),z8,if_neg (by rw[decide_eq_true_eq];omega),z6 (by omega),y5,a2,b2,z8,if_neg (by simp [hxy]),z1f (by omega)];rfl
        rw[hL,ih rb (i+1) a3 b3 (by omega) (by omega)];simp only[z14s,if_pos hxy]
      · have hL:zhf (zb8 s1 s2 p (i:Int))=some (.ret,zir s1 s2 p (i:Int) (p x y)):=by
          rw[z1dj,z8,if_pos (by rw[decide_eq_true_eq];omega),z6 (by omega),z8,if_neg (by rw[decide_eq_true_eq];omega),z6 (by omega),y5,a2,b2,z8,if_pos (by simpa using hxy)]
        rw[zj hL,z1gy];simp only[z14s,if_neg hxy]
theorem z2hd(s1 s2:List Val)(p:Val→Val→Int)(h1:WL .val s1)(h2:WL .val s2):z2bf s1 s2 p=some (z1ar (cmpR s1 s2 p)):=by
 rw[z2n7];exact z2kn s1 s2 p h1 h2 s1 s2 0 rfl rfl (yb _) (yb _)
def z250:FnC Un:=fun args=>match args with
 |[x0,x1,x2]=>(dL .val x0).bind fun s1=>(dL .val x1).bind fun s2=>(dF x2).bind fun p=>some ([p=(z1h (zm p))],zas (cmpR s1 s2 (zm p)),zat (cmpR s1 s2 (zm p)))
 |_=>none
theorem z2n8:FnOK 195 z250:=by
 intro args ob rs os h hob;unfold z250 at h;split at h
 ·simp only[y7,y8,ym]at h;obtain⟨s1,e0,s2,e1,p,e2,rfl,rfl,rfl⟩:=h;obtain rfl:=zr e0;obtain rfl:=zr e1;obtain rfl:=zpb e2;have hfv0:=hob _ (ye (i:=0) rfl);generalize zm p=pp0 at*;subst hfv0;exact⟨z2d (M:=z1f6) rfl (z4o (l1:=[]) (l2:=[]) (l3:=[]) (l4:=[]) (l5:=[]) trivial trivial trivial trivial trivial) Tryz.func195 (by rfl) z1p9 0 [.d] (fun hwf=>(z2hd s1 s2 pp0 (z57 hwf (a:=.d (.v (.dat (U:=Un) Ty.val s1))) (ye (i:=0) rfl)) (z57 hwf (a:=.d (.v (.dat (U:=Un) Ty.val s2))) (ye (i:=1) rfl)))),zk Tryz.func195 (by rfl) (by rfl)⟩
 grind
def z11w:Mc Un:=mcF_ [(195,z250)] [(147,z2g)] [] [] []
def zxx(a:List Val)(b:List Val):Option (RF Un):=fnF_ z11w z286 Tryz.f149 0 [.d] [.d (.v (.dat (U:=Un) Ty.val a)),.d (.v (.dat (U:=Un) Ty.val b))]
theorem z1pa(a:List Val)(b:List Val):zxx a b=obO (z2g=z1h (zm z2g)) (some (z2c (cmpR a b (zm z2g)))):=by kernel_rfl
theorem z1xp:∀a b:List Val,z14s ordV a b=ordR a b
 |[],[]=>rfl
 |[],_::_=>rfl
 |_::_,[]=>rfl
 |a::l,b::r=>by simp only[z14s,ordR,z1xp l r]
theorem z1e9(a b:List Val)(_ha:WL .val a)(_hb:WL .val b):zxx a b=some (z2c (zbh a b)):=by
 have e:zm (z1h ordV)=ordV:=zfr ordV;rw[z1pa,zw6,e,z6 rfl];unfold cmpR zbh;rw[z1xp]
def z7h:FnC Un:=fnF2 (dL .val) (dL .val) fun a b=>([],z2c (zbh a b))
theorem zn9:FnOK 149 z7h:=fnK2 zr zr (M:=z11w) rfl ⟨z2n8,trivial⟩ ⟨zxw,trivial⟩ trivial trivial trivial Tryz.func149 fun a b=>GiF.r fun w _=>z1e9 a b (wfA_ w 0) (wfA_ w 1)
end
end Go.Proofs.YtjfpbchdcbhfgaaGreat.B
namespace Go.Proofs.YtjfpbchdcbhfgaaGreat.B
open Go Go.RowKit
set_option maxRecDepth 100000
noncomputable section
attribute [local irreducible] awp ctxK zw z1a retQ z1m awf ctxF z1l
def z1pb:Mc Un:=mcF_ [(211,zc2)] [] [] [] []
def z1gz(a:Int)(b:Int)(n:Int):Option (RF Un):=fnF_ z1pb z286 Tryz.f233 0 [.d,.d] [.d (.v (.s (.int .i64 a))),.d (.v (.s (.int .i64 b))),.d (.v (.s (.int .i64 n)))]
theorem z29j(a:Int)(b:Int)(n:Int):z1gz a b n=cndO (!z1o a) (some (zmj ((0:Int),false))) (cndO (!z1o b) (some (zmj ((0:Int),false))) (cndO (!z1o n) (some (zmj ((0:Int),false))) (some (zmj (n,true))))):=by kernel_rfl
def z3o(a:Int)(b:Int)(n:Int):Int×Bool:=
  if(!z1o a)=true then
   ((0:Int),false)
  else
   if(!z1o b)=true then
    ((0:Int),false)
   else
    if(!z1o n)=true then
     ((0:Int),false)
    else
     (n,true)
theorem z29k(a:Int)(b:Int)(n:Int):z1gz a b n=some (zmj (z3o a b n)):=by grind[z29j,z3o,z8]
def zhh:FnC Un:=fnF3 (dI .i64) (dI .i64) (dI .i64) fun a b n=>([],zmj (z3o a b n))
theorem zis:FnOK 233 zhh:=fnK3 z17 z17 z17 (M:=z1pb) rfl ⟨zbf,trivial⟩ trivial trivial trivial trivial Tryz.func233 fun a b n=>GiF.r fun _ _=>z29k a b n
def z1xq:Mc Un:=mcF_ [(211,zc2),(233,zhh)] [] [] [] []
def z1pc(a:Int)(b:Int):Option (RF Un):=fnF_ z1xq z286 Tryz.f202 0 [.d,.d] [.d (.v (.s (.int .i64 a))),.d (.v (.s (.int .i64 b)))]
theorem z2dj(a:Int)(b:Int):z1pc a b=cndO (!z1o a) (some (zmj ((0:Int),false))) (cndO (!z1o b) (some (zmj ((0:Int),false))) (some (zmj ((z3o a b (IntKind.i64.wrap (a+b))).fst,(z3o a b (IntKind.i64.wrap (a+b))).snd)))):=by kernel_rfl
def z11x(a:Int)(b:Int):Int×Bool:=
  if(!z1o a)=true then
   ((0:Int),false)
  else
   if(!z1o b)=true then
    ((0:Int),false)
   else
    ((z3o a b (IntKind.i64.wrap (a+b))).fst,(z3o a b (IntKind.i64.wrap (a+b))).snd)
theorem z2dk(a:Int)(b:Int):z1pc a b=some (zmj (z11x a b)):=by grind[z2dj,z11x,z8]
def z2hf:FnC Un:=fnF2 (dI .i64) (dI .i64) fun a b=>([],zmj (z11x a b))
theorem z2dl:FnOK 202 z2hf:=fnK2 z17 z17 (M:=z1xq) rfl ⟨zbf,zis,trivial⟩ trivial trivial trivial trivial Tryz.func202 fun a b=>GiF.r fun _ _=>z2dk a b
def z1pd(a:Int)(b:Int):Option (RF Un):=fnF_ z1xq z286 Tryz.f201 0 [.d,.d] [.d (.v (.s (.int .i64 a))),.d (.v (.s (.int .i64 b)))]
theorem z2dm(a:Int)(b:Int):z1pd a b=cndO (!z1o a) (some (zmj ((0:Int),false))) (cndO (!z1o b) (some (zmj ((0:Int),false))) (some (zmj ((z3o a b (IntKind.i64.wrap (a- b))).fst,(z3o a b (IntKind.i64.wrap (a- b))).snd)))):=by kernel_rfl
def zhi(a:Int)(b:Int):Int×Bool:=
  if(!z1o a)=true then
   ((0:Int),false)
  else
   if(!z1o b)=true then
    ((0:Int),false)
   else
    ((z3o a b (IntKind.i64.wrap (a- b))).fst,(z3o a b (IntKind.i64.wrap (a- b))).snd)
theorem z2dn(a:Int)(b:Int):z1pd a b=some (zmj (zhi a b)):=by grind[z2dm,zhi,z8]
def z1xs:FnC Un:=fnF2 (dI .i64) (dI .i64) fun a b=>([],zmj (zhi a b))
theorem z1pe:FnOK 201 z1xs:=fnK2 z17 z17 (M:=z1xq) rfl ⟨zbf,zis,trivial⟩ trivial trivial trivial trivial Tryz.func201 fun a b=>GiF.r fun _ _=>z2dn a b
def z1xt:Mc Un:=mcF_ [(201,z1xs)] [] [] [] []
def z1pf(a:Int):Option (RF Un):=fnF_ z1xt z286 Tryz.f159 0 [.d,.d] [.d (.v (.s (.int .i64 a)))]
theorem z2do(a:Int):z1pf a=some (zmj ((zhi (0:Int) a).fst,(zhi (0:Int) a).snd)):=by kernel_rfl
def zd9(a:Int):Int×Bool:=
 ((zhi (0:Int) a).fst,(zhi (0:Int) a).snd)
theorem z2dp(a:Int):z1pf a=some (zmj (zd9 a)):=by simp[z2do,zd9,z8]
def z1at:FnC Un:=fnF1 (dI .i64) fun a=>([],zmj (zd9 a))
theorem z1pg:FnOK 159 z1at:=fnK1 z17 (M:=z1xt) rfl ⟨z1pe,trivial⟩ trivial trivial trivial trivial Tryz.func159 fun a=>GiF.r fun _ _=>z2dp a
def z1ph(a:Int)(b:Int):Option (RF Un):=fnF_ z1xq z286 Tryz.f203 0 [.d,.d] [.d (.v (.s (.int .i64 a))),.d (.v (.s (.int .i64 b)))]
theorem z2dq(a:Int)(b:Int):z1ph a b=cndO (!z1o a) (some (zmj ((0:Int),false))) (cndO (!z1o b) (some (zmj ((0:Int),false))) (cndO (a==0) (some (zmj ((0:Int),true))) (cndO (b==0) (some (zmj ((0:Int),true))) (obO (¬List.foldl (fun a b=>if a<b then b else a) b [IntKind.i64.wrap ((0:Int)- b)]=0) (cndO (decide (List.foldl (fun a b=>if a<b then b else a) a [IntKind.i64.wrap ((0:Int)- a)]>IntKind.i64.wrap (Int.tdiv (1000000000000000:Int) (List.foldl (fun a b=>if a<b then b else a) b [IntKind.i64.wrap ((0:Int)- b)])))) (some (zmj ((0:Int),false))) (some (zmj ((z3o a b (IntKind.i64.wrap (a*b))).fst,(z3o a b (IntKind.i64.wrap (a*b))).snd)))))))):=by kernel_rfl
def mxI(a:Int):Int:=List.foldl (fun a b=>if a<b then b else a) a [IntKind.i64.wrap ((0:Int)- a)]
def z11y(a b:Int):Int×Bool:=
 if z1o a=true then(if z1o b=true then(if a=0 then(0,true)else if b=0 then(0,true)else if mxI a>IntKind.i64.wrap (Int.tdiv 1000000000000000 (mxI b))then(0,false)else z3o a b (IntKind.i64.wrap (a*b)))else(0,false))else(0,false)
theorem z2n9(n:Int):inN n=true↔-1000000000000000≤n∧n≤1000000000000000:=by unfold inN;simp
theorem z251(a b:Int)(_ha:WI a)(_hb:WI b):z1ph a b=some (zmj (z11y a b)):=by
 rw[z2dq];unfold z11y;simp only[z8,y1y,beq_iff_eq,decide_eq_true_eq];by_cases h1:z1o a=true
 ·by_cases h2:z1o b=true
  ·rw[if_neg (by grind),if_neg (by grind),if_pos h1,if_pos h2];by_cases h3:a=0
   ·grind
   ·by_cases h4:b=0
    ·grind
    ·have hb:=h2;rw[zze,z2n9]at hb;have hm:mxI b≠0:=by
      unfold mxI;simp;rw[z1f (by omega)];split<;>omega
     rw[if_neg h3,if_neg h4,if_neg h3,if_neg h4];refine(z6 hm).trans ?_;show(if mxI a>IntKind.i64.wrap (Int.tdiv 1000000000000000 (mxI b))then _ else _)=_;grind
  grind
 grind
def z2hj:FnC Un:=fnF2 (dI .i64) (dI .i64) fun a b=>([],zmj (z11y a b))
theorem z2dr:FnOK 203 z2hj:=fnK2 z17 z17 (M:=z1xq) rfl ⟨zbf,zis,trivial⟩ trivial trivial trivial trivial Tryz.func203 fun a b=>GiF.r fun w _=>z251 a b (wfA_ w 0) (wfA_ w 1)
def z1pi(a:Int)(b:Int):Option (RF Un):=fnF_ z1xq z286 Tryz.f204 0 [.d,.d] [.d (.v (.s (.int .i64 a))),.d (.v (.s (.int .i64 b)))]
theorem z2ds(a:Int)(b:Int):z1pi a b=cndO (!z1o a) (some (zmj ((0:Int),false))) (cndO (!z1o b) (some (zmj ((0:Int),false))) (cndO (b==0) (some (zmj ((0:Int),false))) (obO (¬b=0) (some (zmj ((z3o a b (IntKind.i64.wrap (a.tdiv b))).fst,(z3o a b (IntKind.i64.wrap (a.tdiv b))).snd)))))):=by kernel_rfl
def z11z(a b:Int):Int×Bool:=
 if z1o a=true then(if z1o b=true then(if b=0 then(0,false)else z3o a b (IntKind.i64.wrap (a.tdiv b)))else(0,false))else(0,false)
theorem z252(a b:Int)(_ha:WI a)(_hb:WI b):z1pi a b=some (zmj (z11z a b)):=by
 rw[z2ds];unfold z11z;simp only[z8,y1y,beq_iff_eq];by_cases h1:z1o a=true
 ·by_cases h2:z1o b=true
  ·by_cases h3:b=0
   all_goals simp_all[if_neg,if_pos,z6]
  grind
 grind
def z2hl:FnC Un:=fnF2 (dI .i64) (dI .i64) fun a b=>([],zmj (z11z a b))
theorem z2dt:FnOK 204 z2hl:=fnK2 z17 z17 (M:=z1xq) rfl ⟨zbf,zis,trivial⟩ trivial trivial trivial trivial Tryz.func204 fun a b=>GiF.r fun w _=>z252 a b (wfA_ w 0) (wfA_ w 1)
def z1pj(a:Int)(b:Int):Option (RF Un):=fnF_ z1xq z286 Tryz.f205 0 [.d,.d] [.d (.v (.s (.int .i64 a))),.d (.v (.s (.int .i64 b)))]
theorem z2du(a:Int)(b:Int):z1pj a b=cndO (!z1o a) (some (zmj ((0:Int),false))) (cndO (!z1o b) (some (zmj ((0:Int),false))) (cndO (b==0) (some (zmj ((0:Int),false))) (obO (¬b=0) (some (zmj ((z3o a b (a.tmod b)).fst,(z3o a b (a.tmod b)).snd)))))):=by kernel_rfl
def z120(a b:Int):Int×Bool:=
 if z1o a=true then(if z1o b=true then(if b=0 then(0,false)else z3o a b (a.tmod b))else(0,false))else(0,false)
theorem z253(a b:Int)(_ha:WI a)(_hb:WI b):z1pj a b=some (zmj (z120 a b)):=by
 rw[z2du];unfold z120;simp only[z8,y1y,beq_iff_eq];by_cases h1:z1o a=true
 ·by_cases h2:z1o b=true
  ·by_cases h3:b=0
   all_goals simp_all[if_neg,if_pos,z6]
  grind
 grind
def z2hn:FnC Un:=fnF2 (dI .i64) (dI .i64) fun a b=>([],zmj (z120 a b))
theorem z2dv:FnOK 205 z2hn:=fnK2 z17 z17 (M:=z1xq) rfl ⟨zbf,zis,trivial⟩ trivial trivial trivial trivial Tryz.func205 fun a b=>GiF.r fun w _=>z253 a b (wfA_ w 0) (wfA_ w 1)
end
end Go.Proofs.YtjfpbchdcbhfgaaGreat.B
namespace Go.Proofs.YtjfpbchdcbhfgaaGreat.B
open Go Go.RowKit
set_option maxRecDepth 100000
noncomputable section
attribute [local irreducible] awp ctxK zw z1a retQ z1m awf ctxF z1l
def z1xx(a:Int):Option (RF Un):=fnF_ z1f6 z286 Tryz.f232 0 [.d] [.d (.v (.s (.int .i64 a)))]
theorem z2ho(a:Int):z1xx a=cndO (a==0) (some (z9b (true))) (cndO (a==1) (some (z9b (true))) (some (z9b (a==2)))):=by kernel_rfl
def z1au(a:Int):Bool:=
  if(a==(0:Int))=true then
   (true)
  else
   if(a==(1:Int))=true then
    (true)
   else
    (a==(2:Int))
theorem z2hp(a:Int):z1xx a=some (z9b (z1au a)):=by rw[z2ho];unfold z1au;simp only[z8];repeat(first|rfl|split)
def z255:FnC Un:=fnF1 (dI .i64) fun a=>([],z9b (z1au a))
theorem z2hq:FnOK 232 z255:=fnK1 z17 (M:=z1f6) rfl trivial trivial trivial trivial trivial Tryz.func232 fun a=>GiF.r fun _ _=>z2hp a
def z1xy:Mc Un:=mcF_ [(232,z255)] [] [] [] []
def z1pk(a:Int):Option (RF Un):=fnF_ z1xy z286 Tryz.f198 0 [.d] [.d (.v (.s (.int .i64 a)))]
theorem z2dw(a:Int):z1pk a=cndO (z1au a) (some (z2c (a))) (some (z2c ((1:Int)))):=by kernel_rfl
def z65(a:Int):Int:=
  if(z1au a)=true then
   (a)
  else
   ((1:Int))
theorem z2dx(a:Int):z1pk a=some (z2c (z65 a)):=by rw[z2dw];unfold z65;simp only[z8];repeat(first|rfl|split)
def zgi:FnC Un:=fnF1 (dI .i64) fun a=>([],z2c (z65 a))
theorem zu6:FnOK 198 zgi:=fnK1 z17 (M:=z1xy) rfl ⟨z2hq,trivial⟩ trivial trivial trivial trivial Tryz.func198 fun a=>GiF.r fun _ _=>z2dx a
def z1xz(b:Bool):Option (RF Un):=fnF_ z1f6 z286 Tryz.f154 0 [.d] [.d (.v (cb b))]
theorem z2hs(b:Bool):z1xz b=cndO (b) (some (z2c ((2:Int)))) (some (z2c ((0:Int)))):=by kernel_rfl
def zrt(b:Bool):Int:=
  if(b)=true then
   ((2:Int))
  else
   ((0:Int))
theorem z2ht(b:Bool):z1xz b=some (z2c (zrt b)):=by rw[z2hs];unfold zrt;simp only[z8];repeat(first|rfl|split)
def z1k9:FnC Un:=fnF1 dB fun b=>([],z2c (zrt b))
theorem z1y0:FnOK 154 z1k9:=fnK1 z1d7 (M:=z1f6) rfl trivial trivial trivial trivial trivial Tryz.func154 fun b=>GiF.r fun _ _=>z2ht b
def z1y1:Mc Un:=mcF_ [(198,zgi)] [] [] [] []
def z1pl(a:Int):Option (RF Un):=fnF_ z1y1 z286 Tryz.f160 0 [.d] [.d (.v (.s (.int .i64 a)))]
theorem z2dy(a:Int):z1pl a=some (z2c (IntKind.i64.wrap ((2:Int)- z65 a))):=by kernel_rfl
def z121(a:Int):Int:=
 (IntKind.i64.wrap ((2:Int)- z65 a))
theorem z2dz(a:Int):z1pl a=some (z2c (z121 a)):=by rw[z2dy];unfold z121;simp only[z8];repeat(first|rfl|split)
def z1y2:FnC Un:=fnF1 (dI .i64) fun a=>([],z2c (z121 a))
theorem z2e0:FnOK 160 z1y2:=fnK1 z17 (M:=z1y1) rfl ⟨zu6,trivial⟩ trivial trivial trivial trivial Tryz.func160 fun a=>GiF.r fun _ _=>z2dz a
def z1pm(a:Int)(b:Int):Option (RF Un):=fnF_ z1y1 z286 Tryz.f166 0 [.d] [.d (.v (.s (.int .i64 a))),.d (.v (.s (.int .i64 b)))]
theorem z2e1(a:Int)(b:Int):z1pm a b=some (z1ar (List.foldl (fun a b=>if b<a then b else a) (z65 a) [z65 b])):=by kernel_rfl
def zl4(a:Int)(b:Int):Int:=
 (List.foldl (fun a b=>if b<a then b else a) (z65 a) [z65 b])
theorem z2e2(a:Int)(b:Int):z1pm a b=some (z1ar (zl4 a b)):=by rw[z2e1];unfold zl4;simp only[z8];repeat(first|rfl|split)
def zxz:FnC Un:=fun args=>match args with
 |[x0,x1]=>(dI .i64 x0).bind fun a=>(dI .i64 x1).bind fun b=>some ([],zas (zl4 a b),zat (zl4 a b))
 |_=>none
theorem z2e3:FnOK 166 zxz:=by
 intro args ob rs os h hob;unfold zxz at h;split at h
 ·simp only[y7,y8,ym]at h;obtain⟨a,e0,b,e1,rfl,rfl,rfl⟩:=h;obtain rfl:=z17 e0;obtain rfl:=z17 e1;exact⟨z2d (M:=z1y1) rfl (z4o (l1:=[(198,zgi)]) (l2:=[]) (l3:=[]) (l4:=[]) (l5:=[]) ⟨zu6,trivial⟩ trivial trivial trivial trivial) Tryz.func166 (by kernel_rfl) z286 0 [.d] (fun hwf=>(z2e2 a b)),zk Tryz.func166 (by kernel_rfl) (by kernel_rfl)⟩
 ·simp at h
def z1y8(a:Int)(b:Int):Option (RF Un):=fnF_ z1y1 z286 Tryz.f153 0 [.d] [.d (.v (.s (.int .i64 a))),.d (.v (.s (.int .i64 b)))]
theorem z2hv(a:Int)(b:Int):z1y8 a b=some (z1ar (List.foldl (fun a b=>if a<b then b else a) (z65 a) [z65 b])):=by kernel_rfl
def z91(a:Int)(b:Int):Int:=
 (List.foldl (fun a b=>if a<b then b else a) (z65 a) [z65 b])
theorem z2hw(a:Int)(b:Int):z1y8 a b=some (z1ar (z91 a b)):=by rw[z2hv];unfold z91;simp only[z8];repeat(first|rfl|split)
def zol:FnC Un:=fun args=>match args with
 |[x0,x1]=>(dI .i64 x0).bind fun a=>(dI .i64 x1).bind fun b=>some ([],zas (z91 a b),zat (z91 a b))
 |_=>none
theorem z1aw:FnOK 153 zol:=by
 intro args ob rs os h hob;unfold zol at h;split at h
 ·simp only[y7,y8,ym]at h;obtain⟨a,e0,b,e1,rfl,rfl,rfl⟩:=h;obtain rfl:=z17 e0;obtain rfl:=z17 e1;exact⟨z2d (M:=z1y1) rfl (z4o (l1:=[(198,zgi)]) (l2:=[]) (l3:=[]) (l4:=[]) (l5:=[]) ⟨zu6,trivial⟩ trivial trivial trivial trivial) Tryz.func153 (by kernel_rfl) z286 0 [.d] (fun hwf=>(z2hw a b)),zk Tryz.func153 (by kernel_rfl) (by kernel_rfl)⟩
 ·simp at h
def z77:FV Un:=z1i (fun a b=>zl4 a b)
theorem z29l:FvOK 166 z77:=by
 refine⟨zk Tryz.func166 (by kernel_rfl) (by kernel_rfl),fun args ob rs h hob=>?_⟩;unfold z77 z1i at h;split at h
 ·simp only[y7,y8,ym]at h;obtain⟨a,e0,b,e1,rfl,rfl⟩:=h;simp only[yy,y1o];rw[z17 e0];rw[z17 e1];refine Contract.data (z2e3 _ ([]) _ _ (?_:zxz _=some _) (by simp)).1;unfold zxz;simp only[z21q];rfl
 ·simp at h
def ze3:FV Un:=z1i (fun a b=>z91 a b)
theorem z2e4:FvOK 153 ze3:=by
 refine⟨zk Tryz.func153 (by kernel_rfl) (by kernel_rfl),fun args ob rs h hob=>?_⟩;unfold ze3 z1i at h;split at h
 ·simp only[y7,y8,ym]at h;obtain⟨a,e0,b,e1,rfl,rfl⟩:=h;simp only[yy,y1o];rw[z17 e0];rw[z17 e1];refine Contract.data (z1aw _ ([]) _ _ (?_:zol _=some _) (by simp)).1;unfold zol;simp only[z21q];rfl
 ·simp at h
def z1ax(a:Int):Option (RF Un):=fnF_ z1y1 z286 Tryz.f155 0 [.d] [.d (.v (.s (.int .i64 a)))]
theorem z25c(a:Int):z1ax a=cndO (z65 a==0) (some (zzd ({kind:=(1:Int),n:=(0:Int),s:=(ByteArray.mk #[])}))) (cndO (z65 a==2) (some (zzd ({kind:=(1:Int),n:=(1:Int),s:=(ByteArray.mk #[])}))) (some (zzd (z7)))):=by kernel_rfl
def z66(a:Int):Val:=
  if(z65 a==(0:Int))=true then
   ({kind:=(1:Int),n:=(0:Int),s:=(ByteArray.mk #[])})
  else
   if(z65 a==(2:Int))=true then
    ({kind:=(1:Int),n:=(1:Int),s:=(ByteArray.mk #[])})
   else
    (z7)
theorem z25d(a:Int):z1ax a=some (zzd (z66 a)):=by rw[z25c];unfold z66;simp only[z8];repeat(first|rfl|split)
def zf5:FnC Un:=fnF1 (dI .i64) fun a=>([],zzd (z66 a))
theorem zna:FnOK 155 zf5:=fnK1 z17 (M:=z1y1) rfl ⟨zu6,trivial⟩ trivial trivial trivial trivial Tryz.func155 fun a=>GiF.r fun _ _=>z25d a
def z1pn:Mc Un:=mcF_ [(154,z1k9)] [] [] [] []
def z1h1(v:Val):Option (RF Un):=fnF_ z1pn z286 Tryz.f161 0 [.d] [.d (.agg (enc Ty.val v))]
theorem z29n(v:Val):z1h1 v=cndO (v.kind !=1) (some (z2c ((1:Int)))) (some (z2c (zrt (v.n !=0)))):=by kernel_rfl
def z2k(v:Val):Int:=
  if(v.kind !=(1:Int))=true then
   ((1:Int))
  else
   (zrt (v.n !=(0:Int)))
theorem z29o(v:Val):z1h1 v=some (z2c (z2k v)):=by rw[z29n];unfold z2k;simp only[z8];repeat(first|rfl|split)
def ze4:FnC Un:=fnF1 (dS .val) fun v=>([],z2c (z2k v))
theorem ziu:FnOK 161 ze4:=fnK1 zt (M:=z1pn) rfl ⟨z1y0,trivial⟩ trivial trivial trivial trivial Tryz.func161 fun v=>GiF.r fun _ _=>z29o v
def zy0:Mc Un:=mcF_ [(153,zol)] [] [] [] []
def z1az:Nat→NS:=nsF_ [(3,{ts:=bl 17 456,bs:=bl 17 0,nm:=[]})] false
def zhj(l:List Int)(v0:Int)(v1:Int):S Un:=(st 17 17 68 0 [(3,ai v0),(6,al .int l),(7,ai (↑l.length:Int)),(8,ai v1)] [] [])
def zu8:S Un→Option (EX Un):=lpF_ zy0 z1az Tryz.f208 [1,1,0,1,2,2] 3
def z1po:Exit→S Un→Option (RF Un):=cxF_ zy0 z1az Tryz.f208 [1,1,0,1,2] [.d]
def z1pp(l:List Int):Option (RF Un):=fnF_ zy0 z1az Tryz.f208 0 [.d] [.d (.v (.dat (U:=Un) Ty.int l))]
theorem z2e6(l:List Int):z1pp l=(zu8 (zhj l (0:Int) (0:Int))).bind (zd z1po):=by kernel_rfl
theorem z1pq(l:List Int)(v0:Int)(v1:Int):zu8 (zhj l v0 v1)=cndO (decide (v1<(↑l.length:Int))) (obO (0≤v1∧v1<(↑l.length:Int)) (zu8 (zhj l (z91 v0 (l.getD v1.toNat (0:Int))) (IntKind.i64.wrap (v1+1))))) (some (.exit 0,(zhj l v0 v1))):=lpQ_ (by kernel_rfl)
theorem z20i(l:List Int)(v0:Int)(v1:Int):z1po (.exit 0) (zhj l v0 v1)=some (z2c (v0)):=by kernel_rfl
def z1dk(l:List Int):Int:=l.foldl (fun m a=>z91 m a) 0
theorem z25e(l:List Int)(hl:WL .int l):z1pp l=some (z2c (z1dk l)):=by
 obtain⟨lp,_⟩:=z1j (e:=.exit 0) (L:=zu8) (st:=fun(m:Int) i=>zhj l m i) (l:=l) (d:=0) (g:=fun m a=>z91 m a) (fun _ _=>True) hl.len
  (fun m i x hi hx _=>by
   refine⟨trivial,?_⟩;rw[z1pq];simp only[z8,hi,decide_true,if_true,and_true,y5,hx]
   rw[z6 (by omega)])
  (fun m _=>by rw[z1pq];simp[z8]) 0 trivial
 rw[z2e6,zj lp,z20i];rfl
def z1y9:FnC Un:=fnF1 (dL .int) fun l=>([],z2c (z1dk l))
theorem z2e7:FnOK 208 z1y9:=fnK1 zr (M:=zy0) rfl ⟨z1aw,trivial⟩ trivial trivial trivial trivial Tryz.func208 fun l=>GiF.r fun w _=>z25e l (wfA_ w 0)
end
end Go.Proofs.YtjfpbchdcbhfgaaGreat.B
namespace Go.Proofs.YtjfpbchdcbhfgaaGreat.B
open Go Go.RowKit
set_option maxRecDepth 100000
noncomputable section
attribute [local irreducible] awp ctxK zw z1a retQ z1m awf ctxF z1l
noncomputable def deq{α:Type}(a b:α):Bool:=@decide (a=b) (Classical.propDecidable _)
theorem deq_iff{α:Type}{a b:α}:deq a b=true↔a=b:=by unfold deq;exact@decide_eq_true_iff _ (Classical.propDecidable _)
theorem z1pr{α:Type}{a b:α}{x:Bool}(h:x=true↔a=b):x=deq a b:=by
 rw[y27,h,deq_iff]
theorem z2kq{α β:Type}{L:S Un→Option (EX Un)}{st:Int→S Un}{C:Exit→S Un→Option β}(R:Bool→Option β){a b:List α}{d:α}{e:Exit}(hl:a.length≤9223372036854775807)
  (step:∀i:Nat,i<a.length→i<b.length→L (st i)=if deq (a.getD i d) (b.getD i d)=true then L (st (IntKind.i64.wrap ((i:Int)+1)))else some (.ret,st i))
  (stop:∀i:Nat,¬(i<a.length∧i<b.length)→L (st i)=some (e,st i))(cr:∀i:Nat,C .ret (st i)=R false)(ce:∀i:Nat,C e (st i)=R ((a.length:Int)==(b.length:Int))):(L (st (0:Int))).bind (zd C)=R (deq a b):=by
 have key:∀(k i:Nat),i+k=a.length→i≤b.length→(L (st i)).bind (zd C)=R (deq (a.drop i) (b.drop i)):=by
  intro k
  induction k with
  |zero=>
   intro i hi hb;obtain rfl:i=a.length:=by omega
   rw[zj (stop _ (by omega)),ce];congr 1;refine z1pr ?_;rw[y3c,beq_iff_eq];constructor
   ·intro h;rw[y4w (by omega)]
   ·intro h;have:=congrArg List.length h;rw[yr,y1r]at this;omega
  |succ k ih=>
   intro i hi hb;have h1:i<a.length:=by omega
   by_cases h2:i<b.length
   ·have ga:a.getD i d=a[i]:=by rw[yd,ya h1];rfl
    have gb:b.getD i d=b[i]:=by rw[yd,ya h2];rfl
    have hs:=step i h1 h2;rw[ga,gb]at hs;rw[y1l h1,y1l h2];by_cases hq:deq a[i] b[i]=true
    ·rw[if_pos hq,z3g h1 hl]at hs;rw[hs,ih (i+1) (by omega) (by omega)];rw[deq_iff]at hq;congr 1;refine z1pr ?_;rw[deq_iff,hq];exact⟨fun h=>by rw[h],fun h=>(y3o h).2⟩
    ·rw[if_neg hq]at hs;rw[zj hs,cr];congr 1;refine z1pr ?_;rw[deq_iff]at hq;exact⟨fun h=>absurd h (by decide),fun h=>absurd (y3o h).1 hq⟩
   ·rw[zj (stop _ (by omega)),ce];congr 1;refine z1pr ?_;rw[beq_iff_eq];constructor
    ·intro h;omega
    ·intro h;have:=congrArg List.length h;rw[yr,yr]at this;omega
 exact key a.length 0 (by omega) (by omega)
theorem z2na(x y:List Val):(zbh x y !=0)=!deq x y:=by
 rw[y27,bne_iff_ne,y1y,←Bool.not_eq_true,deq_iff,z1zg,ne_eq,ordR_zero]
end
end Go.Proofs.YtjfpbchdcbhfgaaGreat.B
namespace Go.Proofs
open Go.Shelf
def Tryz.lays106_ren:Go.Shelf.Ren:=⟨fun|106=>194|213=>229|265=>245|n=>n,fun|9=>9|3=>3|n=>n,fun|n=>n⟩
theorem Tryz.lays106:Go.Proofs.Lays.n106 Tryz.prog Tryz.lays106_ren:={
  mixed:=by kernel_rfl
  f106:=Tryz.func194.trans (congrArg some (by kernel_rfl))
  f213:=Tryz.func229.trans (congrArg some (by kernel_rfl))
  f265:=Tryz.func245.trans (congrArg some (by kernel_rfl))
  t3:=Tryz.underlying3
  a3:=Tryz.isAgg3
  z3:=Tryz.sizeOf3
  v3:=Tryz.zeroValue3
  t9:=Tryz.underlying9
  a9:=Tryz.isAgg9
  z9:=Tryz.sizeOf9
  v9:=Tryz.zeroValue9}
open Go.RowKit in
theorem Tryz.strings_Compare(a b:ByteArray)(w:World):
  Calls Tryz.prog 194 #[.string a,.string b] w fun e w'=>e=.returned (.int .i64 (Lib.compareBytes a.data.toList b.data.toList))∧w'=w:=Any.strings_Compare Tryz.lays106 a b w
def Tryz.lays137_ren:Go.Shelf.Ren:=⟨fun|137=>235|217=>246|266=>251|n=>n,fun|9=>9|5=>5|3=>3|n=>n,fun|n=>n⟩
theorem Tryz.lays137:Go.Proofs.Lays.n137 Tryz.prog Tryz.lays137_ren:={
  mixed:=by kernel_rfl
  f137:=Tryz.func235.trans (congrArg some (by kernel_rfl))
  f217:=Tryz.func246.trans (congrArg some (by kernel_rfl))
  f266:=Tryz.func251.trans (congrArg some (by kernel_rfl))
  t3:=Tryz.underlying3
  a3:=Tryz.isAgg3
  z3:=Tryz.sizeOf3
  v3:=Tryz.zeroValue3
  t5:=Tryz.underlying5
  a5:=Tryz.isAgg5
  z5:=Tryz.sizeOf5
  v5:=Tryz.zeroValue5
  t9:=Tryz.underlying9
  a9:=Tryz.isAgg9
  z9:=Tryz.sizeOf9
  v9:=Tryz.zeroValue9}
open Go.RowKit in
theorem Tryz.strings_IndexByte(s:ByteArray)(c:Int)(w:World):
  Calls Tryz.prog 235 #[.string s,.int .u8 c] w fun e w'=>e=.returned (.int .i64 (Lib.indexByte s.data.toList c.toNat.toUInt8))∧w'=w:=Any.strings_IndexByte Tryz.lays137 s c w
def Tryz.laysGw15_ren:Go.Shelf.Ren:=⟨fun|15=>247|20=>252|n=>n,fun|9=>9|23=>221|3=>3|4=>4|0=>0|21=>21|n=>n,fun|n=>n⟩
theorem Tryz.laysGw15:Go.Proofs.LaysGw.n15 Tryz.prog Tryz.laysGw15_ren:={
  mixed:=by kernel_rfl
  f15:=Tryz.func247.trans (congrArg some (by kernel_rfl))
  f20:=Tryz.func252.trans (congrArg some (by kernel_rfl))
  t0:=Tryz.underlying0
  a0:=Tryz.isAgg0
  z0:=Tryz.sizeOf0
  v0:=Tryz.zeroValue0
  i0:=by kernel_rfl
  t3:=Tryz.underlying3
  a3:=Tryz.isAgg3
  z3:=Tryz.sizeOf3
  v3:=Tryz.zeroValue3
  i3:=by kernel_rfl
  t4:=Tryz.underlying4
  a4:=Tryz.isAgg4
  z4:=Tryz.sizeOf4
  v4:=Tryz.zeroValue4
  i4:=by kernel_rfl
  t9:=Tryz.underlying9
  a9:=Tryz.isAgg9
  z9:=Tryz.sizeOf9
  v9:=Tryz.zeroValue9
  i9:=by kernel_rfl
  t21:=Tryz.underlying21
  a21:=Tryz.isAgg21
  z21:=Tryz.sizeOf21
  v21:=Tryz.zeroValue21
  i21:=by kernel_rfl
  t23:=Tryz.underlying221
  a23:=Tryz.isAgg221
  z23:=Tryz.sizeOf221
  v23:=Tryz.zeroValue221
  i23:=by kernel_rfl}
open Go.RowKit Go.Lib in
theorem Tryz.strings_IndexFunc(g:Nat)(lb:Array Value)(eg:∀args w,(callFunc g args).run Tryz.prog w=.ok (.enter g args) w)(p:Nat→Bool)(s:ByteArray)(w:World)(hp:PredAt Tryz.prog g lb encR p w):
  Calls Tryz.prog 247 #[.string s,.func (.func g) #[] lb] w fun e w'=>e=.returned (.int .i64 (Lib.idxFunc p true s))∧Below w.heap.size w w':=Any.strings_IndexFunc Tryz.laysGw15 g lb eg p s w hp
def Tryz.lays107_ren:Go.Shelf.Ren:=⟨fun|107=>206|108=>234|n=>n,fun|28=>42|3=>3|4=>4|0=>0|n=>n,fun|n=>n⟩
theorem Tryz.lays107:Go.Proofs.Lays.n107 Tryz.prog Tryz.lays107_ren:={
  mixed:=by kernel_rfl
  f107:=Tryz.func206.trans (congrArg some (by kernel_rfl))
  f108:=Tryz.func234.trans (congrArg some (by kernel_rfl))
  t0:=Tryz.underlying0
  a0:=Tryz.isAgg0
  z0:=Tryz.sizeOf0
  v0:=Tryz.zeroValue0
  t3:=Tryz.underlying3
  a3:=Tryz.isAgg3
  z3:=Tryz.sizeOf3
  v3:=Tryz.zeroValue3
  t4:=Tryz.underlying4
  a4:=Tryz.isAgg4
  z4:=Tryz.sizeOf4
  v4:=Tryz.zeroValue4
  t28:=Tryz.underlying42
  a28:=Tryz.isAgg42
  z28:=Tryz.sizeOf42
  v28:=Tryz.zeroValue42}
open Go.Lib in
theorem Tryz.slices_Contains_int(b off n c:Nat)(zs:List Int)(x:Int)(w:World)(hz:n≤zs.length)(hbig:n≤9223372036854775807)(hc:∀j,j<zs.length→w.cell? ⟨b,off+j,none⟩=some (.int .i64 (zs.getD j 0))):
  Calls Tryz.prog 206 #[.slice (some ⟨b,off,none⟩) n c,.int .i64 x] w fun e w'=>e=.returned (.bool ((zs.take n).contains x))∧w'=w:=Any.slices_Contains_int Tryz.lays107 b off n c zs x w hz hbig hc
end Go.Proofs
namespace Go.Proofs.YtjfpbchdcbhfgaaGreat.B
open Go Go.RowKit
set_option maxRecDepth 1000000
def idxB(s:ByteArray)(c:Int):Int:=Lib.indexByte s.data.toList c.toNat.toUInt8
theorem z1b0:∀(l:List UInt8)(c:UInt8),Lib.indexByte l c≤l.length
 |[],_=>by simp[Lib.indexByte]
 |b::l,c=>by
  have:=z1b0 l c;unfold Lib.indexByte;rw[yt]
  repeat' split
  all_goals omega
theorem z2e8(s:ByteArray)(c:Int): -1≤idxB s c∧idxB s c≤s.size:=by
 unfold idxB;have h1:=Lib.indexByte_ge s.data.toList c.toNat.toUInt8;have h2:=z1b0 s.data.toList c.toNat.toUInt8;rw[y1n]at h2;exact⟨h1,h2⟩
def zfb:FnC Un:=fun args=>match args with
 |[x0,x1]=>(dStr x0).bind fun s=>(dI .u8 x1).bind fun c=>some ([],[.c (.s (.int .i64 (idxB s c)))],[])
 |_=>none
theorem z14u:FnOK 235 zfb:=by
 intro args ob rs os h hob;unfold zfb at h;split at h
 ·rename_i x0 x1;simp only[y7,y8,ym]at h;obtain⟨s,e0,c,e1,rfl,rfl,rfl⟩:=h;obtain rfl:=z3y e0;obtain rfl:=z17 e1;refine⟨?_,zk Tryz.func235 (by kernel_rfl) (by kernel_rfl)⟩;have hx:=z2e8 s c;by_cases hr:s.size≤9223372036854775807
  ·refine zxt (oneC_i64.2 (by omega)) fun w vs St hvs=>?_
   match vs,hvs with
   |[v0,v1],⟨h0,h1,_⟩=>
    obtain⟨rfl,-⟩:=zw2 h0;obtain⟨rfl,-⟩:=zw3 h1;exact Tryz.strings_IndexByte s c w
  ·intro w St vs hbd hvs hld
   match vs,hvs with
   |[v0,v1],⟨h0,h1,_⟩=>
    obtain⟨rfl,g0⟩:=zw2 h0;exact absurd g0 hr
 ·simp at h
end Go.Proofs.YtjfpbchdcbhfgaaGreat.B
namespace Go.Proofs.YtjfpbchdcbhfgaaGreat.B
open Go Go.RowKit
set_option maxRecDepth 100000
noncomputable section
attribute [local irreducible] awp ctxK zw z1a retQ z1m awf ctxF z1l
def znb:Mc Un:=mcF_ [(235,zfb)] [] [] [] []
def zw8(r:List Sign):RF Un:=([.c (.ob 0 0)],[⟨0,Ty.sign,r,none,true⟩])
def zw9:Nat→NS:=nsF_ [(3,{ts:=bl 66 25,bs:=bl 66 0,nm:=[(.sl 3,264)]})] false
def z2l(p:ByteArray)(v0:Int)(v1:List Sign):S Un:=(st 66 66 265 0 [(0,at_ p),(3,ao 264),(4,ai v0)] [] [(264,some ⟨(0:Nat),Ty.sign,v1,some (0:Nat),true⟩)])
def z5w:S Un→Option (EX Un):=lpF_ znb zw9 Tryz.f207 [1,1,0,1,2,2] 3
def z16m:Exit→S Un→Option (RF Un):=cxF_ znb zw9 Tryz.f207 [1,1,0,1,2] [.o]
def z16n(p:ByteArray):Option (RF Un):=fnF_ znb zw9 Tryz.f207 1 [.o] [.d (.v (cs p))]
theorem z20j(p:ByteArray):z16n p=(z5w (z2l p (0:Int) ([]))).bind (zd z16m):=by kernel_rfl
def zen(p:ByteArray)(v0:Int)(v1:List Sign):Option (EX Un):=obO (0≤v0∧v0<(↑p.size:Int)) (obO ((v1.length+([{kind:=(0:Int),b:=(↑(p.toList.getD v0.toNat 0).toNat:Int)}]:List Sign).length)*(16:Nat)≤ze) (z5w (z2l p (IntKind.i64.wrap (v0+1)) (v1++[{kind:=(0:Int),b:=(↑(p.toList.getD v0.toNat 0).toNat:Int)}]))))
theorem z16o(p:ByteArray)(v0:Int)(v1:List Sign):z5w (z2l p v0 v1)=cndO (decide (v0<(↑p.size:Int))) (obO (0≤v0∧v0<(↑p.size:Int)) (cndO ((↑(p.toList.getD v0.toNat 0).toNat:Int)==(37:Int)) (obO ((v1.length+([{kind:=(2:Int),b:=(0:Int)}]:List Sign).length)*(16:Nat)≤ze) (z5w (z2l p (IntKind.i64.wrap (v0+1)) (v1++[{kind:=(2:Int),b:=(0:Int)}])))) (obO (0≤v0∧v0<(↑p.size:Int)) (cndO ((↑(p.toList.getD v0.toNat 0).toNat:Int)==(95:Int)) (obO ((v1.length+([{kind:=(1:Int),b:=(0:Int)}]:List Sign).length)*(16:Nat)≤ze) (z5w (z2l p (IntKind.i64.wrap (v0+1)) (v1++[{kind:=(1:Int),b:=(0:Int)}])))) (obO (0≤v0∧v0<(↑p.size:Int)) (cndO ((↑(p.toList.getD v0.toNat 0).toNat:Int)==(92:Int)) (cndO (decide (IntKind.i64.wrap (v0+1)<(↑p.size:Int))) (obO (0≤IntKind.i64.wrap (v0+1)∧IntKind.i64.wrap (v0+1)<(↑p.size:Int)) (cndO (decide (idxB (ByteArray.mk #[37,95,92]) (↑(p.toList.getD (IntKind.i64.wrap (v0+1)).toNat 0).toNat:Int)≥(0:Int))) (obO (0≤IntKind.i64.wrap (v0+1)∧IntKind.i64.wrap (v0+1)<(↑p.size:Int)) (obO ((v1.length+([{kind:=(0:Int),b:=(↑(p.toList.getD (IntKind.i64.wrap (v0+1)).toNat 0).toNat:Int)}]:List Sign).length)*(16:Nat)≤ze) (z5w (z2l p (IntKind.i64.wrap (IntKind.i64.wrap (v0+1)+1)) (v1++[{kind:=(0:Int),b:=(↑(p.toList.getD (IntKind.i64.wrap (v0+1)).toNat 0).toNat:Int)}]))))) (zen p v0 v1))) (zen p v0 v1)) (zen p v0 v1))))))) (some (.exit 0,(z2l p v0 v1))):=lpQ_ (by kernel_rfl)
theorem z1ka(p:ByteArray)(v0:Int)(v1:List Sign):z16m (.exit 0) (z2l p v0 v1)=some (zw8 (v1)):=by kernel_rfl
def escB(d:UInt8):Bool:=decide (idxB (ByteArray.mk #[37,95,92]) (d.toNat:Int)≥0)
def zai:List UInt8→List Sign
 |[]=>[]
 |[c]=>if(c.toNat:Int)=37 then[⟨2,0⟩]else if(c.toNat:Int)=95 then[⟨1,0⟩]else[⟨0,(c.toNat:Int)⟩]
 |c::d::r=>if(c.toNat:Int)=37 then⟨2,0⟩::zai (d::r)else if(c.toNat:Int)=95 then⟨1,0⟩::zai (d::r)else if(c.toNat:Int)=92∧escB d=true then⟨0,(d.toNat:Int)⟩::zai r else⟨0,(c.toNat:Int)⟩::zai (d::r)
def z1e(p:ByteArray):List Sign:=zai p.toList
theorem z14v:∀(n:Nat)(l:List UInt8),l.length≤n→(zai l).length≤l.length
 |_,[],_=>y6 _
 |_,[c],_=>by
  grind[zai]
 |n+1,c::d::r,h=>by
  simp at h;have h1:=z14v n (d::r) (by grind);have h2:=z14v n r (by omega);grind[List.length_cons,zai]
 |0,c::d::r,h=>by grind
theorem z2e9(p:ByteArray)(hp:p.size≤2000000):∀(n i:Nat)(o:List Sign),p.size- i≤n→i≤p.size→o.length≤i→z5w (z2l p (i:Int) o)=some (.exit 0,z2l p (p.size:Int) (o++zai (p.toList.drop i))):=by
 intro n;have hsz:=z39 p
 induction n with
 |zero=>
  intro i o h1 h2 h3;have e:i=p.size:=by omega
  subst e;rw[z16o,z8,if_neg (by simp),y23 (by omega)];simp only[zai,y13]
 |succ n ih=>
  intro i o h1 h2 h3;rcases yj i p.size with hi|hi
  ·have hw:IntKind.i64.wrap ((i:Int)+1)=((i+1:Nat):Int):=by grind[z1f]
   have hg:(p.toList.getD i 0)=p.toList[i]'(by omega):=by grind
   have hd:p.toList.drop i=p.toList[i]'(by omega)::p.toList.drop (i+1):=y1l (by omega);have ih1:∀x:Sign,z5w (z2l p ((i+1:Nat):Int) (o++[x]))=some (.exit 0,z2l p (p.size:Int) (o++x::zai (p.toList.drop (i+1)))):=by
    intro x;rw[ih (i+1) (o++[x]) (by omega) (by omega) (by grind),y11];rfl
   have e1:zen p (i:Int) o=some (.exit 0,z2l p (p.size:Int) (o++⟨0,((p.toList[i]'(by omega)).toNat:Int)⟩::zai (p.toList.drop (i+1)))):=by
    unfold zen;rw[z6 (by omega),z6 (by grind[ze,List.length_singleton]),y5,hg,hw,ih1]
   rw[z16o,e1];simp only[z8,decide_eq_true_eq,beq_iff_eq,y5,hg,hw];rw[if_pos (by omega),z6 (by omega),z6 (by grind[ze,List.length_singleton]),z6 (by omega),z6 (by grind[ze,List.length_singleton]),z6 (by omega),ih1,ih1,hd];generalize p.toList[i]'(by omega)=c;rcases yj (i+1) p.size with hj|hj
   ·have hg2:(p.toList.getD (i+1) 0)=p.toList[i+1]'(by omega):=by grind
    have hd2:p.toList.drop (i+1)=p.toList[i+1]'(by omega)::p.toList.drop (i+1+1):=y1l (by omega);have hw2:IntKind.i64.wrap (((i+1:Nat):Int)+1)=((i+1+1:Nat):Int):=by grind[z1f]
    have ih2:∀x:Sign,z5w (z2l p ((i+1+1:Nat):Int) (o++[x]))=some (.exit 0,z2l p (p.size:Int) (o++x::zai (p.toList.drop (i+1+1)))):=by
     intro x;rw[ih (i+1+1) (o++[x]) (by omega) (by omega) (by grind),y11];rfl
    rw[if_pos (show((i+1:Nat):Int)<(p.size:Int) by omega),z6 (by omega),z6 (by omega),z6 (by grind[ze,List.length_singleton]),hg2,hw2,ih2,hd2];generalize p.toList[i+1]'(by omega)=d;simp only[zai];by_cases c1:(c.toNat:Int)=37
    ·grind
    ·by_cases c2:(c.toNat:Int)=95
     ·grind
     ·by_cases c3:(c.toNat:Int)=92
      ·by_cases c4:escB d=true
       ·have c4':idxB (ByteArray.mk #[37,95,92]) (d.toNat:Int)≥0:=by unfold escB at c4;grind
        grind
       ·have c4':¬idxB (ByteArray.mk #[37,95,92]) (d.toNat:Int)≥0:=fun e=>c4 (by grind[escB,decide_eq_true]);grind
      grind
   ·have hd2:p.toList.drop (i+1)=[]:=y23 (by omega);rw[if_neg (show¬((i+1:Nat):Int)<(p.size:Int) by omega),hd2];simp only[zai];by_cases c1:(c.toNat:Int)=37
    ·grind
    ·by_cases c2:(c.toNat:Int)=95
     all_goals simp_all
  grind
theorem z1ps(p:ByteArray)(_hp:WStr p)(h:p.size≤2000000):z16n p=some (zw8 (z1e p)):=by
 have lp:=z2e9 p h p.size 0 [] (by omega) (by omega) (y6 _);rw[z20j];refine(zj lp).trans ?_;rw[z1ka];rfl
def z1b1:FnC Un:=fnF1 dStr fun p=>([p.size≤2000000],zw8 (z1e p))
theorem z20k:FnOK 207 z1b1:=fnK1 z3y (M:=znb) rfl ⟨z14u,trivial⟩ trivial trivial trivial trivial Tryz.func207 fun p=>GiF.r fun w o=>z1ps p (wfA_ w 0) (obA_ o 0)
def zda:Mc Un:=mcF_ [(207,z1b1)] [] [] [] []
def zgj:Nat→NS:=nsF_ [(4,{ts:=bl 87 1009,bs:=bl 87 0,nm:=[(.sl 5,348)]}),(15,{ts:=bl 87 160,bs:=bl 87 0,nm:=[(.sl 5,349)]})] false
def z2b(s:ByteArray)(p:ByteArray)(v0:Int)(v1:Int)(v2:Int)(v3:Int):S Un:=(st 87 87 350 0 [(0,at_ s),(4,ab false),(5,ao 348),(6,ai v2),(7,ai v0),(8,ai v1),(9,ai v3)] [] [(348,some ⟨(0:Nat),Ty.sign,z1e p,none,true⟩)])
def z2t(p:ByteArray)(v0:Int):S Un:=(st 87 87 350 0 [(5,ao 349),(7,ai v0)] [] [(349,some ⟨(0:Nat),Ty.sign,z1e p,none,true⟩)])
def z53:S Un→Option (EX Un):=lpF_ zda zgj Tryz.f167 [1,1,1,1,0,2,2] 4
def z67:S Un→Option (EX Un):=lpF_ zda zgj Tryz.f167 [1,1,1,1,1,0,2,2] 15
def z8t:Exit→S Un→Option (RF Un):=cxF_ zda zgj Tryz.f167 [1,1,1,1,0,2] [.d]
def zom:Exit→S Un→Option (RF Un):=cxF_ zda zgj Tryz.f167 [1,1,1,1,1,0,2] [.d]
def zjs(s:ByteArray)(p:ByteArray):Option (RF Un):=fnF_ zda zgj Tryz.f167 2 [.d] [.d (.v (cs s)),.d (.v (cs p))]
theorem z20l(s:ByteArray)(p:ByteArray):zjs s p=obO (p.size≤(2000000:Nat)) ((z53 (z2b s p (0:Int) (-1:Int) (0:Int) (0:Int))).bind (zd z8t)):=by kernel_rfl
def zjt(s:ByteArray)(p:ByteArray)(v0:Int)(v1:Int)(v2:Int)(v3:Int):Option (EX Un):=cndO (decide (v1≥0)) (z53 (z2b s p (IntKind.i64.wrap (v1+1)) v1 (IntKind.i64.wrap (v3+1)) (IntKind.i64.wrap (v3+1)))) (some (.ret,(z2b s p v0 v1 v2 v3)))
def zju(s:ByteArray)(p:ByteArray)(v0:Int)(v1:Int)(v2:Int)(v3:Int):Option (EX Un):=cndO (decide (v0<(↑(z1e p).length:Int))) (obO (0≤v0∧v0<(↑(z1e p).length:Int)) (cndO (((z1e p).getD v0.toNat zoa).kind ==1) (z53 (z2b s p (IntKind.i64.wrap (v0+1)) v1 (IntKind.i64.wrap (v2+1)) v3)) (obO (0≤v0∧v0<(↑(z1e p).length:Int)) (obO (0≤v2∧v2<(↑s.size:Int)) (cndO (((z1e p).getD v0.toNat zoa).b ==(↑(s.toList.getD v2.toNat 0).toNat:Int)) (z53 (z2b s p (IntKind.i64.wrap (v0+1)) v1 (IntKind.i64.wrap (v2+1)) v3)) (zjt s p v0 v1 v2 v3)))))) (zjt s p v0 v1 v2 v3)
theorem z16p(s:ByteArray)(p:ByteArray)(v0:Int)(v1:Int)(v2:Int)(v3:Int):z53 (z2b s p v0 v1 v2 v3)=cndO (decide (v2<(↑s.size:Int))) (cndO (decide (v0<(↑(z1e p).length:Int))) (obO (0≤v0∧v0<(↑(z1e p).length:Int)) (cndO (((z1e p).getD v0.toNat zoa).kind ==2) (z53 (z2b s p (IntKind.i64.wrap (v0+1)) v0 v2 v2)) (zju s p v0 v1 v2 v3))) (zju s p v0 v1 v2 v3)) (some (.exit 0,(z2b s p v0 v1 v2 v3))):=lpQ_ (by kernel_rfl)
theorem z1ea(s:ByteArray)(p:ByteArray)(v0:Int)(v1:Int)(v2:Int)(v3:Int):z8t .ret (z2b s p v0 v1 v2 v3)=some (z9b (false)):=by kernel_rfl
theorem z1kb(s:ByteArray)(p:ByteArray)(v0:Int)(v1:Int)(v2:Int)(v3:Int):z8t (.exit 0) (z2b s p v0 v1 v2 v3)=(z67 (z2t p v0)).bind (zd zom):=by kernel_rfl
theorem zon(p:ByteArray)(v0:Int):z67 (z2t p v0)=cndO (decide (v0<(↑(z1e p).length:Int))) (obO (0≤v0∧v0<(↑(z1e p).length:Int)) (cndO (((z1e p).getD v0.toNat zoa).kind ==2) (z67 (z2t p (IntKind.i64.wrap (v0+1)))) (some (.exit 3,(z2t p v0))))) (some (.exit 3,(z2t p v0))):=lpQ_ (by kernel_rfl)
theorem zte(p:ByteArray)(v0:Int):zom (.exit 3) (z2t p v0)=some (z9b (v0==(↑(z1e p).length:Int))):=by kernel_rfl
theorem z2hx(s p:ByteArray)(hp:(z1e p).length≤2000000):∀(c k:Nat),(z1e p).length - k=c→k≤(z1e p).length→∃r,(z67 (z2t p (k:Int))).bind (zd zom)=some (z9b r):=by
 intro c
 induction c with
 |zero=>
  intro k h1 h2;have e:z67 (z2t p (k:Int))=some (.exit 3,z2t p (k:Int)):=by rw[zon,z8,if_neg (by grind)]
  rw[zj e,zte];grind
 |succ c ih=>
  intro k h1 h2;by_cases hk:((z1e p).getD k zoa).kind=2
  ·have e:z67 (z2t p (k:Int))=z67 (z2t p ((k+1:Nat):Int)):=by
    rw[zon,z8,if_pos (by grind),z6 (by omega),y5,z8,if_pos (by grind),show IntKind.i64.wrap ((k:Int)+1)=((k+1:Nat):Int) by grind[z1f]]
   grind
  ·have e:z67 (z2t p (k:Int))=some (.exit 3,z2t p (k:Int)):=by
    rw[zon,z8,if_pos (by grind),z6 (by omega),y5,z8,if_neg (by grind)]
   rw[zj e,zte];grind
theorem z2hy(s p:ByteArray)(hs:s.size≤2000000)(hp:(z1e p).length≤2000000):∀(a b c k at_ from_:Nat)(star:Int),s.size- from_=a→s.size- at_=b→(z1e p).length - k=c→
  at_≤s.size→from_≤at_→k≤(z1e p).length→star<((z1e p).length:Int)→-1≤star→
  ∃r,(z53 (z2b s p (k:Int) star (at_:Int) (from_:Int))).bind (zd z8t)=some (z9b r):=by
 intro a
 induction a using Nat.strongRecOn with
 |ind a iha=>
  intro b
  induction b using Nat.strongRecOn with
  |ind b ihb=>
   intro c
   induction c using Nat.strongRecOn with
   |ind c ihc=>
    intro k at_ from_ star h1 h2 h3 h4 h5 h6 h7 h8;rcases yj at_ s.size with ha|ha
    ·have wk:k<(z1e p).length→IntKind.i64.wrap ((k:Int)+1)=((k+1:Nat):Int):=fun h=>by grind[z1f]
     have wa:IntKind.i64.wrap ((at_:Int)+1)=((at_+1:Nat):Int):=by grind[z1f]
     have wf:IntKind.i64.wrap ((from_:Int)+1)=((from_+1:Nat):Int):=by grind[z1f]
     have t1:∃r,(zjt s p (k:Int) star (at_:Int) (from_:Int)).bind (zd z8t)=some (z9b r):=by
      unfold zjt;by_cases hst:star≥0
      ·obtain⟨q,rfl⟩:=y3e hst;rw[z8,if_pos (decide_eq_true hst),wf,show IntKind.i64.wrap ((q:Int)+1)=((q+1:Nat):Int) by grind[z1f]];exact iha (s.size- (from_+1)) (by omega) _ _ (q+1) (from_+1) (from_+1) (q:Int) rfl rfl rfl (by omega) (by omega) (by omega) h7 h8
      ·have e:cndO (decide (star≥0)) (z53 (z2b s p (IntKind.i64.wrap (star+1)) star (IntKind.i64.wrap ((from_:Int)+1)) (IntKind.i64.wrap ((from_:Int)+1)))) (some (.ret,(z2b s p (k:Int) star (at_:Int) (from_:Int))))=some (.ret,(z2b s p (k:Int) star (at_:Int) (from_:Int))):=by simp_all[z8,if_neg]
       rw[zj e,z1ea];simp
     have t2:∃r,(zju s p (k:Int) star (at_:Int) (from_:Int)).bind (zd z8t)=some (z9b r):=by
      unfold zju;rcases yj k (z1e p).length with hk|hk
      ·have ihm:∃r,(z53 (z2b s p ((k+1:Nat):Int) star ((at_+1:Nat):Int) (from_:Int))).bind (zd z8t)=some (z9b r):=
        ihb (s.size- (at_+1)) (by omega) _ (k+1) (at_+1) from_ star h1 rfl rfl (by omega) (by omega) (by omega) h7 h8
       rw[z8,if_pos (by grind),z6 (by omega),z6 (by omega),z6 (by omega),wk hk,wa,z8,z8];split
       ·omega
       ·split
        all_goals omega
      simp_all[z8,if_neg]
     rw[z16p,z8,if_pos (by grind),z8];rcases yj k (z1e p).length with hk|hk
     ·rw[if_pos (by grind),z6 (by omega),z8];split
      ·rw[wk hk];rcases yj (s.size- at_) a with hlt|hge
       ·exact iha (s.size- at_) hlt _ _ (k+1) at_ at_ (k:Int) rfl rfl rfl (by omega) (by omega) (by omega) (by omega) (by omega)
       ·exact ihc ((z1e p).length - (k+1)) (by omega) (k+1) at_ at_ (k:Int) (by omega) h2 rfl (by omega) (by omega) (by omega) (by omega) (by omega)
      omega
     simp_all[if_neg]
    ·have e:z53 (z2b s p (k:Int) star (at_:Int) (from_:Int))=some (.exit 0,z2b s p (k:Int) star (at_:Int) (from_:Int)):=by rw[z16p,z8,if_neg (by grind)]
     rw[zj e,z1kb];exact z2hx s p hp _ k rfl h6
theorem z2ea(s p:ByteArray)(hs:s.size≤2000000)(hp:p.size≤2000000):∃r,zjs s p=some (z9b r):=by
 have hl:(z1e p).length≤2000000:=by
  have:=z14v _ p.toList (y6 _);grind[z39,z1e]
 rw[z20l,z6 hp];exact z2hy s p hs hl _ _ _ 0 0 0 (-1) rfl rfl rfl (by omega) (by omega) (by omega) (by omega) (by omega)
noncomputable def znc(s p:ByteArray):Bool:=@dite _ (∃r,zjs s p=some (z9b r)) (Classical.propDecidable _) (fun h=>h.choose) (fun _=>false)
theorem z1pt(s p:ByteArray)(_hs:WStr s)(_hp:WStr p)(h1:s.size≤2000000)(h2:p.size≤2000000):zjs s p=some (z9b (znc s p)):=by
 have h:=z2ea s p h1 h2;unfold znc;grind
def z1b2:FnC Un:=fnF2 dStr dStr fun s p=>([s.size≤2000000,p.size≤2000000],z9b (znc s p))
theorem z20m:FnOK 167 z1b2:=fnK2 z3y z3y (M:=zda) rfl ⟨z20k,trivial⟩ trivial trivial trivial trivial Tryz.func167 fun s p=>GiF.r fun w o=>z1pt s p (wfA_ w 0) (wfA_ w 1) (obA_ o 0) (obA_ o 1)
end
end Go.Proofs.YtjfpbchdcbhfgaaGreat.B
