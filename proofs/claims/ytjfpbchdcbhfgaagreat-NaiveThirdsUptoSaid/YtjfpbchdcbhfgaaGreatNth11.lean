/- Part 11 of the proof: Lnla Lscalar Lcompare Slcmp Svcmp Svord Snum2 Stri Sdeqp Shelf Lindexb Slike1. -/
import Derived.Lib.Bytealg
import Derived.Lib.Strings
import Derived.Lib.Walk
import Derived.Shelf.Small.Strs
import Derived.Shelf.Small.Wraps
import Derived.Shelf.Strings.Search1
import Derived.Shelf.GgClosure.StringsIndexFunc
import Derived.Ground.GgwProg
import Derived.Shelf.GgClosure.StringsIndexFuncTop
import Derived.Shelf.GgClosure.StringsRunes
import Derived.Shelf.Strings.FuncGrows
import Derived.Shelf.Slices.Turned
import Derived.Ground.Names2Prog
import Derived.Shelf.Slices.SearchI
import Derived.Test.YtjfpbchdcbhfgaaGreatProg
import Derived.Test.YtjfpbchdcbhfgaaGreatNth10
set_option linter.unusedVariables false
set_option linter.unusedSimpArgs false
namespace Go.Proofs.YtjfpbchdcbhfgaaGreat.B
open Go Go.RowKit
theorem z2kv {n x:Int} (h1:0≤n) (h2:n≤1048576) (h3:0≤x) (h4:x≤1048576) : capI n x=if 1048576<n+x then 1048576 else n+x:=by
 unfold capI;rw[z1j (by omega)];rfl
theorem zb8 (a b:Int) : minI a b=if b<a then b else a:=rfl
theorem zkt (a b:Int) : maxI a b=if a<b then b else a:=rfl
theorem capF {α:Type} (f:α→Int) : ∀ (l:List α) (n:Int),(∀ x∈l,0≤f x∧f x≤1048576)→0≤n→n≤1048576 →
  n≤l.foldl (fun n x=>capI n (f x)) n∧l.foldl (fun n x=>capI n (f x)) n≤1048576∧(l.foldl (fun n x=>capI n (f x)) n≤20000→∀ x∈l,f x≤20000)
 | [],n,_,h1,h2=>⟨y29 _,h2,fun _ x hx=>absurd hx (by simp)⟩
 | y::l,n,hf,h1,h2=>by
  have hy:=hf y yt;have e:=z2kv h1 h2 hy.1 hy.2;rw[yr,e];obtain⟨g1,g2,g3⟩:=capF f l (if 1048576<n+f y then 1048576 else n+f y) (fun x hx=>hf x (yy _ hx)) (by split<;>omega) (by split<;>omega);refine⟨y4c (by split<;>omega) g1,g2,fun h x hx=>?_⟩;rcases yf.1 hx with rfl | hx
  ·have:=y4c g1 h;split at this<;>omega
  ·exact g3 h x hx
theorem addF {α:Type} (f:α→Int) : ∀ (l:List α) (n:Int),(∀ x∈l,0≤f x∧f x≤1048576)→0≤n→n+l.length*1048576≤4611686018427387904 →
  n≤l.foldl (fun n x=>addI n (f x)) n∧l.foldl (fun n x=>addI n (f x)) n≤n+l.length*1048576∧(∀ x∈l,n+f x≤l.foldl (fun n x=>addI n (f x)) n)
 | [],n,_,h1,h2=>⟨y29 _,by simp,fun x hx=>absurd hx (by simp)⟩
 | y::l,n,hf,h1,h2=>by
  have hy:=hf y yt;rw[yq] at h2 ⊢;have e:addI n (f y)=n+f y:=by unfold addI;exact z1j (by omega)
  rw[yr,e];obtain⟨g1,g2,g3⟩:=addF f l (n+f y) (fun x hx=>hf x (yy _ hx)) (by omega) (by omega);refine⟨by omega,by omega,fun x hx=>?_⟩;rcases yf.1 hx with rfl | hx
  ·exact g1
  ·have:=g3 x hx;omega
theorem z2kw (db:List Data) (r:Rel) : zm4 db (zh3 db 1 r.terms) r.aggs=(z11 r).foldl (fun n t=>addI n (wghT db t)) 1:=by
 have key:∀ (l:List Agg) (n:Int),zm4 db n l=(z7t l).foldl (fun n t=>addI n (wghT db t)) n:=by
  intro l
  induction l with
  | nil=>intro n;simp only[zm4,z7t,y1q]
  | cons a l ih=>intro n;rw[zm4,z7t,y2g,ih,z295,z99,z99,z99]
 unfold z11;rw[y2g,key,z99,z99,z99]
def ioW (op held rl:Int) (rows:List Int) : Int×Int :=
 if op=1 then (held,held)
 else if rows.length=0 then (rl,rl)
 else if rows.length=1 then (rows.getD 0 0,maxI (rows.getD 0 0) 1)
 else if op=5∨op=6 then (IntKind.i64.wrap (rows.getD 0 0*maxI (rows.getD 1 0) 1),IntKind.i64.wrap (rows.getD 0 0*maxI (rows.getD 1 0) 1))
 else (IntKind.i64.wrap (rows.getD 0 0+rows.getD 1 0),IntKind.i64.wrap (rows.getD 0 0+rows.getD 1 0))
theorem z2ey (op held rl n:Int) (rows:List Int) (asks:Int) : z17x op held rl n rows asks=(minI (ioW op held rl rows).2 1048576,minI (addI n (IntKind.i64.wrap (minI (ioW op held rl rows).1 1048576*minI asks 1048576))) 1048576):=by
 unfold z17x ioW;dsimp only
 repeat' (first | rfl | split)
def ioR (db:List Data) (r:Rel) : Int×Int:=ioW r.op (zcc r.table db) r.rows.length (r.kids.map fun k=>(wghR db k).1)
def askR (db:List Data) (r:Rel) : Int:=(z11 r).foldl (fun n t=>addI n (wghT db t)) 1
def kidR (db:List Data) (r:Rel) : Int:=r.kids.foldl (fun n k=>addI n (wghR db k).2) 0
theorem z297 (db:List Data) (r:Rel) : wghR db r=(minI (ioR db r).2 1048576,minI (addI (kidR db r) (IntKind.i64.wrap (minI (ioR db r).1 1048576*minI (askR db r) 1048576))) 1048576):=by
 rw[z296,z2kw,z2ey];rfl
def zbs : List Data→Nat
 | []=>0
 | d::l=>d.rows.length+zbs l
theorem z1c3 (table:ByteArray) : ∀ (db:List Data) (n:Int),0≤n→n+zbs db≤4611686018427387904→n≤db.foldl (zm3 table) n∧db.foldl (zm3 table) n≤n+zbs db∧∀ d∈db,(d.table.toList == table.toList)=true→n+d.rows.length≤db.foldl (zm3 table) n
 | [],n,_,_=>⟨y29 _,by simp [zbs],fun d hd=>absurd hd (by simp)⟩
 | y::l,n,h1,h2=>by
  simp only[zbs] at h2 ⊢;rw[yr];unfold zm3;by_cases c : (y.table.toList == table.toList)=true
  ·have e:addI n y.rows.length=n+y.rows.length:=by unfold addI;exact z1j (by omega)
   rw[if_pos c,e];obtain⟨g1,g2,g3⟩:=z1c3 table l (n+y.rows.length) (by omega) (by omega);refine⟨by unfold zm3 at g1;omega,by unfold zm3 at g2;omega,fun d hd hc=>?_⟩;rcases yf.1 hd with rfl | hd
   ·exact g1
   ·have:=g3 d hd hc;unfold zm3 at this;omega
  ·rw[if_neg c];obtain⟨g1,g2,g3⟩:=z1c3 table l n h1 (by omega);refine⟨g1,by unfold zm3 at g2;omega,fun d hd hc=>?_⟩;rcases yf.1 hd with rfl | hd
   ·exact absurd hc c
   ·exact g3 d hd hc
theorem zd8 (db:List Data) (r:Rel) (i:Nat) (h:i<r.kids.length) : (r.kids.map fun k=>(wghR db k).1).getD i 0=(wghR db (r.kids.getD i za)).1:=by
 rw[yc,y13,yc,y9 h];rfl
theorem z1c4 {a b:Int} (ha:0≤a) (ha2:a≤1048576) (hb:0≤b) (hb2:b≤1048576) : 0≤a*b∧a*b≤1099511627776:=by
 refine⟨Int.mul_nonneg ha hb,?_⟩;have h1:=y4u ha2 hb;omega
theorem z2ez (db:List Data) (hd:zbs db≤2000000) (r:Rel) (hr:r.rows.length≤2000000) (hk:∀ k∈r.kids,0≤(wghR db k).1∧(wghR db k).1≤1048576) : 0≤(ioR db r).1∧(ioR db r).1≤1099511627776∧0≤(ioR db r).2∧(ioR db r).2≤1099511627776:=by
 have hh:=z1c3 r.table db 0 (by omega) (by omega);have hg:∀ i,0≤(r.kids.map fun k=>(wghR db k).1).getD i 0∧(r.kids.map fun k=>(wghR db k).1).getD i 0≤1048576:=fun i=>by
  by_cases h : i<r.kids.length
  ·rw[zd8 db r i h];exact hk _ (z61 h)
  ·rw[yc,y4d (by rw[yz];omega)];decide
 have g0:=hg 0;have g1:=hg 1;unfold ioR ioW zcc;generalize (r.kids.map fun k=>(wghR db k).1).getD 0 0=a at *;generalize (r.kids.map fun k=>(wghR db k).1).getD 1 0=b at *;have hm:0≤maxI b 1∧maxI b 1≤1048576:=by rw[zkt];split<;>omega
 have hm0:0≤maxI a 1∧maxI a 1≤1048576:=by rw[zkt];split<;>omega
 have hp:=z1c4 g0.1 g0.2 hm.1 hm.2;rw[z1j (show -9223372036854775808≤a*maxI b 1∧a*maxI b 1≤9223372036854775807 by omega),z1j (show -9223372036854775808≤a+b∧a+b≤9223372036854775807 by omega)]
 repeat' split
 all_goals (dsimp only;omega)
theorem z2f0 (db:List Data) (hd:zbs db≤2000000) : ∀ n : Nat,(∀ t : Term,t.ht<n→t.sz≤2000000→0≤wghT db t∧wghT db t≤1048576) ∧
  (∀ r : Rel,r.ht<n→r.sz≤2000000→(0≤(wghR db r).1∧(wghR db r).1≤1048576)∧0≤(wghR db r).2∧(wghR db r).2≤1048576):=by
 intro n
 induction n with
 | zero=>exact⟨fun _ h=>absurd h (y17 _),fun _ h=>absurd h (y17 _)⟩
 | succ n ih =>
  constructor
  ·intro t hn hs;rw[z1rs,← ztd,← zte];obtain⟨a1,a2,_⟩:=capF (fun k=>wghT db k) t.kids 0 (fun k hk=>ih.1 k (by have:=Term.ht_kid hk;omega) (by have:=zlv hk;omega)) (by omega) (by omega);obtain⟨b1,b2,_⟩:=capF (fun k=>(wghR db k).2) t.sub _ (fun k hk=>(ih.2 k (by have:=Term.ht_sub hk;omega) (by have:=zlw hk;omega)).2) a1 a2;exact⟨y4c a1 b1,b2⟩
  ·intro r hn hs;have h3:=r.sz_eq;have hkl:=z131 r.kids;have hrl:r.rows.length≤2000000:=by omega
   have hk:=fun k (hk:k∈r.kids)=>ih.2 k (by have:=Rel.ht_kid hk;omega) (by have:=z9z hk;omega);have hio:=z2ez db hd r hrl fun k h=>(hk k h).1;have htl:=zpd r;obtain⟨a1,a2,_⟩:=addF (fun k=>wghT db k) (z11 r) 1 (fun t ht=>ih.1 t (by have:=(z9g ht).1;omega) (by have:=(z9g ht).2;omega)) (by omega) (by omega);obtain⟨b1,b2,_⟩:=addF (fun k=>(wghR db k).2) r.kids 0 (fun k h=>(hk k h).2) (by omega) (by omega);rw[z297];have hp:=z1c4 (a:=minI (ioR db r).1 1048576) (b:=minI (askR db r) 1048576) (by rw[zb8];split<;>omega) (by rw[zb8];split<;>omega) (by unfold askR;rw[zb8];split<;>omega) (by rw[zb8];split<;>omega);dsimp only;generalize minI (ioR db r).1 1048576*minI (askR db r) 1048576=p at *;unfold addI kidR;rw[z1j (show -9223372036854775808≤p∧p≤9223372036854775807 by omega),z1j (by omega),zb8,zb8];exact⟨⟨by split<;>omega,by split<;>omega⟩,by split<;>omega,by split<;>omega⟩
theorem z298 {db:List Data} (hd:zbs db≤2000000) {t:Term} (h:t.sz≤2000000) : 0≤wghT db t∧wghT db t≤1048576:=(z2f0 db hd (t.ht+1)).1 t (y2m _) h
theorem z74 {db:List Data} (hd:zbs db≤2000000) {r:Rel} (h:r.sz≤2000000) : (0≤(wghR db r).1∧(wghR db r).1≤1048576)∧0≤(wghR db r).2∧(wghR db r).2≤1048576:=(z2f0 db hd (r.ht+1)).2 r (y2m _) h
theorem z1nh {db:List Data} (hd:zbs db≤2000000) {t:Term} (h:t.sz≤2000000) (hw:wghT db t≤20000) : (∀ k∈t.kids,wghT db k≤20000)∧∀ k∈t.sub,(wghR db k).2≤20000:=by
 rw[z1rs,← ztd,← zte] at hw;obtain⟨a1,a2,a3⟩:=capF (fun k=>wghT db k) t.kids 0 (fun k hk=>z298 hd (by have:=zlv hk;omega)) (by omega) (by omega);obtain⟨b1,b2,b3⟩:=capF (fun k=>(wghR db k).2) t.sub _ (fun k hk=>(z74 hd (by have:=zlw hk;omega)).2) a1 a2;exact⟨a3 (by omega),b3 hw⟩
theorem zx9 {db:List Data} (hd:zbs db≤2000000) {r:Rel} (h:r.sz≤2000000) (hw:(wghR db r).2≤20000) : (∀ k∈r.kids,(wghR db k).2≤20000)∧0≤(ioR db r).1∧(ioR db r).1≤20000∧(1≤(ioR db r).1→∀ t∈z11 r,wghT db t≤20000)∧(wghR db r).1=minI (ioR db r).2 1048576:=by
 have h3:=r.sz_eq;have hkl:=z131 r.kids;have hk:=fun k (hk:k∈r.kids)=>z74 hd (r:=k) (by have:=z9z hk;omega);have hio:=z2ez db hd r (by omega) fun k h=>(hk k h).1;have htl:=zpd r;obtain⟨a1,a2,a3⟩:=addF (fun k=>wghT db k) (z11 r) 1 (fun t ht=>z298 hd (by have:=(z9g ht).2;omega)) (by omega) (by omega);obtain⟨b1,b2,b3⟩:=addF (fun k=>(wghR db k).2) r.kids 0 (fun k h=>(hk k h).2) (by omega) (by omega);change 1≤askR db r at a1;change askR db r≤_ at a2;change ∀ x∈_,_≤askR db r at a3;change 0≤kidR db r at b1;change kidR db r≤_ at b2;change ∀ x∈_,_≤kidR db r at b3;have q1:0≤minI (ioR db r).1 1048576∧minI (ioR db r).1 1048576≤1048576:=by rw[zb8];split<;>omega
 have q2:1≤minI (askR db r) 1048576∧minI (askR db r) 1048576≤1048576:=by rw[zb8];split<;>omega
 have hp:=z1c4 q1.1 q1.2 (by omega:0≤minI (askR db r) 1048576) q2.2;have hp1:=Int.mul_le_mul_of_nonneg_left q2.1 q1.1;rw[z297] at hw ⊢;dsimp only at hw ⊢;have hp2:1≤minI (ioR db r).1 1048576→minI (askR db r) 1048576≤minI (ioR db r).1 1048576*minI (askR db r) 1048576:=fun hi=>by
  have:=y4u hi (show 0≤minI (askR db r) 1048576 by omega);omega
 generalize hpe : minI (ioR db r).1 1048576*minI (askR db r) 1048576=p at *;unfold addI at hw;rw[z1j (show -9223372036854775808≤p∧p≤9223372036854775807 by omega),z1j (by omega),zb8] at hw;have hsum:kidR db r+p≤20000:=by split at hw<;>omega
 rw[zb8] at q1 hp1 hp2;rw[zb8] at q2 hp2;refine⟨fun k hk=>by have:=b3 k hk;omega,hio.1,by split at hp1<;>omega,fun hi t ht=>?_,rfl⟩;have:=a3 t ht;have hp2:=hp2 (by split<;>omega);split at hp2<;>omega
end Go.Proofs.YtjfpbchdcbhfgaaGreat.B
namespace Go.Proofs.YtjfpbchdcbhfgaaGreat.B
open Go Go.RowKit
set_option maxRecDepth 1000000
theorem zxa {f:FuncId} {args:List (D Un)} {v:Value} (hv:oneC v=true)
  (h:∀ (w:World) (vs:List Value),(∀ St,All2 (DRel Tryz.prog En St w) vs args→Calls Tryz.prog f vs.toArray w fun e w'=>e=.returned v∧w'=w)) : Contract Tryz.prog En f args [.c (.s v)] []:=by
 intro w St vs hbd hvs hld;refine (h w vs St hvs).mono ?_;rintro e w' ⟨rfl,rfl⟩;let gg : G:={ β:=fun _=>0,lb:=fun _=>False,ω:=fun _ _=>none,tk:=fun _=>(none,0) };exact⟨_,rfl,Ext.refl _,gg,fun _ h=>h,fun b o x _ h=>by simp [gg] at h,fun b o x h=>by simp [gg] at h,⟨rfl,hv⟩,fun k o h=>by simp at h⟩
theorem zve {St:Nat→Nat→Prop} {w:World} {v:Value} {s:ByteArray} (h:DRel Tryz.prog En St w v (.d (.v (cs s)))) : v=.string s∧s.size≤9223372036854775807:=by
 have h':VRel En St w v (.s (.string s)):=h;cases h' with | s _ h=>exact⟨rfl,oneC_str.1 h⟩
theorem zvf {St:Nat→Nat→Prop} {w:World} {v:Value} {k:IntKind} {n:Int} (h:DRel Tryz.prog En St w v (.d (.v (.s (.int k n))))) : v=.int k n∧k.min≤n∧n≤k.max:=by
 have h':VRel En St w v (.s (.int k n)):=h;cases h' with | s _ h=>exact⟨rfl,of_decide_eq_true h⟩
end Go.Proofs.YtjfpbchdcbhfgaaGreat.B
namespace Go.Proofs.YtjfpbchdcbhfgaaGreat.B
open Go Go.RowKit
set_option maxRecDepth 1000000
theorem z1cx (a b:ByteArray) (w:World) :
  Calls Tryz.prog 229 #[.string a,.string b] w fun e w'=>e=.returned (.int .i64 (Lib.compareBytes a.data.toList b.data.toList))∧w'=w:=by
 have mixed:Tryz.prog.follows .mixedOrders=true:=by kernel_rfl
 go_enter Tryz.func229,Tryz.ntmps229
 go_wp2
 rw[run_callFunc_extern Tryz.func245 (by kernel_rfl) (by kernel_rfl) (by kernel_rfl) (e:=Extern.BytealgCompare.compare) (by kernel_rfl),Lib.run_compareString];simp only[Result.andThen];rw[Oper.upon_value]
 go_wp2
 go_ret;exact⟨rfl,rfl⟩
theorem zxb : ∀ (a b:List UInt8),Lib.compareBytes a b=cmpL a b
 | [],[]=>rfl
 | [],_::_=>rfl
 | _::_,[]=>rfl
 | x::a,y::b=>by
  have hlt:∀ p q : UInt8,(p<q)=((p.toNat:Int)<q.toNat):=fun p q=>by simp [UInt8.lt_iff_toNat_lt]
  simp only[Lib.compareBytes,cmpL,cmpI,hlt];by_cases h : x=y
  ·subst h;simp [zxb a b]
  ·have hne:x.toNat≠y.toNat:=fun e=>h (UInt8.toNat_inj.1 e);rw[if_neg h];by_cases h1 : (x.toNat:Int)<y.toNat
   ·rw[if_pos h1,if_pos h1]
   ·rw[if_neg h1,if_neg h1,if_pos (by omega),if_pos (by omega)]
theorem z1ni : ∀ (a b:List UInt8),-1≤cmpL a b∧cmpL a b≤1
 | [],[]=>by simp [cmpL]
 | [],_::_=>by simp [cmpL]
 | _::_,[]=>by simp [cmpL]
 | x::a,y::b=>by
  simp only[cmpL,cmpI];have:=z1ni a b
  repeat' split
  all_goals omega
def z64 : FnC Un:=fun args=>match args with
 | [x0,x1]=>(dStr x0).bind fun a=>(dStr x1).bind fun b=>some ([],[.c (.s (.int .i64 (cmpS a b)))],[])
 | _=>none
theorem zio : FnOK 229 z64:=by
 intro args ob rs os h hob;unfold z64 at h;split at h
 ·rename_i x0 x1;simp only[y7,y8,ym] at h;obtain⟨s,e0,t,e1,rfl,rfl,rfl⟩:=h;obtain rfl:=z43 e0;obtain rfl:=z43 e1;refine⟨?_,zl Tryz.func229 (by kernel_rfl) (by kernel_rfl)⟩;have hr:=z1ni s.toList t.toList;refine zxa (oneC_i64.2 (by unfold cmpS;omega)) fun w vs St hvs=>?_
  match vs,hvs with
  | [v0,v1],⟨h0,h1,_⟩ =>
   obtain⟨rfl,-⟩:=zve h0;obtain⟨rfl,-⟩:=zve h1;refine (z1cx s t w).mono ?_;rintro e w' ⟨rfl,rfl⟩;refine⟨?_,rfl⟩;rw[zxb];unfold cmpS;rw[ByteArray.toList_eq,ByteArray.toList_eq]
 ·simp at h
end Go.Proofs.YtjfpbchdcbhfgaaGreat.B
namespace Go.Proofs.YtjfpbchdcbhfgaaGreat.B
open Go Go.RowKit
set_option maxRecDepth 100000
noncomputable section
attribute [local irreducible] awp ctxK zu z1d retQ z1p
def z91 : Mc Un:=mcF_ [(229,z64)] [] [] [] []
theorem z197 (a:ByteArray) (b:ByteArray) (K:List (A Un)→List (Ob Un)→Prop) :
  awp z91 z262 (ze Tryz.f194) (z2j Tryz.f194.ntmps 0 [.d (.v (cs a)),.d (.v (cs b))]) (retQ z91 Tryz.f194.results.toList [.d] K) =
(K (zav (cmpS a b)) (zaw (cmpS a b))):=by kernel_rfl
def zbt (a:ByteArray) (b:ByteArray) : Option (Int) :=
 some (cmpS a b)
theorem z16h {a:ByteArray} {b:ByteArray} {r:Int} (h:zbt a b=some r) : Runs (awp z91 z262 (ze Tryz.f194) (z2j Tryz.f194.ntmps 0 [.d (.v (cs a)),.d (.v (cs b))]) (retQ z91 Tryz.f194.results.toList [.d] fun rs os=>rs=zav r∧os=zaw r)):=by
 constructor;rw[z197 a b (fun rs os=>rs=zav r∧os=zaw r)];unfold zbt at h;cases h;exact⟨rfl,rfl⟩
def strings_Compare (a:ByteArray) (b:ByteArray) : Int :=
 (cmpS a b)
theorem z198 (a:ByteArray) (b:ByteArray) : zbt a b=some (strings_Compare a b):=by unfold zbt strings_Compare;repeat (first | rfl | split)
def z92 : FnC Un:=fnF2 dStr dStr fun a b=>([],zav (strings_Compare a b),zaw (strings_Compare a b))
theorem zr9 : FnOK 194 z92:=fnK2 z43 z43 (M:=z91) rfl ⟨zio,trivial⟩ trivial trivial trivial trivial Tryz.func194 fun a b=>fun _ _=>z16h (z198 a b)
theorem z22q (x:Int) (K:List (A Un)→List (Ob Un)→Prop) :
  awp z1du z262 (ze Tryz.f228) (z2j Tryz.f228.ntmps 0 [.d (.v (.s (.int .i64 x)))]) (retQ z1du Tryz.f228.results.toList [.d] K) =
(K (zur (x != x)) (zus (x != x))):=by kernel_rfl
def zn3 (x:Int) : Option (Bool) :=
 some (x != x)
theorem z1ye {x:Int} {r:Bool} (h:zn3 x=some r) : Runs (awp z1du z262 (ze Tryz.f228) (z2j Tryz.f228.ntmps 0 [.d (.v (.s (.int .i64 x)))]) (retQ z1du Tryz.f228.results.toList [.d] fun rs os=>rs=zur r∧os=zus r)):=by
 constructor;rw[z22q x (fun rs os=>rs=zur r∧os=zus r)];unfold zn3 at h;cases h;exact⟨rfl,rfl⟩
def z59 (x:Int) : Bool :=
 (x != x)
theorem z22r (x:Int) : zn3 x=some (z59 x):=by unfold zn3 z59;repeat (first | rfl | split)
def z1fl : FnC Un:=fnF1 (dI .i64) fun x=>([],zur (z59 x),zus (z59 x))
theorem z22s : FnOK 228 z1fl:=fnK1 z1c (M:=z1du) rfl trivial trivial trivial trivial trivial Tryz.func228 fun x=>fun _ _=>z1ye (z22r x)
def zef : Mc Un:=mcF_ [(228,z1fl)] [] [] [] []
theorem z1si (x:Int) (y:Int) (K:List (A Un)→List (Ob Un)→Prop) :
  awp zef z262 (ze Tryz.f193) (z2j Tryz.f193.ntmps 0 [.d (.v (.s (.int .i64 x))),.d (.v (.s (.int .i64 y)))]) (retQ zef Tryz.f193.results.toList [.d] K) =
(cnd (z59 x)
 (cnd (z59 y)
  (K (zav ((0:Int))) (zaw ((0:Int))))
  (K (zav ((-1:Int))) (zaw ((-1:Int)))))
 (cnd (z59 y)
  (K (zav ((1:Int))) (zaw ((1:Int))))
  (cnd (decide (x<y))
   (K (zav ((-1:Int))) (zaw ((-1:Int))))
   (cnd (decide (x > y))
    (K (zav ((1:Int))) (zaw ((1:Int))))
    (K (zav ((0:Int))) (zaw ((0:Int)))))))):=by kernel_rfl
def zha (x:Int) (y:Int) : Option (Int) :=
  if (z59 x)=true then
   if (z59 y)=true then
    some ((0:Int))
   else
    some ((-1:Int))
  else
   if (z59 y)=true then
    some ((1:Int))
   else
    if (decide (x<y))=true then
     some ((-1:Int))
    else
     if (decide (x > y))=true then
      some ((1:Int))
     else
      some ((0:Int))
theorem z1nj {x:Int} {y:Int} {r:Int} (h:zha x y=some r) : Runs (awp zef z262 (ze Tryz.f193) (z2j Tryz.f193.ntmps 0 [.d (.v (.s (.int .i64 x))),.d (.v (.s (.int .i64 y)))]) (retQ zef Tryz.f193.results.toList [.d] fun rs os=>rs=zav r∧os=zaw r)):=by
 constructor;rw[z1si x y (fun rs os=>rs=zav r∧os=zaw r)];unfold zha at h;rcases z15 h with ⟨c1,h2⟩ | ⟨c1,h2⟩
 ·rcases z15 h2 with ⟨c3,h4⟩ | ⟨c3,h4⟩
  ·cases h4;exact (z1h c1 (z1h c3 ⟨rfl,rfl⟩))
  ·cases h4;exact (z1h c1 (zw (zj c3) ⟨rfl,rfl⟩))
 ·rcases z15 h2 with ⟨c5,h6⟩ | ⟨c5,h6⟩
  ·cases h6;exact (zw (zj c1) (z1h c5 ⟨rfl,rfl⟩))
  ·rcases z15 h6 with ⟨c7,h8⟩ | ⟨c7,h8⟩
   ·cases h8;exact (zw (zj c1) (zw (zj c5) (z1h c7 ⟨rfl,rfl⟩)))
   ·rcases z15 h8 with ⟨c9,h10⟩ | ⟨c9,h10⟩
    ·cases h10;exact (zw (zj c1) (zw (zj c5) (zw (zj c7) (z1h c9 ⟨rfl,rfl⟩))))
    ·cases h10;exact (zw (zj c1) (zw (zj c5) (zw (zj c7) (zw (zj c9) ⟨rfl,rfl⟩))))
def z3i (x:Int) (y:Int) : Int :=
  if (z59 x)=true then
   if (z59 y)=true then
    ((0:Int))
   else
    ((-1:Int))
  else
   if (z59 y)=true then
    ((1:Int))
   else
    if (decide (x<y))=true then
     ((-1:Int))
    else
     if (decide (x > y))=true then
      ((1:Int))
     else
      ((0:Int))
theorem z1sj (x:Int) (y:Int) : zha x y=some (z3i x y):=by unfold zha z3i;repeat (first | rfl | split)
def zeg : FnC Un:=fnF2 (dI .i64) (dI .i64) fun x y=>([],zav (z3i x y),zaw (z3i x y))
theorem z112 : FnOK 193 zeg:=fnK2 z1c z1c (M:=zef) rfl ⟨z22s,trivial⟩ trivial trivial trivial trivial Tryz.func193 fun x y=>fun _ _=>z1nj (z1sj x y)
@[simp] theorem zvg (x y:Int) : z3i x y=cmpI x y:=by
 unfold z3i z59 cmpI;simp
@[simp] theorem zn4 (a b:ByteArray) : strings_Compare a b=cmpS a b:=rfl
def z65 : Nat→NS:=nsF_ [(3,{ ts:=[false,false,true,true,false,false,true,true,true,false,false,false,false,false,false,false,false,false],bs:=[false,false,false,false,false,false,false,false,false,false,false,false,false,false,false,false,false,false],nm:=[],gb:=[],gs:=[] })] false
def zbu (vals:List Int) (v0:Int) : S Un:=(st 18 18 72 0 [(2,AV.one (A.c (C.s (Value.int IntKind.i64 (0:Int))))),(3,AV.one (A.c (C.s (Value.int IntKind.i64 (0:Int))))),(6,AV.one (A.c (C.sl Ty.int vals false))),(7,AV.one (A.c (C.s (Value.int IntKind.i64 (↑vals.length:Int))))),(8,AV.one (A.c (C.s (Value.int IntKind.i64 v0))))] [] [])
def zjn (vals:List Int) (v0:Int) (v1:Int) : S Un:=(st 18 18 72 0 [(2,AV.one (A.c (C.s (Value.int IntKind.i64 v1)))),(3,AV.one (A.c (C.s (Value.int IntKind.i64 (0:Int))))),(6,AV.one (A.c (C.sl Ty.int vals false))),(7,AV.one (A.c (C.s (Value.int IntKind.i64 (↑vals.length:Int))))),(8,AV.one (A.c (C.s (Value.int IntKind.i64 v0))))] [] [])
theorem z2f1 (vals:List Int) (K:List (A Un)→List (Ob Un)→Prop) :
  awp z1du z65 (ze Tryz.f192) (z2j Tryz.f192.ntmps 0 [.d (.v (.dat (U:=Un) Ty.int vals))]) (retQ z1du Tryz.f192.results.toList [.d] K) =
(zu (z65 3) (awp z1du z65 (sub (ze Tryz.f192) [1,1,0,1,2,2])) (ctxK z1du z65 (ze Tryz.f192) [1,1,0,1,2] (retQ z1du Tryz.f192.results.toList [.d] K)) (zbu vals (0:Int))):=by kernel_rfl
theorem z199 (vals:List Int) (v0:Int) (k:Nat) (Q:Exit→S Un→Prop) :
  z1d (z65 3) (awp z1du z65 (sub (ze Tryz.f192) [1,1,0,1,2,2])) Q (k+1) (zbu vals v0) =
(cnd (decide (v0<(↑vals.length:Int)))
 (((0:Int)≤v0∧v0<(↑vals.length:Int)) ∧
 (cnd (vals.getD v0.toNat (0:Int) != (0:Int))
  (Q .ret (zjn vals v0 (vals.getD v0.toNat (0:Int))))
  (z1d (z65 3) (awp z1du z65 (sub (ze Tryz.f192) [1,1,0,1,2,2])) Q k (zbu vals (IntKind.i64.wrap (v0+(1:Int)))))))
 (Q (.exit 0) (zbu vals v0))):=by kernel_rfl
theorem z1yf (vals:List Int) (v0:Int) (v1:Int) (K:List (A Un)→List (Ob Un)→Prop) :
  ctxK z1du z65 (ze Tryz.f192) [1,1,0,1,2] (retQ z1du Tryz.f192.results.toList [.d] K) .ret (zjn vals v0 v1) =
(K (zav (v1)) (zaw (v1))):=by kernel_rfl
theorem z22t (vals:List Int) (v0:Int) (K:List (A Un)→List (Ob Un)→Prop) :
  ctxK z1du z65 (ze Tryz.f192) [1,1,0,1,2] (retQ z1du Tryz.f192.results.toList [.d] K) (.exit 0) (zbu vals v0) =
(K (zav ((0:Int))) (zaw ((0:Int)))):=by kernel_rfl
def zku (vals:List Int) (v:Int) : Option ((Int) ⊕ ((Int×Int) ⊕ (Int))) :=
  if (decide (v<(↑vals.length:Int)))=true then
   if (0:Int)≤v∧v<(↑vals.length:Int) then
    if (vals.getD v.toNat (0:Int) != (0:Int))=true then
     some (.inr (.inl (v,(vals.getD v.toNat (0:Int)))))
    else
     some (.inl (IntKind.i64.wrap (v+(1:Int))))
   else none
  else
   some (.inr (.inr v))
def zkv (vals:List Int) (v:Int) : Option ((Int×Int) ⊕ (Int)):=zdv (zku vals) v
theorem z19a (vals:List Int) (v:Int) : zkv vals v=zp4 (zkv vals) (zku vals v):=zuo _ _
def zxc (vals:List Int) (r:(Int×Int) ⊕ (Int)) (Q:Exit→S Un→Prop) : Prop:=match r with | .inl x=>Q .ret (zjn vals x.1 x.2) | .inr x=>Q (.exit 0) (zbu vals x)
theorem z1yg {vals:List Int} {x:Int×Int} {Q:Exit→S Un→Prop} (h:Q .ret (zjn vals x.1 x.2)) : zxc vals (.inl x) Q:=h
theorem z22u {vals:List Int} {x:Int} {Q:Exit→S Un→Prop} (h:Q (.exit 0) (zbu vals x)) : zxc vals (.inr x) Q:=h
theorem z15c {vals:List Int} {v:Int} {r:(Int×Int) ⊕ (Int)} (h:zkv vals v=some r) (Q:Exit→S Un→Prop) (hQ:zxc vals r Q) : zu (z65 3) (awp z1du z65 (sub (ze Tryz.f192) [1,1,0,1,2,2])) Q (zbu vals v):=by
 refine @zup _ _ (zku vals) (fun v=>zu (z65 3) (awp z1du z65 (sub (ze Tryz.f192) [1,1,0,1,2,2])) Q (zbu vals v)) (fun r=>zxc vals r Q) ?_ v r h hQ;intro v o h hI;unfold zku at h;rcases z15 h with ⟨c1,h2⟩ | ⟨c1,h2⟩
 ·obtain⟨c3,h4⟩:=z9w h2;rcases z15 h4 with ⟨c5,h6⟩ | ⟨c5,h6⟩
  ·cases h6;exact z4s 1 (mpr (z199 vals v 0 Q) (z1h c1 (And.intro c3 (z1h c5 hI))))
  ·cases h6;obtain⟨k7,hk8⟩:=zt0 hI;exact z4s (k7+1) (mpr (z199 vals v k7 Q) (z1h c1 (And.intro c3 (zw (zj c5) hk8))))
 ·cases h2;exact z4s 1 (mpr (z199 vals v 0 Q) (zw (zj c1) hI))
def zxd (vals:List Int) : Option (Int) :=
  (zkv vals (0:Int)) >>= fun o9=>match o9 with
   | .inl o10 =>
     some (o10.2)
   | .inr o11 =>
     some ((0:Int))
theorem z2ba {vals:List Int} {r:Int} (h:zxd vals=some r) : Runs (awp z1du z65 (ze Tryz.f192) (z2j Tryz.f192.ntmps 0 [.d (.v (.dat (U:=Un) Ty.int vals))]) (retQ z1du Tryz.f192.results.toList [.d] fun rs os=>rs=zav r∧os=zaw r)):=by
 constructor;rw[z2f1 vals (fun rs os=>rs=zav r∧os=zaw r)];unfold zxd at h;obtain⟨o12,ho13,h14⟩:=bind_some h;rcases o12 with o15 | o16
 ·cases h14;exact (z15c ho13 _ (z1yg (mpr (z1yf vals o15.1 o15.2 _) ⟨rfl,rfl⟩)))
 ·cases h14;exact (z15c ho13 _ (z22u (mpr (z22t vals o16 _) ⟨rfl,rfl⟩)))
def orL : List Int→Int
 | []=>0
 | x::r=>if x=0 then orL r else x
def zn5 (vals:List Int) : Int:=orL vals
@[simp] theorem z2f2 (vals:List Int) : zn5 vals=orL vals:=by unfold zn5;rfl
theorem z27e (vals:List Int) (h:WL .int vals) : ∀ (r:List Int) (i:Nat),vals.drop i=r →
  ∃ o,zkv vals i=some o∧(match o with | .inl o=>o.2 | .inr _=>0)=orL r:=by
 intro r
 induction r with
 | nil =>
  intro i h1;have e1:=drop_nil h1;have hn:¬ ((i:Int)<vals.length):=by omega
  exact⟨.inr i,by rw[z19a,zku];simp [hn],rfl⟩
 | cons x r ih =>
  intro i h1;obtain⟨a1,a2,a3,_⟩:=z39 h1;have hp:(i:Int)<vals.length:=by omega
  have hi:(0:Int)≤i:=by omega
  rw[z19a,zku];simp only[hp,hi,decide_true,if_true,and_self,y5,a2,bne_iff_ne,ne_eq,ite_not,orL];by_cases hx : x=0
  ·rw[if_pos hx,if_pos hx,zwr a1 h.len,zr1];exact ih (i+1) a3
  ·exact⟨_,by rw[if_neg hx,zr2],by rw[if_neg hx]⟩
theorem z27f (vals:List Int) (h:WL .int vals) : zxd vals=some (zn5 vals):=by
 obtain⟨o,ho,e⟩:=z27e vals h _ 0 rfl;unfold zxd zn5;simp only[y2j] at e;rw[← e];have ho':zkv vals 0=some o:=ho;rw[ho'];cases o<;>rfl
def z1iq : FnC Un:=fnF1 (dL .int) fun vals=>([],zav (zn5 vals),zaw (zn5 vals))
theorem z2f3 : FnOK 192 z1iq:=fnK1 z10 (M:=z1du) rfl trivial trivial trivial trivial trivial Tryz.func192 fun vals=>fun w _=>z2ba (z27f vals (wfA_ w 0))
end
end Go.Proofs.YtjfpbchdcbhfgaaGreat.B
namespace Go.Proofs.YtjfpbchdcbhfgaaGreat.B
open Go Go.RowKit
set_option maxRecDepth 100000
noncomputable section
attribute [local irreducible] awp ctxK zu z1d retQ z1p
def cmpV (a b:Val) : Int×Bool:=if a.kind=b.kind then (if a.kind=3 then (cmpS a.s b.s,true) else if a.kind=1∨a.kind=2 then (cmpI a.n b.n,true) else (0,false)) else (0,false)
def zeh : Mc Un:=mcF_ [(193,zeg),(194,z92),(192,z1iq)] [] [] [] []
theorem z1sk (a:Val) (b:Val) (K:List (A Un)→List (Ob Un)→Prop) :
  awp zeh z262 (ze Tryz.f147) (z2j Tryz.f147.ntmps 0 [.d (.agg (enc Ty.val a)),.d (.agg (enc Ty.val b))]) (retQ zeh Tryz.f147.results.toList [.d] K) =
(K (zav (zn5 [z3i a.kind b.kind,z3i a.n b.n,strings_Compare a.s b.s])) (zaw (zn5 [z3i a.kind b.kind,z3i a.n b.n,strings_Compare a.s b.s]))):=by kernel_rfl
def zhb (a:Val) (b:Val) : Option (Int) :=
 some (zn5 [z3i a.kind b.kind,z3i a.n b.n,strings_Compare a.s b.s])
theorem z1nk {a:Val} {b:Val} {r:Int} (h:zhb a b=some r) : Runs (awp zeh z262 (ze Tryz.f147) (z2j Tryz.f147.ntmps 0 [.d (.agg (enc Ty.val a)),.d (.agg (enc Ty.val b))]) (retQ zeh Tryz.f147.results.toList [.d] fun rs os=>rs=zav r∧os=zaw r)):=by
 constructor;rw[z1sk a b (fun rs os=>rs=zav r∧os=zaw r)];unfold zhb at h;cases h;exact⟨rfl,rfl⟩
theorem z1ir (a b:Val) (_ha:WS .val a) (_hb:WS .val b) : zhb a b=some (z9e a b):=by
 unfold zhb z9e ordV;simp only[z2f2,zvg,zn4,orL,zws];by_cases h1 : a.kind=b.kind
 ·by_cases h2 : a.n=b.n
  ·simp only[h1,h2,if_true];split
   ·rename_i h;rw[h]
   ·rfl
  ·simp [h1,h2]
 ·simp [h1]
def z8v : FnC Un:=fun args=>match args with
 | [x0,x1]=>(dS .val x0).bind fun a=>(dS .val x1).bind fun b=>some ([],zav (z9e a b),zaw (z9e a b))
 | _=>none
theorem zod : FnOK 147 z8v:=by
 intro args ob rs os h hob;unfold z8v at h;split at h
 ·simp only[y7,y8,ym] at h;obtain⟨a,e0,b,e1,rfl,rfl,rfl⟩:=h;obtain rfl:=zq e0;obtain rfl:=zq e1;exact⟨zhw (M:=zeh) rfl (z5d (l1:=[(193,zeg),(194,z92),(192,z1iq)]) (l2:=[]) (l3:=[]) (l4:=[]) (l5:=[]) ⟨z112,zr9,z2f3,trivial⟩ trivial trivial trivial trivial) Tryz.func147 (by kernel_rfl) z262 0 [.d] (fun hwf=>z1nk (z1ir a b (z5q hwf (a:=.d (.agg (enc Ty.val a))) (yh (i:=0) rfl)) (z5q hwf (a:=.d (.agg (enc Ty.val b))) (yh (i:=1) rfl)))),zl Tryz.func147 (by kernel_rfl) (by kernel_rfl)⟩
 ·simp at h
def z2h : FV Un:=fun args=>match args with
 | [x0,x1]=>(dS .val (.d x0)).bind fun a=>(dS .val (.d x1)).bind fun b=>some ([],[.v (.s (.int .i64 (z9e a b)))])
 | _=>none
theorem zxe : FvOK 147 z2h:=by
 refine⟨zl Tryz.func147 (by kernel_rfl) (by kernel_rfl),fun args ob rs h hob=>?_⟩;unfold z2h at h;split at h
 ·simp only[y7,y8,ym] at h;obtain⟨a,e0,b,e1,rfl,rfl⟩:=h;simp only[yu,y1k];rw[zq e0];rw[zq e1];refine Contract.data (zod _ ([]) _ _ (?_ : z8v _=some _) (by simp)).1;unfold z8v;simp only[zun];rfl
 ·simp at h
theorem zvj : z2h=z1l ordV:=by
 have : z9e=ordV:=by funext a b;exact z21e a b
 rw[← this];rfl
def zbv : Mc Un:=mcF_ [(194,z92),(193,zeg)] [] [] [] []
def z4m (r:Int×Bool) : List (A Un):=[.c (.s (.int .i64 r.1)),.c (.s (.bool r.2))]
def z4n (_r:Int×Bool) : List (Ob Un):=[]
theorem z1is (a:Val) (b:Val) (K:List (A Un)→List (Ob Un)→Prop) :
  awp zbv z262 (ze Tryz.f152) (z2j Tryz.f152.ntmps 0 [.d (.agg (enc Ty.val a)),.d (.agg (enc Ty.val b))]) (retQ zbv Tryz.f152.results.toList [.d,.d] K) =
(cnd (a.kind != b.kind)
 (K (z4m ((0:Int),false)) (z4n ((0:Int),false)))
 (cnd (decide (a.kind<(1:Int)))
  (K (z4m ((0:Int),false)) (z4n ((0:Int),false)))
  (cnd (decide (a.kind > (3:Int)))
   (K (z4m ((0:Int),false)) (z4n ((0:Int),false)))
   (cnd (a.kind == (3:Int))
    (K (z4m (strings_Compare a.s b.s,true)) (z4n (strings_Compare a.s b.s,true)))
    (K (z4m (z3i a.n b.n,true)) (z4n (z3i a.n b.n,true))))))):=by kernel_rfl
def ze1 (a:Val) (b:Val) : Option (Int×Bool) :=
  if (a.kind != b.kind)=true then
   some ((0:Int),false)
  else
   if (decide (a.kind<(1:Int)))=true then
    some ((0:Int),false)
   else
    if (decide (a.kind > (3:Int)))=true then
     some ((0:Int),false)
    else
     if (a.kind == (3:Int))=true then
      some (strings_Compare a.s b.s,true)
     else
      some (z3i a.n b.n,true)
theorem z1cy {a:Val} {b:Val} {r:Int×Bool} (h:ze1 a b=some r) : Runs (awp zbv z262 (ze Tryz.f152) (z2j Tryz.f152.ntmps 0 [.d (.agg (enc Ty.val a)),.d (.agg (enc Ty.val b))]) (retQ zbv Tryz.f152.results.toList [.d,.d] fun rs os=>rs=z4m r∧os=z4n r)):=by
 constructor;rw[z1is a b (fun rs os=>rs=z4m r∧os=z4n r)];unfold ze1 at h;rcases z15 h with ⟨c1,h2⟩ | ⟨c1,h2⟩
 ·cases h2;exact (z1h c1 ⟨rfl,rfl⟩)
 ·rcases z15 h2 with ⟨c3,h4⟩ | ⟨c3,h4⟩
  ·cases h4;exact (zw (zj c1) (z1h c3 ⟨rfl,rfl⟩))
  ·rcases z15 h4 with ⟨c5,h6⟩ | ⟨c5,h6⟩
   ·cases h6;exact (zw (zj c1) (zw (zj c3) (z1h c5 ⟨rfl,rfl⟩)))
   ·rcases z15 h6 with ⟨c7,h8⟩ | ⟨c7,h8⟩
    ·cases h8;exact (zw (zj c1) (zw (zj c3) (zw (zj c5) (z1h c7 ⟨rfl,rfl⟩))))
    ·cases h8;exact (zw (zj c1) (zw (zj c3) (zw (zj c5) (zw (zj c7) ⟨rfl,rfl⟩))))
def z1s (a b:Val) : Int×Bool:=cmpV a b
@[simp] theorem z1it (a b:Val) : z1s a b=cmpV a b:=by unfold z1s;rfl
theorem z19b (a b:Val) (_ha:WS .val a) (_hb:WS .val b) : ze1 a b=some (z1s a b):=by
 unfold ze1 z1s cmpV;simp only[bne_iff_ne,ne_eq,ite_not,beq_iff_eq,decide_eq_true_eq,zvg,zn4];by_cases h1 : a.kind=b.kind
 ·simp only[h1,if_true];by_cases h3 : b.kind=3
  ·simp [h3]
  ·by_cases h4 : b.kind<1
   ·have : ¬ (b.kind=1∨b.kind=2):=by omega
    simp [h3,h4,this]
   ·by_cases h5 : b.kind > 3
    ·have : ¬ (b.kind=1∨b.kind=2):=by omega
     simp [h3,h4,h5,this]
    ·have : b.kind=1∨b.kind=2:=by omega
     simp [h3,h4,h5,this]
 ·simp [h1]
def z8n : FnC Un:=fun args=>match args with
 | [x0,x1]=>(dS .val x0).bind fun a=>(dS .val x1).bind fun b=>some ([],z4m (z1s a b),z4n (z1s a b))
 | _=>none
theorem zkh : FnOK 152 z8n:=by
 intro args ob rs os h hob;unfold z8n at h;split at h
 ·simp only[y7,y8,ym] at h;obtain⟨a,e0,b,e1,rfl,rfl,rfl⟩:=h;obtain rfl:=zq e0;obtain rfl:=zq e1;exact⟨zhw (M:=zbv) rfl (z5d (l1:=[(194,z92),(193,zeg)]) (l2:=[]) (l3:=[]) (l4:=[]) (l5:=[]) ⟨zr9,z112,trivial⟩ trivial trivial trivial trivial) Tryz.func152 (by kernel_rfl) z262 0 [.d,.d] (fun hwf=>z1cy (z19b a b (z5q hwf (a:=.d (.agg (enc Ty.val a))) (yh (i:=0) rfl)) (z5q hwf (a:=.d (.agg (enc Ty.val b))) (yh (i:=1) rfl)))),zl Tryz.func152 (by kernel_rfl) (by kernel_rfl)⟩
 ·simp at h
end
end Go.Proofs.YtjfpbchdcbhfgaaGreat.B
namespace Go.Proofs.YtjfpbchdcbhfgaaGreat.B
open Go Go.RowKit
set_option maxRecDepth 100000
noncomputable section
attribute [local irreducible] awp ctxK zu z1d retQ z1p awf ctxF z1o
def z19c (r:Int) : RF Un:=(zav r,zaw r)
def z1nm : Nat→NS:=nsF_ [(2,{ ts:=bl 39 14407,bs:=bl 39 0,nm:=[] })] false
def zb9 (s1:List Val) (s2:List Val) (p:Val→Val→Int) (v0:Int) : S Un:=(st 39 39 156 0 [(0,al .val s1),(1,al .val s2),(2,AV.one (A.c (C.fv (z1l p)))),(6,ai (0:Int)),(11,al .val s1),(12,ai (↑s1.length:Int)),(13,ai v0)] [] [])
def ziq (s1:List Val) (s2:List Val) (p:Val→Val→Int) (v0:Int) (v1:Int) : S Un:=(st 39 39 156 0 [(0,al .val s1),(1,al .val s2),(2,AV.one (A.c (C.fv (z1l p)))),(6,ai v1),(11,al .val s1),(12,ai (↑s1.length:Int)),(13,ai v0)] [] [])
def zhc : S Un→Option (EX Un):=lpF_ z1du z1nm Tryz.f195 [1,0,1,2,2] 2
def z1c5 : Exit→S Un→Option (RF Un):=cxF_ z1du z1nm Tryz.f195 [1,0,1,2] [.d]
def z299 (s1:List Val) (s2:List Val) (p:Val→Val→Int) : Option (RF Un):=fnF_ z1du z1nm Tryz.f195 0 [.d] [.d (.v (.dat (U:=Un) Ty.val s1)),.d (.v (.dat (U:=Un) Ty.val s2)),.fn (z1l p)]
theorem z2kx (s1:List Val) (s2:List Val) (p:Val→Val→Int) : z299 s1 s2 p=(zhc (zb9 s1 s2 p (0:Int))).bind (zd z1c5):=by kernel_rfl
theorem z1c6 (s1:List Val) (s2:List Val) (p:Val→Val→Int) (v0:Int) : zhc (zb9 s1 s2 p v0)=cndO (decide (v0<(↑s1.length:Int))) (obO (0≤v0∧v0<(↑s1.length:Int)) (cndO (decide (v0≥(↑s2.length:Int))) (some (.ret,(ziq s1 s2 p v0 (1:Int)))) (obO (0≤v0∧v0<(↑s2.length:Int)) (cndO (p (s1.getD v0.toNat z7) (s2.getD v0.toNat z7) != 0) (some (.ret,(ziq s1 s2 p v0 (p (s1.getD v0.toNat z7) (s2.getD v0.toNat z7))))) (zhc (zb9 s1 s2 p (IntKind.i64.wrap (v0+1)))))))) (some (.exit 0,(zb9 s1 s2 p v0))):=lpQ_ (by kernel_rfl)
theorem z1fm (s1:List Val) (s2:List Val) (p:Val→Val→Int) (v0:Int) (v1:Int) : z1c5 .ret (ziq s1 s2 p v0 v1)=some (z19c (v1)):=by kernel_rfl
theorem z2bb (s1:List Val) (s2:List Val) (p:Val→Val→Int) (v0:Int) : z1c5 (.exit 0) (zb9 s1 s2 p v0)=cndO (decide ((↑s1.length:Int)<(↑s2.length:Int))) (some (z19c ((-1:Int)))) (some (z19c ((0:Int)))):=by kernel_rfl
def z13s (p:Val→Val→Int) : List Val→List Val→Int
 | [],[]=>0
 | [],_::_=>-1
 | _::_,[]=>1
 | a::l,b::r=>if p a b=0 then z13s p l r else p a b
def cmpR (s1 s2:List Val) (p:Val→Val→Int) : Int:=z13s p s1 s2
theorem z2ib (s1 s2:List Val) (p:Val→Val→Int) (h1:WL .val s1) (h2:WL .val s2) : ∀ (ra rb:List Val) (i:Nat),s1.drop i=ra→s2.drop i=rb→i≤s1.length→i≤s2.length →
    (zhc (zb9 s1 s2 p (i:Int))).bind (zd z1c5)=some (z19c (z13s p ra rb)):=by
  have l1:=h1.len;intro ra
  induction ra with
  | nil =>
    intro rb i e1 e2 i1 i2
    have n1 : s1.length = i := by have : s1.length ≤ i := y1n.1 e1
                                  omega
    have hL:zhc (zb9 s1 s2 p (i:Int))=some (.exit 0,zb9 s1 s2 p (i:Int)):=by
      rw[z1c6,z8,if_neg (by rw[decide_eq_true_eq];omega)]
    rw[zg hL,z2bb,z8];cases rb with
    | nil =>
      have : s2.length≤i:=y1n.1 e2;rw[if_neg (by rw[decide_eq_true_eq];omega)];rfl
    | cons y rb =>
      have hlt:i<s2.length:=by
        rcases yj i s2.length with h | h
        · exact h
        · rw[List.drop_eq_nil_of_le h] at e2;simp at e2
      rw[if_pos (by rw[decide_eq_true_eq];omega)];rfl
  | cons x ra ih =>
    intro rb i e1 e2 i1 i2;obtain⟨a1,a2,a3,_⟩:=z39 e1;cases rb with
    | nil =>
      have n2:s2.length≤i:=y1n.1 e2;have hL:zhc (zb9 s1 s2 p (i:Int))=some (.ret,ziq s1 s2 p (i:Int) 1):=by
        rw[z1c6,z8,if_pos (by rw[decide_eq_true_eq];omega),z6 (by omega),z8,if_pos (by rw[decide_eq_true_eq];omega)]
      rw[zg hL,z1fm];rfl
    | cons y rb =>
      obtain⟨b1,b2,b3,_⟩:=z39 e2;by_cases hxy : p x y=0
      · have hL:zhc (zb9 s1 s2 p (i:Int))=zhc (zb9 s1 s2 p ((i+1:Nat):Int)):=by
          rw[z1c6,z8,if_pos (by rw[decide_eq_true_eq];omega),z6 (by omega),z8,if_neg (by rw[decide_eq_true_eq];omega),z6 (by omega),y5,a2,b2,z8,if_neg (by simp [hxy]),z1j (by omega)];rfl
        rw[hL,ih rb (i+1) a3 b3 (by omega) (by omega)];simp only[z13s,if_pos hxy]
      · have hL:zhc (zb9 s1 s2 p (i:Int))=some (.ret,ziq s1 s2 p (i:Int) (p x y)):=by
          rw[z1c6,z8,if_pos (by rw[decide_eq_true_eq];omega),z6 (by omega),z8,if_neg (by rw[decide_eq_true_eq];omega),z6 (by omega),y5,a2,b2,z8,if_pos (by simpa using hxy)]
        rw[zg hL,z1fm];simp only[z13s,if_neg hxy]
theorem z2f6 (s1 s2:List Val) (p:Val→Val→Int) (h1:WL .val s1) (h2:WL .val s2) : z299 s1 s2 p=some (z19c (cmpR s1 s2 p)):=by
 rw[z2kx];exact z2ib s1 s2 p h1 h2 s1 s2 0 rfl rfl (yb _) (yb _)
def z22v : FnC Un:=fun args=>match args with
 | [x0,x1,x2]=>(dL .val x0).bind fun s1=>(dL .val x1).bind fun s2=>(dF x2).bind fun p=>some ([p=(z1l (zk p))],zav (cmpR s1 s2 (zk p)),zaw (cmpR s1 s2 (zk p)))
 | _=>none
theorem z2ky : FnOK 195 z22v:=by
 intro args ob rs os h hob;unfold z22v at h;split at h
 ·simp only[y7,y8,ym] at h;obtain⟨s1,e0,s2,e1,p,e2,rfl,rfl,rfl⟩:=h;obtain rfl:=z10 e0;obtain rfl:=z10 e1;obtain rfl:=zp3 e2;have hfv0:=hob _ (yh (i:=0) rfl);generalize zk p=pp0 at *;subst hfv0;exact⟨z2r (M:=z1du) rfl (z5d (l1:=[]) (l2:=[]) (l3:=[]) (l4:=[]) (l5:=[]) trivial trivial trivial trivial trivial) Tryz.func195 (by kernel_rfl) z1nm 0 [.d] (fun hwf=>(z2f6 s1 s2 pp0 (z5q hwf (a:=.d (.v (.dat (U:=Un) Ty.val s1))) (yh (i:=0) rfl)) (z5q hwf (a:=.d (.v (.dat (U:=Un) Ty.val s2))) (yh (i:=1) rfl)))),zl Tryz.func195 (by kernel_rfl) (by kernel_rfl)⟩
 ·simp at h
def z114 : Mc Un:=mcF_ [(195,z22v)] [(147,z2h)] [] [] []
def zxf (a:List Val) (b:List Val) : Option (RF Un):=fnF_ z114 z262 Tryz.f149 0 [.d] [.d (.v (.dat (U:=Un) Ty.val a)),.d (.v (.dat (U:=Un) Ty.val b))]
theorem z1nn (a:List Val) (b:List Val) : zxf a b=obO (z2h=z1l (zk z2h)) (some (z2f (cmpR a b (zk z2h)))):=by kernel_rfl
theorem z1vr : ∀ a b : List Val,z13s ordV a b=ordR a b
 | [],[]=>rfl
 | [],_::_=>rfl
 | _::_,[]=>rfl
 | a::l,b::r=>by simp only[z13s,ordR,z1vr l r]
theorem z1cz (a b:List Val) (_ha:WL .val a) (_hb:WL .val b) : zxf a b=some (z2f (z7o a b)):=by
 have e:zk (z1l ordV)=ordV:=zfm ordV;rw[z1nn,zvj,e,z6 rfl];unfold cmpR z7o;rw[z1vr]
def z7i : FnC Un:=fnF2 (dL .val) (dL .val) fun a b=>([],z2f (z7o a b))
theorem zn7 : FnOK 149 z7i:=fnK2 z10 z10 (M:=z114) rfl ⟨z2ky,trivial⟩ ⟨zxe,trivial⟩ trivial trivial trivial Tryz.func149 fun a b=>GiF.r fun w _=>z1cz a b (wfA_ w 0) (wfA_ w 1)
end
end Go.Proofs.YtjfpbchdcbhfgaaGreat.B
namespace Go.Proofs.YtjfpbchdcbhfgaaGreat.B
open Go Go.RowKit
set_option maxRecDepth 100000
noncomputable section
attribute [local irreducible] awp ctxK zu z1d retQ z1p awf ctxF z1o
def z1no : Mc Un:=mcF_ [(211,zc7)] [] [] [] []
def z1fn (a:Int) (b:Int) (n:Int) : Option (RF Un):=fnF_ z1no z262 Tryz.f233 0 [.d,.d] [.d (.v (.s (.int .i64 a))),.d (.v (.s (.int .i64 b))),.d (.v (.s (.int .i64 n)))]
theorem z27g (a:Int) (b:Int) (n:Int) : z1fn a b n=cndO (!z1u a) (some (zmd ((0:Int),false))) (cndO (!z1u b) (some (zmd ((0:Int),false))) (cndO (!z1u n) (some (zmd ((0:Int),false))) (some (zmd (n,true))))):=by kernel_rfl
def z3r (a:Int) (b:Int) (n:Int) : Int×Bool :=
  if (!z1u a)=true then
   ((0:Int),false)
  else
   if (!z1u b)=true then
    ((0:Int),false)
   else
    if (!z1u n)=true then
     ((0:Int),false)
    else
     (n,true)
theorem z27h (a:Int) (b:Int) (n:Int) : z1fn a b n=some (zmd (z3r a b n)):=by rw[z27g];unfold z3r;simp only[z8];repeat (first | rfl | split)
def zhe : FnC Un:=fnF3 (dI .i64) (dI .i64) (dI .i64) fun a b n=>([],zmd (z3r a b n))
theorem zir : FnOK 233 zhe:=fnK3 z1c z1c z1c (M:=z1no) rfl ⟨zbi,trivial⟩ trivial trivial trivial trivial Tryz.func233 fun a b n=>GiF.r fun _ _=>z27h a b n
def z1vs : Mc Un:=mcF_ [(211,zc7),(233,zhe)] [] [] [] []
def z1np (a:Int) (b:Int) : Option (RF Un):=fnF_ z1vs z262 Tryz.f202 0 [.d,.d] [.d (.v (.s (.int .i64 a))),.d (.v (.s (.int .i64 b)))]
theorem z2bd (a:Int) (b:Int) : z1np a b=cndO (!z1u a) (some (zmd ((0:Int),false))) (cndO (!z1u b) (some (zmd ((0:Int),false))) (some (zmd ((z3r a b (IntKind.i64.wrap (a+b))).fst,(z3r a b (IntKind.i64.wrap (a+b))).snd)))):=by kernel_rfl
def z115 (a:Int) (b:Int) : Int×Bool :=
  if (!z1u a)=true then
   ((0:Int),false)
  else
   if (!z1u b)=true then
    ((0:Int),false)
   else
    ((z3r a b (IntKind.i64.wrap (a+b))).fst,(z3r a b (IntKind.i64.wrap (a+b))).snd)
theorem z2be (a:Int) (b:Int) : z1np a b=some (zmd (z115 a b)):=by rw[z2bd];unfold z115;simp only[z8];repeat (first | rfl | split)
def z2f8 : FnC Un:=fnF2 (dI .i64) (dI .i64) fun a b=>([],zmd (z115 a b))
theorem z2bf : FnOK 202 z2f8:=fnK2 z1c z1c (M:=z1vs) rfl ⟨zbi,zir,trivial⟩ trivial trivial trivial trivial Tryz.func202 fun a b=>GiF.r fun _ _=>z2be a b
def z1nq (a:Int) (b:Int) : Option (RF Un):=fnF_ z1vs z262 Tryz.f201 0 [.d,.d] [.d (.v (.s (.int .i64 a))),.d (.v (.s (.int .i64 b)))]
theorem z2bg (a:Int) (b:Int) : z1nq a b=cndO (!z1u a) (some (zmd ((0:Int),false))) (cndO (!z1u b) (some (zmd ((0:Int),false))) (some (zmd ((z3r a b (IntKind.i64.wrap (a - b))).fst,(z3r a b (IntKind.i64.wrap (a - b))).snd)))):=by kernel_rfl
def zhf (a:Int) (b:Int) : Int×Bool :=
  if (!z1u a)=true then
   ((0:Int),false)
  else
   if (!z1u b)=true then
    ((0:Int),false)
   else
    ((z3r a b (IntKind.i64.wrap (a - b))).fst,(z3r a b (IntKind.i64.wrap (a - b))).snd)
theorem z2bh (a:Int) (b:Int) : z1nq a b=some (zmd (zhf a b)):=by rw[z2bg];unfold zhf;simp only[z8];repeat (first | rfl | split)
def z1vu : FnC Un:=fnF2 (dI .i64) (dI .i64) fun a b=>([],zmd (zhf a b))
theorem z1nr : FnOK 201 z1vu:=fnK2 z1c z1c (M:=z1vs) rfl ⟨zbi,zir,trivial⟩ trivial trivial trivial trivial Tryz.func201 fun a b=>GiF.r fun _ _=>z2bh a b
def z1vv : Mc Un:=mcF_ [(201,z1vu)] [] [] [] []
def z1ns (a:Int) : Option (RF Un):=fnF_ z1vv z262 Tryz.f159 0 [.d,.d] [.d (.v (.s (.int .i64 a)))]
theorem z2bi (a:Int) : z1ns a=some (zmd ((zhf (0:Int) a).fst,(zhf (0:Int) a).snd)):=by kernel_rfl
def zd9 (a:Int) : Int×Bool :=
 ((zhf (0:Int) a).fst,(zhf (0:Int) a).snd)
theorem z2bj (a:Int) : z1ns a=some (zmd (zd9 a)):=by rw[z2bi];unfold zd9;simp only[z8];repeat (first | rfl | split)
def z19e : FnC Un:=fnF1 (dI .i64) fun a=>([],zmd (zd9 a))
theorem z1nt : FnOK 159 z19e:=fnK1 z1c (M:=z1vv) rfl ⟨z1nr,trivial⟩ trivial trivial trivial trivial Tryz.func159 fun a=>GiF.r fun _ _=>z2bj a
def z1nu (a:Int) (b:Int) : Option (RF Un):=fnF_ z1vs z262 Tryz.f203 0 [.d,.d] [.d (.v (.s (.int .i64 a))),.d (.v (.s (.int .i64 b)))]
theorem z2bk (a:Int) (b:Int) : z1nu a b=cndO (!z1u a) (some (zmd ((0:Int),false))) (cndO (!z1u b) (some (zmd ((0:Int),false))) (cndO (a == 0) (some (zmd ((0:Int),true))) (cndO (b == 0) (some (zmd ((0:Int),true))) (obO (¬List.foldl (fun a b=>if a<b then b else a) b [IntKind.i64.wrap ((0:Int) - b)]=0) (cndO (decide (List.foldl (fun a b=>if a<b then b else a) a [IntKind.i64.wrap ((0:Int) - a)] > IntKind.i64.wrap (Int.tdiv (1000000000000000:Int) (List.foldl (fun a b=>if a<b then b else a) b [IntKind.i64.wrap ((0:Int) - b)])))) (some (zmd ((0:Int),false))) (some (zmd ((z3r a b (IntKind.i64.wrap (a*b))).fst,(z3r a b (IntKind.i64.wrap (a*b))).snd)))))))):=by kernel_rfl
def mxI (a:Int) : Int:=List.foldl (fun a b=>if a<b then b else a) a [IntKind.i64.wrap ((0:Int) - a)]
def z116 (a b:Int) : Int×Bool :=
 if z1u a=true then (if z1u b=true then (if a=0 then (0,true) else if b=0 then (0,true) else if mxI a > IntKind.i64.wrap (Int.tdiv 1000000000000000 (mxI b)) then (0,false) else z3r a b (IntKind.i64.wrap (a*b))) else (0,false)) else (0,false)
theorem z2kz (n:Int) : inN n=true↔-1000000000000000≤n∧n≤1000000000000000:=by unfold inN;exact decide_eq_true_iff
theorem z22w (a b:Int) (_ha:WI a) (_hb:WI b) : z1nu a b=some (zmd (z116 a b)):=by
 rw[z2bk];unfold z116;simp only[z8,y20,beq_iff_eq,decide_eq_true_eq];by_cases h1 : z1u a=true
 ·by_cases h2 : z1u b=true
  ·rw[if_neg (by rw[h1];decide),if_neg (by rw[h2];decide),if_pos h1,if_pos h2];by_cases h3 : a=0
   ·rw[if_pos h3,if_pos h3]
   ·by_cases h4 : b=0
    ·rw[if_neg h3,if_pos h4,if_neg h3,if_pos h4]
    ·have hb:=h2;rw[zyt,z2kz] at hb;have hm:mxI b≠0:=by
      unfold mxI;simp only[yr,y1q];rw[z1j (by omega)];split<;>omega
     rw[if_neg h3,if_neg h4,if_neg h3,if_neg h4];refine (z6 hm).trans ?_;show (if mxI a > IntKind.i64.wrap (Int.tdiv 1000000000000000 (mxI b)) then _ else _)=_;by_cases h5 : mxI a > IntKind.i64.wrap (Int.tdiv 1000000000000000 (mxI b))
     ·rw[if_pos h5,if_pos h5]
     ·rw[if_neg h5,if_neg h5]
  ·rw[if_neg (by rw[h1];decide),if_pos (by simpa using h2),if_pos h1,if_neg h2]
 ·rw[if_pos (by simpa using h1),if_neg h1]
def z2fc : FnC Un:=fnF2 (dI .i64) (dI .i64) fun a b=>([],zmd (z116 a b))
theorem z2bl : FnOK 203 z2fc:=fnK2 z1c z1c (M:=z1vs) rfl ⟨zbi,zir,trivial⟩ trivial trivial trivial trivial Tryz.func203 fun a b=>GiF.r fun w _=>z22w a b (wfA_ w 0) (wfA_ w 1)
def z1nv (a:Int) (b:Int) : Option (RF Un):=fnF_ z1vs z262 Tryz.f204 0 [.d,.d] [.d (.v (.s (.int .i64 a))),.d (.v (.s (.int .i64 b)))]
theorem z2bm (a:Int) (b:Int) : z1nv a b=cndO (!z1u a) (some (zmd ((0:Int),false))) (cndO (!z1u b) (some (zmd ((0:Int),false))) (cndO (b == 0) (some (zmd ((0:Int),false))) (obO (¬b=0) (some (zmd ((z3r a b (IntKind.i64.wrap (a.tdiv b))).fst,(z3r a b (IntKind.i64.wrap (a.tdiv b))).snd)))))):=by kernel_rfl
def z117 (a b:Int) : Int×Bool :=
 if z1u a=true then (if z1u b=true then (if b=0 then (0,false) else z3r a b (IntKind.i64.wrap (a.tdiv b))) else (0,false)) else (0,false)
theorem z22x (a b:Int) (_ha:WI a) (_hb:WI b) : z1nv a b=some (zmd (z117 a b)):=by
 rw[z2bm];unfold z117;simp only[z8,y20,beq_iff_eq];by_cases h1 : z1u a=true
 ·by_cases h2 : z1u b=true
  ·by_cases h3 : b=0
   ·rw[if_neg (by rw[h1];decide),if_neg (by rw[h2];decide),if_pos h3,if_pos h1,if_pos h2,if_pos h3]
   ·rw[if_neg (by rw[h1];decide),if_neg (by rw[h2];decide),if_neg h3,if_pos h1,if_pos h2,if_neg h3,z6 h3]
  ·rw[if_neg (by rw[h1];decide),if_pos (by simpa using h2),if_pos h1,if_neg h2]
 ·rw[if_pos (by simpa using h1),if_neg h1]
def z2fe : FnC Un:=fnF2 (dI .i64) (dI .i64) fun a b=>([],zmd (z117 a b))
theorem z2bn : FnOK 204 z2fe:=fnK2 z1c z1c (M:=z1vs) rfl ⟨zbi,zir,trivial⟩ trivial trivial trivial trivial Tryz.func204 fun a b=>GiF.r fun w _=>z22x a b (wfA_ w 0) (wfA_ w 1)
def z1nw (a:Int) (b:Int) : Option (RF Un):=fnF_ z1vs z262 Tryz.f205 0 [.d,.d] [.d (.v (.s (.int .i64 a))),.d (.v (.s (.int .i64 b)))]
theorem z2bo (a:Int) (b:Int) : z1nw a b=cndO (!z1u a) (some (zmd ((0:Int),false))) (cndO (!z1u b) (some (zmd ((0:Int),false))) (cndO (b == 0) (some (zmd ((0:Int),false))) (obO (¬b=0) (some (zmd ((z3r a b (a.tmod b)).fst,(z3r a b (a.tmod b)).snd)))))):=by kernel_rfl
def z118 (a b:Int) : Int×Bool :=
 if z1u a=true then (if z1u b=true then (if b=0 then (0,false) else z3r a b (a.tmod b)) else (0,false)) else (0,false)
theorem z22y (a b:Int) (_ha:WI a) (_hb:WI b) : z1nw a b=some (zmd (z118 a b)):=by
 rw[z2bo];unfold z118;simp only[z8,y20,beq_iff_eq];by_cases h1 : z1u a=true
 ·by_cases h2 : z1u b=true
  ·by_cases h3 : b=0
   ·rw[if_neg (by rw[h1];decide),if_neg (by rw[h2];decide),if_pos h3,if_pos h1,if_pos h2,if_pos h3]
   ·rw[if_neg (by rw[h1];decide),if_neg (by rw[h2];decide),if_neg h3,if_pos h1,if_pos h2,if_neg h3,z6 h3]
  ·rw[if_neg (by rw[h1];decide),if_pos (by simpa using h2),if_pos h1,if_neg h2]
 ·rw[if_pos (by simpa using h1),if_neg h1]
def z2fg : FnC Un:=fnF2 (dI .i64) (dI .i64) fun a b=>([],zmd (z118 a b))
theorem z2bp : FnOK 205 z2fg:=fnK2 z1c z1c (M:=z1vs) rfl ⟨zbi,zir,trivial⟩ trivial trivial trivial trivial Tryz.func205 fun a b=>GiF.r fun w _=>z22y a b (wfA_ w 0) (wfA_ w 1)
end
end Go.Proofs.YtjfpbchdcbhfgaaGreat.B
namespace Go.Proofs.YtjfpbchdcbhfgaaGreat.B
open Go Go.RowKit
set_option maxRecDepth 100000
noncomputable section
attribute [local irreducible] awp ctxK zu z1d retQ z1p awf ctxF z1o
def z1vz (a:Int) : Option (RF Un):=fnF_ z1du z262 Tryz.f232 0 [.d] [.d (.v (.s (.int .i64 a)))]
theorem z2fh (a:Int) : z1vz a=cndO (a == 0) (some (z9f (true))) (cndO (a == 1) (some (z9f (true))) (some (z9f (a == 2)))):=by kernel_rfl
def z19f (a:Int) : Bool :=
  if (a == (0:Int))=true then
   (true)
  else
   if (a == (1:Int))=true then
    (true)
   else
    (a == (2:Int))
theorem z2fi (a:Int) : z1vz a=some (z9f (z19f a)):=by rw[z2fh];unfold z19f;simp only[z8];repeat (first | rfl | split)
def z230 : FnC Un:=fnF1 (dI .i64) fun a=>([],z9f (z19f a))
theorem z2fj : FnOK 232 z230:=fnK1 z1c (M:=z1du) rfl trivial trivial trivial trivial trivial Tryz.func232 fun a=>GiF.r fun _ _=>z2fi a
def z1w0 : Mc Un:=mcF_ [(232,z230)] [] [] [] []
def z1nx (a:Int) : Option (RF Un):=fnF_ z1w0 z262 Tryz.f198 0 [.d] [.d (.v (.s (.int .i64 a)))]
theorem z2bq (a:Int) : z1nx a=cndO (z19f a) (some (z2f (a))) (some (z2f ((1:Int)))):=by kernel_rfl
def z67 (a:Int) : Int :=
  if (z19f a)=true then
   (a)
  else
   ((1:Int))
theorem z2br (a:Int) : z1nx a=some (z2f (z67 a)):=by rw[z2bq];unfold z67;simp only[z8];repeat (first | rfl | split)
def zgc : FnC Un:=fnF1 (dI .i64) fun a=>([],z2f (z67 a))
theorem ztk : FnOK 198 zgc:=fnK1 z1c (M:=z1w0) rfl ⟨z2fj,trivial⟩ trivial trivial trivial trivial Tryz.func198 fun a=>GiF.r fun _ _=>z2br a
def z1w1 (b:Bool) : Option (RF Un):=fnF_ z1du z262 Tryz.f154 0 [.d] [.d (.v (cb b))]
theorem z2fl (b:Bool) : z1w1 b=cndO (b) (some (z2f ((2:Int)))) (some (z2f ((0:Int)))):=by kernel_rfl
def zn8 (b:Bool) : Int :=
  if (b)=true then
   ((2:Int))
  else
   ((0:Int))
theorem z2fm (b:Bool) : z1w1 b=some (z2f (zn8 b)):=by rw[z2fl];unfold zn8;simp only[z8];repeat (first | rfl | split)
def z1iu : FnC Un:=fnF1 dB fun b=>([],z2f (zn8 b))
theorem z1w2 : FnOK 154 z1iu:=fnK1 z1ky (M:=z1du) rfl trivial trivial trivial trivial trivial Tryz.func154 fun b=>GiF.r fun _ _=>z2fm b
def z1w3 : Mc Un:=mcF_ [(198,zgc)] [] [] [] []
def z1ny (a:Int) : Option (RF Un):=fnF_ z1w3 z262 Tryz.f160 0 [.d] [.d (.v (.s (.int .i64 a)))]
theorem z2bs (a:Int) : z1ny a=some (z2f (IntKind.i64.wrap ((2:Int) - z67 a))):=by kernel_rfl
def zua (a:Int) : Int :=
 (IntKind.i64.wrap ((2:Int) - z67 a))
theorem z2bt (a:Int) : z1ny a=some (z2f (zua a)):=by rw[z2bs];unfold zua;simp only[z8];repeat (first | rfl | split)
def z1w4 : FnC Un:=fnF1 (dI .i64) fun a=>([],z2f (zua a))
theorem z2bu : FnOK 160 z1w4:=fnK1 z1c (M:=z1w3) rfl ⟨ztk,trivial⟩ trivial trivial trivial trivial Tryz.func160 fun a=>GiF.r fun _ _=>z2bt a
def z1nz (a:Int) (b:Int) : Option (RF Un):=fnF_ z1w3 z262 Tryz.f166 0 [.d] [.d (.v (.s (.int .i64 a))),.d (.v (.s (.int .i64 b)))]
theorem z2bv (a:Int) (b:Int) : z1nz a b=some (z19c (List.foldl (fun a b=>if b<a then b else a) (z67 a) [z67 b])):=by kernel_rfl
def zky (a:Int) (b:Int) : Int :=
 (List.foldl (fun a b=>if b<a then b else a) (z67 a) [z67 b])
theorem z2bw (a:Int) (b:Int) : z1nz a b=some (z19c (zky a b)):=by rw[z2bv];unfold zky;simp only[z8];repeat (first | rfl | split)
def zxh : FnC Un:=fun args=>match args with
 | [x0,x1]=>(dI .i64 x0).bind fun a=>(dI .i64 x1).bind fun b=>some ([],zav (zky a b),zaw (zky a b))
 | _=>none
theorem z2bx : FnOK 166 zxh:=by
 intro args ob rs os h hob;unfold zxh at h;split at h
 ·simp only[y7,y8,ym] at h;obtain⟨a,e0,b,e1,rfl,rfl,rfl⟩:=h;obtain rfl:=z1c e0;obtain rfl:=z1c e1;exact⟨z2r (M:=z1w3) rfl (z5d (l1:=[(198,zgc)]) (l2:=[]) (l3:=[]) (l4:=[]) (l5:=[]) ⟨ztk,trivial⟩ trivial trivial trivial trivial) Tryz.func166 (by kernel_rfl) z262 0 [.d] (fun hwf=>(z2bw a b)),zl Tryz.func166 (by kernel_rfl) (by kernel_rfl)⟩
 ·simp at h
def z1wa (a:Int) (b:Int) : Option (RF Un):=fnF_ z1w3 z262 Tryz.f153 0 [.d] [.d (.v (.s (.int .i64 a))),.d (.v (.s (.int .i64 b)))]
theorem z2fo (a:Int) (b:Int) : z1wa a b=some (z19c (List.foldl (fun a b=>if a<b then b else a) (z67 a) [z67 b])):=by kernel_rfl
def z93 (a:Int) (b:Int) : Int :=
 (List.foldl (fun a b=>if a<b then b else a) (z67 a) [z67 b])
theorem z2fp (a:Int) (b:Int) : z1wa a b=some (z19c (z93 a b)):=by rw[z2fo];unfold z93;simp only[z8];repeat (first | rfl | split)
def zof : FnC Un:=fun args=>match args with
 | [x0,x1]=>(dI .i64 x0).bind fun a=>(dI .i64 x1).bind fun b=>some ([],zav (z93 a b),zaw (z93 a b))
 | _=>none
theorem z19h : FnOK 153 zof:=by
 intro args ob rs os h hob;unfold zof at h;split at h
 ·simp only[y7,y8,ym] at h;obtain⟨a,e0,b,e1,rfl,rfl,rfl⟩:=h;obtain rfl:=z1c e0;obtain rfl:=z1c e1;exact⟨z2r (M:=z1w3) rfl (z5d (l1:=[(198,zgc)]) (l2:=[]) (l3:=[]) (l4:=[]) (l5:=[]) ⟨ztk,trivial⟩ trivial trivial trivial trivial) Tryz.func153 (by kernel_rfl) z262 0 [.d] (fun hwf=>(z2fp a b)),zl Tryz.func153 (by kernel_rfl) (by kernel_rfl)⟩
 ·simp at h
def z5a : FV Un:=z1m (fun a b=>zky a b)
theorem z27i : FvOK 166 z5a:=by
 refine⟨zl Tryz.func166 (by kernel_rfl) (by kernel_rfl),fun args ob rs h hob=>?_⟩;unfold z5a z1m at h;split at h
 ·simp only[y7,y8,ym] at h;obtain⟨a,e0,b,e1,rfl,rfl⟩:=h;simp only[yu,y1k];rw[z1c e0];rw[z1c e1];refine Contract.data (z2bx _ ([]) _ _ (?_ : zxh _=some _) (by simp)).1;unfold zxh;simp only[z1zo];rfl
 ·simp at h
def zak : FV Un:=z1m (fun a b=>z93 a b)
theorem z2by : FvOK 153 zak:=by
 refine⟨zl Tryz.func153 (by kernel_rfl) (by kernel_rfl),fun args ob rs h hob=>?_⟩;unfold zak z1m at h;split at h
 ·simp only[y7,y8,ym] at h;obtain⟨a,e0,b,e1,rfl,rfl⟩:=h;simp only[yu,y1k];rw[z1c e0];rw[z1c e1];refine Contract.data (z19h _ ([]) _ _ (?_ : zof _=some _) (by simp)).1;unfold zof;simp only[z1zo];rfl
 ·simp at h
def z19i (a:Int) : Option (RF Un):=fnF_ z1w3 z262 Tryz.f155 0 [.d] [.d (.v (.s (.int .i64 a)))]
theorem z237 (a:Int) : z19i a=cndO (z67 a == 0) (some (zys ({ kind:=(1:Int),n:=(0:Int),s:=(ByteArray.mk #[]) }))) (cndO (z67 a == 2) (some (zys ({ kind:=(1:Int),n:=(1:Int),s:=(ByteArray.mk #[]) }))) (some (zys (z7)))):=by kernel_rfl
def z5b (a:Int) : Val :=
  if (z67 a == (0:Int))=true then
   ({ kind:=(1:Int),n:=(0:Int),s:=(ByteArray.mk #[]) })
  else
   if (z67 a == (2:Int))=true then
    ({ kind:=(1:Int),n:=(1:Int),s:=(ByteArray.mk #[]) })
   else
    (z7)
theorem z238 (a:Int) : z19i a=some (zys (z5b a)):=by rw[z237];unfold z5b;simp only[z8];repeat (first | rfl | split)
def zf2 : FnC Un:=fnF1 (dI .i64) fun a=>([],zys (z5b a))
theorem zn9 : FnOK 155 zf2:=fnK1 z1c (M:=z1w3) rfl ⟨ztk,trivial⟩ trivial trivial trivial trivial Tryz.func155 fun a=>GiF.r fun _ _=>z238 a
def z1o0 : Mc Un:=mcF_ [(154,z1iu)] [] [] [] []
def z1fp (v:Val) : Option (RF Un):=fnF_ z1o0 z262 Tryz.f161 0 [.d] [.d (.agg (enc Ty.val v))]
theorem z27k (v:Val) : z1fp v=cndO (v.kind != 1) (some (z2f ((1:Int)))) (some (z2f (zn8 (v.n != 0)))):=by kernel_rfl
def z1e (v:Val) : Int :=
  if (v.kind != (1:Int))=true then
   ((1:Int))
  else
   (zn8 (v.n != (0:Int)))
theorem z27l (v:Val) : z1fp v=some (z2f (z1e v)):=by rw[z27k];unfold z1e;simp only[z8];repeat (first | rfl | split)
def ze2 : FnC Un:=fnF1 (dS .val) fun v=>([],z2f (z1e v))
theorem zit : FnOK 161 ze2:=fnK1 zq (M:=z1o0) rfl ⟨z1w2,trivial⟩ trivial trivial trivial trivial Tryz.func161 fun v=>GiF.r fun _ _=>z27l v
def zxi : Mc Un:=mcF_ [(153,zof)] [] [] [] []
def z19k : Nat→NS:=nsF_ [(3,{ ts:=bl 17 456,bs:=bl 17 0,nm:=[] })] false
def zhg (l:List Int) (v0:Int) (v1:Int) : S Un:=(st 17 17 68 0 [(3,ai v0),(6,al .int l),(7,ai (↑l.length:Int)),(8,ai v1)] [] [])
def ztm : S Un→Option (EX Un):=lpF_ zxi z19k Tryz.f208 [1,1,0,1,2,2] 3
def z1o1 : Exit→S Un→Option (RF Un):=cxF_ zxi z19k Tryz.f208 [1,1,0,1,2] [.d]
def z1o2 (l:List Int) : Option (RF Un):=fnF_ zxi z19k Tryz.f208 0 [.d] [.d (.v (.dat (U:=Un) Ty.int l))]
theorem z2c0 (l:List Int) : z1o2 l=(ztm (zhg l (0:Int) (0:Int))).bind (zd z1o1):=by kernel_rfl
theorem z1o3 (l:List Int) (v0:Int) (v1:Int) : ztm (zhg l v0 v1)=cndO (decide (v1<(↑l.length:Int))) (obO (0≤v1∧v1<(↑l.length:Int)) (ztm (zhg l (z93 v0 (l.getD v1.toNat (0:Int))) (IntKind.i64.wrap (v1+1))))) (some (.exit 0,(zhg l v0 v1))):=lpQ_ (by kernel_rfl)
theorem z1yh (l:List Int) (v0:Int) (v1:Int) : z1o1 (.exit 0) (zhg l v0 v1)=some (z2f (v0)):=by kernel_rfl
def z1c7 (l:List Int) : Int:=l.foldl (fun m a=>z93 m a) 0
theorem z239 (l:List Int) (hl:WL .int l) : z1o2 l=some (z2f (z1c7 l)):=by
 obtain⟨lp,_⟩:=z1q (e:=.exit 0) (L:=ztm) (st:=fun (m:Int) i=>zhg l m i) (l:=l) (d:=0) (g:=fun m a=>z93 m a) (fun _ _=>True) hl.len
  (fun m i x hi hx _=>by
   refine⟨trivial,?_⟩;rw[z1o3];simp only[z8,hi,decide_true,if_true,and_true,y5,hx]
   rw[z6 (by omega)])
  (fun m _=>by rw[z1o3];simp [z8]) 0 trivial
 rw[z2c0,zg lp,z1yh];rfl
def z1wb : FnC Un:=fnF1 (dL .int) fun l=>([],z2f (z1c7 l))
theorem z2c1 : FnOK 208 z1wb:=fnK1 z10 (M:=zxi) rfl ⟨z19h,trivial⟩ trivial trivial trivial trivial Tryz.func208 fun l=>GiF.r fun w _=>z239 l (wfA_ w 0)
end
end Go.Proofs.YtjfpbchdcbhfgaaGreat.B
namespace Go.Proofs.YtjfpbchdcbhfgaaGreat.B
open Go Go.RowKit
set_option maxRecDepth 100000
noncomputable section
attribute [local irreducible] awp ctxK zu z1d retQ z1p awf ctxF z1o
noncomputable def deq {α:Type} (a b:α) : Bool:=@decide (a=b) (Classical.propDecidable _)
theorem z2l0 {α:Type} {a b:α} : deq a b=true↔a=b:=by unfold deq;exact @decide_eq_true_iff _ (Classical.propDecidable _)
theorem z2l1 (x y:List Val) : (z7o x y != 0)=!deq x y:=by
 rw[y2d,bne_iff_ne,y20,← Bool.not_eq_true,z2l0,z1xd,ne_eq,ordR_zero]
end
end Go.Proofs.YtjfpbchdcbhfgaaGreat.B
namespace Go.Proofs
open Go.Shelf
def Tryz.lays106_ren : Go.Shelf.Ren:=⟨fun | 106=>194 | 213=>229 | 265=>245 | n=>n,fun | 9=>9 | 3=>3 | n=>n,fun | n=>n⟩
theorem Tryz.lays106 : Go.Proofs.Lays.n106 Tryz.prog Tryz.lays106_ren:={
  mixed:=by kernel_rfl
  f106:=Tryz.func194.trans (congrArg some (by kernel_rfl))
  f213:=Tryz.func229.trans (congrArg some (by kernel_rfl))
  f265:=Tryz.func245.trans (congrArg some (by kernel_rfl))
  t3:=Tryz.underlying3
  a3:=Tryz.isAgg3
  z3:=Tryz.sizeOf3
  v3:=Tryz.zeroValue3
  t9:=Tryz.underlying9
  a9:=Tryz.isAgg9
  z9:=Tryz.sizeOf9
  v9:=Tryz.zeroValue9 }
open Go.RowKit in
theorem Tryz.strings_Compare (a b:ByteArray) (w:World) :
  Calls Tryz.prog 194 #[.string a,.string b] w fun e w'=>e=.returned (.int .i64 (Lib.compareBytes a.data.toList b.data.toList))∧w'=w:=Any.strings_Compare Tryz.lays106 a b w
def Tryz.lays137_ren : Go.Shelf.Ren:=⟨fun | 137=>235 | 217=>246 | 266=>251 | n=>n,fun | 9=>9 | 5=>5 | 3=>3 | n=>n,fun | n=>n⟩
theorem Tryz.lays137 : Go.Proofs.Lays.n137 Tryz.prog Tryz.lays137_ren:={
  mixed:=by kernel_rfl
  f137:=Tryz.func235.trans (congrArg some (by kernel_rfl))
  f217:=Tryz.func246.trans (congrArg some (by kernel_rfl))
  f266:=Tryz.func251.trans (congrArg some (by kernel_rfl))
  t3:=Tryz.underlying3
  a3:=Tryz.isAgg3
  z3:=Tryz.sizeOf3
  v3:=Tryz.zeroValue3
  t5:=Tryz.underlying5
  a5:=Tryz.isAgg5
  z5:=Tryz.sizeOf5
  v5:=Tryz.zeroValue5
  t9:=Tryz.underlying9
  a9:=Tryz.isAgg9
  z9:=Tryz.sizeOf9
  v9:=Tryz.zeroValue9 }
open Go.RowKit in
theorem Tryz.strings_IndexByte (s:ByteArray) (c:Int) (w:World) :
  Calls Tryz.prog 235 #[.string s,.int .u8 c] w fun e w'=>e=.returned (.int .i64 (Lib.indexByte s.data.toList c.toNat.toUInt8))∧w'=w:=Any.strings_IndexByte Tryz.lays137 s c w
def Tryz.laysGw15_ren : Go.Shelf.Ren:=⟨fun | 15=>247 | 20=>252 | n=>n,fun | 9=>9 | 23=>221 | 3=>3 | 4=>4 | 0=>0 | 21=>21 | n=>n,fun | n=>n⟩
theorem Tryz.laysGw15 : Go.Proofs.LaysGw.n15 Tryz.prog Tryz.laysGw15_ren:={
  mixed:=by kernel_rfl
  f15:=Tryz.func247.trans (congrArg some (by kernel_rfl))
  f20:=Tryz.func252.trans (congrArg some (by kernel_rfl))
  t0:=Tryz.underlying0
  a0:=Tryz.isAgg0
  z0:=Tryz.sizeOf0
  v0:=Tryz.zeroValue0
  i0:=by kernel_rfl
  t3:=Tryz.underlying3
  a3:=Tryz.isAgg3
  z3:=Tryz.sizeOf3
  v3:=Tryz.zeroValue3
  i3:=by kernel_rfl
  t4:=Tryz.underlying4
  a4:=Tryz.isAgg4
  z4:=Tryz.sizeOf4
  v4:=Tryz.zeroValue4
  i4:=by kernel_rfl
  t9:=Tryz.underlying9
  a9:=Tryz.isAgg9
  z9:=Tryz.sizeOf9
  v9:=Tryz.zeroValue9
  i9:=by kernel_rfl
  t21:=Tryz.underlying21
  a21:=Tryz.isAgg21
  z21:=Tryz.sizeOf21
  v21:=Tryz.zeroValue21
  i21:=by kernel_rfl
  t23:=Tryz.underlying221
  a23:=Tryz.isAgg221
  z23:=Tryz.sizeOf221
  v23:=Tryz.zeroValue221
  i23:=by kernel_rfl }
open Go.RowKit Go.Lib in
theorem Tryz.strings_IndexFunc (g:Nat) (lb:Array Value) (eg:∀ args w,(callFunc g args).run Tryz.prog w=.ok (.enter g args) w) (p:Nat→Bool) (s:ByteArray) (w:World) (hp:PredAt Tryz.prog g lb encR p w) :
  Calls Tryz.prog 247 #[.string s,.func (.func g) #[] lb] w fun e w'=>e=.returned (.int .i64 (Lib.idxFunc p true s))∧Below w.heap.size w w':=Any.strings_IndexFunc Tryz.laysGw15 g lb eg p s w hp
def Tryz.lays107_ren : Go.Shelf.Ren:=⟨fun | 107=>206 | 108=>234 | n=>n,fun | 28=>42 | 3=>3 | 4=>4 | 0=>0 | n=>n,fun | n=>n⟩
theorem Tryz.lays107 : Go.Proofs.Lays.n107 Tryz.prog Tryz.lays107_ren:={
  mixed:=by kernel_rfl
  f107:=Tryz.func206.trans (congrArg some (by kernel_rfl))
  f108:=Tryz.func234.trans (congrArg some (by kernel_rfl))
  t0:=Tryz.underlying0
  a0:=Tryz.isAgg0
  z0:=Tryz.sizeOf0
  v0:=Tryz.zeroValue0
  t3:=Tryz.underlying3
  a3:=Tryz.isAgg3
  z3:=Tryz.sizeOf3
  v3:=Tryz.zeroValue3
  t4:=Tryz.underlying4
  a4:=Tryz.isAgg4
  z4:=Tryz.sizeOf4
  v4:=Tryz.zeroValue4
  t28:=Tryz.underlying42
  a28:=Tryz.isAgg42
  z28:=Tryz.sizeOf42
  v28:=Tryz.zeroValue42 }
open Go.Lib in
theorem Tryz.slices_Contains_int (b off n c:Nat) (zs:List Int) (x:Int) (w:World) (hz:n≤zs.length) (hbig:n≤9223372036854775807) (hc:∀ j,j<zs.length→w.cell? ⟨b,off+j,none⟩=some (.int .i64 (zs.getD j 0))) :
  Calls Tryz.prog 206 #[.slice (some ⟨b,off,none⟩) n c,.int .i64 x] w fun e w'=>e=.returned (.bool ((zs.take n).contains x))∧w'=w:=Any.slices_Contains_int Tryz.lays107 b off n c zs x w hz hbig hc
end Go.Proofs
namespace Go.Proofs.YtjfpbchdcbhfgaaGreat.B
open Go Go.RowKit
set_option maxRecDepth 1000000
def idxB (s:ByteArray) (c:Int) : Int:=Lib.indexByte s.data.toList c.toNat.toUInt8
theorem z19l : ∀ (l:List UInt8) (c:UInt8),Lib.indexByte l c≤l.length
 | [],_=>by simp [Lib.indexByte]
 | b::l,c=>by
  have:=z19l l c;unfold Lib.indexByte;rw[yq]
  repeat' split
  all_goals omega
theorem z2c2 (s:ByteArray) (c:Int) : -1≤idxB s c∧idxB s c≤s.size:=by
 unfold idxB;have h1:=Lib.indexByte_ge s.data.toList c.toNat.toUInt8;have h2:=z19l s.data.toList c.toNat.toUInt8;rw[y1o] at h2;exact⟨h1,h2⟩
def zf6 : FnC Un:=fun args=>match args with
 | [x0,x1]=>(dStr x0).bind fun s=>(dI .u8 x1).bind fun c=>some ([],[.c (.s (.int .i64 (idxB s c)))],[])
 | _=>none
theorem z13u : FnOK 235 zf6:=by
 intro args ob rs os h hob;unfold zf6 at h;split at h
 ·rename_i x0 x1;simp only[y7,y8,ym] at h;obtain⟨s,e0,c,e1,rfl,rfl,rfl⟩:=h;obtain rfl:=z43 e0;obtain rfl:=z1c e1;refine⟨?_,zl Tryz.func235 (by kernel_rfl) (by kernel_rfl)⟩;have hx:=z2c2 s c;by_cases hr : s.size≤9223372036854775807
  ·refine zxa (oneC_i64.2 (by omega)) fun w vs St hvs=>?_
   match vs,hvs with
   | [v0,v1],⟨h0,h1,_⟩ =>
    obtain⟨rfl,-⟩:=zve h0;obtain⟨rfl,-⟩:=zvf h1;exact Tryz.strings_IndexByte s c w
  ·intro w St vs hbd hvs hld
   match vs,hvs with
   | [v0,v1],⟨h0,h1,_⟩ =>
    obtain⟨rfl,g0⟩:=zve h0;exact absurd g0 hr
 ·simp at h
end Go.Proofs.YtjfpbchdcbhfgaaGreat.B
namespace Go.Proofs.YtjfpbchdcbhfgaaGreat.B
open Go Go.RowKit
set_option maxRecDepth 100000
noncomputable section
attribute [local irreducible] awp ctxK zu z1d retQ z1p awf ctxF z1o
def zna : Mc Un:=mcF_ [(235,zf6)] [] [] [] []
def zvl (r:List Sign) : RF Un:=([.c (.ob 0 0)],[⟨0,Ty.sign,r,none,true⟩])
def zvm : Nat→NS:=nsF_ [(3,{ ts:=bl 66 25,bs:=bl 66 0,nm:=[(.sl 3,264)] })] false
def z2o (p:ByteArray) (v0:Int) (v1:List Sign) : S Un:=(st 66 66 265 0 [(0,at_ p),(3,ao 264),(4,ai v0)] [] [(264,some ⟨(0:Nat),Ty.sign,v1,some (0:Nat),true⟩)])
def z5x : S Un→Option (EX Un):=lpF_ zna zvm Tryz.f207 [1,1,0,1,2,2] 3
def z15d : Exit→S Un→Option (RF Un):=cxF_ zna zvm Tryz.f207 [1,1,0,1,2] [.o]
def z15e (p:ByteArray) : Option (RF Un):=fnF_ zna zvm Tryz.f207 1 [.o] [.d (.v (cs p))]
theorem z1yi (p:ByteArray) : z15e p=(z5x (z2o p (0:Int) ([]))).bind (zd z15d):=by kernel_rfl
def zei (p:ByteArray) (v0:Int) (v1:List Sign) : Option (EX Un):=obO (0≤v0∧v0<(↑p.size:Int)) (obO ((v1.length+([{ kind:=(0:Int),b:=(↑(p.toList.getD v0.toNat 0).toNat:Int) }] : List Sign).length)*(16:Nat)≤zi) (z5x (z2o p (IntKind.i64.wrap (v0+1)) (v1++[{ kind:=(0:Int),b:=(↑(p.toList.getD v0.toNat 0).toNat:Int) }]))))
theorem zs6 (p:ByteArray) (v0:Int) (v1:List Sign) : z5x (z2o p v0 v1)=cndO (decide (v0<(↑p.size:Int))) (obO (0≤v0∧v0<(↑p.size:Int)) (cndO ((↑(p.toList.getD v0.toNat 0).toNat:Int) == (37:Int)) (obO ((v1.length+([{ kind:=(2:Int),b:=(0:Int) }] : List Sign).length)*(16:Nat)≤zi) (z5x (z2o p (IntKind.i64.wrap (v0+1)) (v1++[{ kind:=(2:Int),b:=(0:Int) }])))) (obO (0≤v0∧v0<(↑p.size:Int)) (cndO ((↑(p.toList.getD v0.toNat 0).toNat:Int) == (95:Int)) (obO ((v1.length+([{ kind:=(1:Int),b:=(0:Int) }] : List Sign).length)*(16:Nat)≤zi) (z5x (z2o p (IntKind.i64.wrap (v0+1)) (v1++[{ kind:=(1:Int),b:=(0:Int) }])))) (obO (0≤v0∧v0<(↑p.size:Int)) (cndO ((↑(p.toList.getD v0.toNat 0).toNat:Int) == (92:Int)) (cndO (decide (IntKind.i64.wrap (v0+1)<(↑p.size:Int))) (obO (0≤IntKind.i64.wrap (v0+1)∧IntKind.i64.wrap (v0+1)<(↑p.size:Int)) (cndO (decide (idxB (ByteArray.mk #[37,95,92]) (↑(p.toList.getD (IntKind.i64.wrap (v0+1)).toNat 0).toNat:Int)≥(0:Int))) (obO (0≤IntKind.i64.wrap (v0+1)∧IntKind.i64.wrap (v0+1)<(↑p.size:Int)) (obO ((v1.length+([{ kind:=(0:Int),b:=(↑(p.toList.getD (IntKind.i64.wrap (v0+1)).toNat 0).toNat:Int) }] : List Sign).length)*(16:Nat)≤zi) (z5x (z2o p (IntKind.i64.wrap (IntKind.i64.wrap (v0+1)+1)) (v1++[{ kind:=(0:Int),b:=(↑(p.toList.getD (IntKind.i64.wrap (v0+1)).toNat 0).toNat:Int) }]))))) (zei p v0 v1))) (zei p v0 v1)) (zei p v0 v1))))))) (some (.exit 0,(z2o p v0 v1))):=lpQ_ (by kernel_rfl)
theorem z1iv (p:ByteArray) (v0:Int) (v1:List Sign) : z15d (.exit 0) (z2o p v0 v1)=some (zvl (v1)):=by kernel_rfl
def escB (d:UInt8) : Bool:=decide (idxB (ByteArray.mk #[37,95,92]) (d.toNat:Int)≥0)
def z94 : List UInt8→List Sign
 | []=>[]
 | [c]=>if (c.toNat:Int)=37 then [⟨2,0⟩] else if (c.toNat:Int)=95 then [⟨1,0⟩] else [⟨0,(c.toNat:Int)⟩]
 | c::d::r=>if (c.toNat:Int)=37 then ⟨2,0⟩::z94 (d::r) else if (c.toNat:Int)=95 then ⟨1,0⟩::z94 (d::r) else if (c.toNat:Int)=92∧escB d=true then ⟨0,(d.toNat:Int)⟩::z94 r else ⟨0,(c.toNat:Int)⟩::z94 (d::r)
def z1i (p:ByteArray) : List Sign:=z94 p.toList
theorem z13v : ∀ (n:Nat) (l:List UInt8),l.length≤n→(z94 l).length≤l.length
 | _,[],_=>y6 _
 | _,[c],_=>by
  grind [z94]
 | n+1,c::d::r,h=>by
  simp at h;have h1:=z13v n (d::r) (by grind);have h2:=z13v n r (by omega);grind [List.length_cons,z94]
 | 0,c::d::r,h=>by grind
theorem z2c3 (p:ByteArray) (hp:p.size≤2000000) : ∀ (n i:Nat) (o:List Sign),p.size - i≤n→i≤p.size→o.length≤i→z5x (z2o p (i:Int) o)=some (.exit 0,z2o p (p.size:Int) (o++z94 (p.toList.drop i))):=by
 intro n;have hsz:=z3f p
 induction n with
 | zero =>
  intro i o h1 h2 h3;have e:i=p.size:=by omega
  subst e;rw[zs6,z8,if_neg (by simp),y21 (by omega)];simp only[z94,y14]
 | succ n ih =>
  intro i o h1 h2 h3;rcases yj i p.size with hi | hi
  ·have hw:IntKind.i64.wrap ((i:Int)+1)=((i+1:Nat):Int):=by rw[z1j (by omega)];omega
   have hg:(p.toList.getD i 0)=p.toList[i]'(by omega):=by rw[yc,y9 (by omega)];rfl
   have hd:p.toList.drop i=p.toList[i]'(by omega)::p.toList.drop (i+1):=y1y (by omega);have ih1:∀ x : Sign,z5x (z2o p ((i+1:Nat):Int) (o++[x]))=some (.exit 0,z2o p (p.size:Int) (o++x::z94 (p.toList.drop (i+1)))):=by
    intro x;rw[ih (i+1) (o++[x]) (by omega) (by omega) (by rw[ya,ye];omega),y12];rfl
   have e1:zei p (i:Int) o=some (.exit 0,z2o p (p.size:Int) (o++⟨0,((p.toList[i]'(by omega)).toNat:Int)⟩::z94 (p.toList.drop (i+1)))):=by
    unfold zei;rw[z6 (by omega),z6 (by unfold zi;rw[ye];omega),y5,hg,hw,ih1]
   rw[zs6,e1];simp only[z8,decide_eq_true_eq,beq_iff_eq,y5,hg,hw];rw[if_pos (by omega),z6 (by omega),z6 (by unfold zi;rw[ye];omega),z6 (by omega),z6 (by unfold zi;rw[ye];omega),z6 (by omega),ih1,ih1,hd];generalize p.toList[i]'(by omega)=c;rcases yj (i+1) p.size with hj | hj
   ·have hg2:(p.toList.getD (i+1) 0)=p.toList[i+1]'(by omega):=by rw[yc,y9 (by omega)];rfl
    have hd2:p.toList.drop (i+1)=p.toList[i+1]'(by omega)::p.toList.drop (i+1+1):=y1y (by omega);have hw2:IntKind.i64.wrap (((i+1:Nat):Int)+1)=((i+1+1:Nat):Int):=by rw[z1j (by omega)];omega
    have ih2:∀ x : Sign,z5x (z2o p ((i+1+1:Nat):Int) (o++[x]))=some (.exit 0,z2o p (p.size:Int) (o++x::z94 (p.toList.drop (i+1+1)))):=by
     intro x;rw[ih (i+1+1) (o++[x]) (by omega) (by omega) (by rw[ya,ye];omega),y12];rfl
    rw[if_pos (show ((i+1:Nat):Int)<(p.size:Int) by omega),z6 (by omega),z6 (by omega),z6 (by unfold zi;rw[ye];omega),hg2,hw2,ih2,hd2];generalize p.toList[i+1]'(by omega)=d;simp only[z94];by_cases c1 : (c.toNat:Int)=37
    ·rw[if_pos c1,if_pos c1]
    ·rw[if_neg c1,if_neg c1];by_cases c2 : (c.toNat:Int)=95
     ·rw[if_pos c2,if_pos c2]
     ·rw[if_neg c2,if_neg c2];by_cases c3 : (c.toNat:Int)=92
      ·by_cases c4 : escB d=true
       ·have c4':idxB (ByteArray.mk #[37,95,92]) (d.toNat:Int)≥0:=by unfold escB at c4;exact of_decide_eq_true c4
        rw[if_pos c3,if_pos c4',if_pos ⟨c3,c4⟩]
       ·have c4':¬ idxB (ByteArray.mk #[37,95,92]) (d.toNat:Int)≥0:=fun e=>c4 (by unfold escB;exact decide_eq_true e);rw[if_pos c3,if_neg c4',if_neg (fun e=>c4 e.2)]
      ·rw[if_neg c3,if_neg (fun e=>c3 e.1)]
   ·have hd2:p.toList.drop (i+1)=[]:=y21 (by omega);rw[if_neg (show ¬ ((i+1:Nat):Int)<(p.size:Int) by omega),hd2];simp only[z94];by_cases c1 : (c.toNat:Int)=37
    ·rw[if_pos c1,if_pos c1]
    ·rw[if_neg c1,if_neg c1];by_cases c2 : (c.toNat:Int)=95
     ·rw[if_pos c2,if_pos c2]
     ·rw[if_neg c2,if_neg c2];split<;>rfl
  ·have e:i=p.size:=by omega
   subst e;rw[zs6,z8,if_neg (by simp),y21 (by omega)];simp only[z94,y14]
theorem z1o4 (p:ByteArray) (_hp:WStr p) (h:p.size≤2000000) : z15e p=some (zvl (z1i p)):=by
 have lp:=z2c3 p h p.size 0 [] (by omega) (by omega) (y6 _);rw[y10,y2j] at lp;rw[z1yi];refine (zg lp).trans ?_;rw[z1iv];rfl
def z19m : FnC Un:=fnF1 dStr fun p=>([p.size≤2000000],zvl (z1i p))
theorem z1yj : FnOK 207 z19m:=fnK1 z43 (M:=zna) rfl ⟨z13u,trivial⟩ trivial trivial trivial trivial Tryz.func207 fun p=>GiF.r fun w o=>z1o4 p (wfA_ w 0) (obA_ o 0)
def zda : Mc Un:=mcF_ [(207,z19m)] [] [] [] []
def zgd : Nat→NS:=nsF_ [(4,{ ts:=bl 87 1009,bs:=bl 87 0,nm:=[(.sl 5,348)] }),(15,{ ts:=bl 87 160,bs:=bl 87 0,nm:=[(.sl 5,349)] })] false
def z2e (s:ByteArray) (p:ByteArray) (v0:Int) (v1:Int) (v2:Int) (v3:Int) : S Un:=(st 87 87 350 0 [(0,at_ s),(4,ab false),(5,ao 348),(6,ai v2),(7,ai v0),(8,ai v1),(9,ai v3)] [] [(348,some ⟨(0:Nat),Ty.sign,z1i p,none,true⟩)])
def z2y (p:ByteArray) (v0:Int) : S Un:=(st 87 87 350 0 [(5,ao 349),(7,ai v0)] [] [(349,some ⟨(0:Nat),Ty.sign,z1i p,none,true⟩)])
def z53 : S Un→Option (EX Un):=lpF_ zda zgd Tryz.f167 [1,1,1,1,0,2,2] 4
def z68 : S Un→Option (EX Un):=lpF_ zda zgd Tryz.f167 [1,1,1,1,1,0,2,2] 15
def z8w : Exit→S Un→Option (RF Un):=cxF_ zda zgd Tryz.f167 [1,1,1,1,0,2] [.d]
def zog : Exit→S Un→Option (RF Un):=cxF_ zda zgd Tryz.f167 [1,1,1,1,1,0,2] [.d]
def zjq (s:ByteArray) (p:ByteArray) : Option (RF Un):=fnF_ zda zgd Tryz.f167 2 [.d] [.d (.v (cs s)),.d (.v (cs p))]
theorem z1yk (s:ByteArray) (p:ByteArray) : zjq s p=obO (p.size≤(2000000:Nat)) ((z53 (z2e s p (0:Int) (-1:Int) (0:Int) (0:Int))).bind (zd z8w)):=by kernel_rfl
def zjr (s:ByteArray) (p:ByteArray) (v0:Int) (v1:Int) (v2:Int) (v3:Int) : Option (EX Un):=cndO (decide (v1≥0)) (z53 (z2e s p (IntKind.i64.wrap (v1+1)) v1 (IntKind.i64.wrap (v3+1)) (IntKind.i64.wrap (v3+1)))) (some (.ret,(z2e s p v0 v1 v2 v3)))
def zjs (s:ByteArray) (p:ByteArray) (v0:Int) (v1:Int) (v2:Int) (v3:Int) : Option (EX Un):=cndO (decide (v0<(↑(z1i p).length:Int))) (obO (0≤v0∧v0<(↑(z1i p).length:Int)) (cndO (((z1i p).getD v0.toNat zo6).kind == 1) (z53 (z2e s p (IntKind.i64.wrap (v0+1)) v1 (IntKind.i64.wrap (v2+1)) v3)) (obO (0≤v0∧v0<(↑(z1i p).length:Int)) (obO (0≤v2∧v2<(↑s.size:Int)) (cndO (((z1i p).getD v0.toNat zo6).b == (↑(s.toList.getD v2.toNat 0).toNat:Int)) (z53 (z2e s p (IntKind.i64.wrap (v0+1)) v1 (IntKind.i64.wrap (v2+1)) v3)) (zjr s p v0 v1 v2 v3)))))) (zjr s p v0 v1 v2 v3)
theorem z15f (s:ByteArray) (p:ByteArray) (v0:Int) (v1:Int) (v2:Int) (v3:Int) : z53 (z2e s p v0 v1 v2 v3)=cndO (decide (v2<(↑s.size:Int))) (cndO (decide (v0<(↑(z1i p).length:Int))) (obO (0≤v0∧v0<(↑(z1i p).length:Int)) (cndO (((z1i p).getD v0.toNat zo6).kind == 2) (z53 (z2e s p (IntKind.i64.wrap (v0+1)) v0 v2 v2)) (zjs s p v0 v1 v2 v3))) (zjs s p v0 v1 v2 v3)) (some (.exit 0,(z2e s p v0 v1 v2 v3))):=lpQ_ (by kernel_rfl)
theorem z1d0 (s:ByteArray) (p:ByteArray) (v0:Int) (v1:Int) (v2:Int) (v3:Int) : z8w .ret (z2e s p v0 v1 v2 v3)=some (z9f (false)):=by kernel_rfl
theorem z1iw (s:ByteArray) (p:ByteArray) (v0:Int) (v1:Int) (v2:Int) (v3:Int) : z8w (.exit 0) (z2e s p v0 v1 v2 v3)=(z68 (z2y p v0)).bind (zd zog):=by kernel_rfl
theorem zoh (p:ByteArray) (v0:Int) : z68 (z2y p v0)=cndO (decide (v0<(↑(z1i p).length:Int))) (obO (0≤v0∧v0<(↑(z1i p).length:Int)) (cndO (((z1i p).getD v0.toNat zo6).kind == 2) (z68 (z2y p (IntKind.i64.wrap (v0+1)))) (some (.exit 3,(z2y p v0))))) (some (.exit 3,(z2y p v0))):=lpQ_ (by kernel_rfl)
theorem zst (p:ByteArray) (v0:Int) : zog (.exit 3) (z2y p v0)=some (z9f (v0 == (↑(z1i p).length:Int))):=by kernel_rfl
theorem z2fq (s p:ByteArray) (hp:(z1i p).length≤2000000) : ∀ (c k:Nat),(z1i p).length - k=c→k≤(z1i p).length→∃ r,(z68 (z2y p (k:Int))).bind (zd zog)=some (z9f r):=by
 intro c
 induction c with
 | zero =>
  intro k h1 h2;have e:z68 (z2y p (k:Int))=some (.exit 3,z2y p (k:Int)):=by rw[zoh,z8,if_neg (by simp;omega)]
  rw[zg e,zst];exact⟨_,rfl⟩
 | succ c ih =>
  intro k h1 h2;by_cases hk : ((z1i p).getD k zo6).kind=2
  ·have e:z68 (z2y p (k:Int))=z68 (z2y p ((k+1:Nat):Int)):=by
    rw[zoh,z8,if_pos (by simp;omega),z6 (by omega),y5,z8,if_pos (by simpa using hk),show IntKind.i64.wrap ((k:Int)+1)=((k+1:Nat):Int) by rw[z1j (by omega)];omega]
   rw[e];exact ih (k+1) (by omega) (by omega)
  ·have e:z68 (z2y p (k:Int))=some (.exit 3,z2y p (k:Int)):=by
    rw[zoh,z8,if_pos (by simp;omega),z6 (by omega),y5,z8,if_neg (by simpa using hk)]
   rw[zg e,zst];exact⟨_,rfl⟩
theorem z2fr (s p:ByteArray) (hs:s.size≤2000000) (hp:(z1i p).length≤2000000) : ∀ (a b c k at_ from_:Nat) (star:Int),s.size - from_=a→s.size - at_=b→(z1i p).length - k=c →
  at_≤s.size→from_≤at_→k≤(z1i p).length→star<((z1i p).length:Int)→-1≤star →
  ∃ r,(z53 (z2e s p (k:Int) star (at_:Int) (from_:Int))).bind (zd z8w)=some (z9f r):=by
 intro a
 induction a using Nat.strongRecOn with
 | ind a iha =>
  intro b
  induction b using Nat.strongRecOn with
  | ind b ihb =>
   intro c
   induction c using Nat.strongRecOn with
   | ind c ihc =>
    intro k at_ from_ star h1 h2 h3 h4 h5 h6 h7 h8;rcases yj at_ s.size with ha | ha
    ·have wk:k<(z1i p).length→IntKind.i64.wrap ((k:Int)+1)=((k+1:Nat):Int):=fun h=>by rw[z1j (by omega)];omega
     have wa:IntKind.i64.wrap ((at_:Int)+1)=((at_+1:Nat):Int):=by rw[z1j (by omega)];omega
     have wf:IntKind.i64.wrap ((from_:Int)+1)=((from_+1:Nat):Int):=by rw[z1j (by omega)];omega
     have t1:∃ r,(zjr s p (k:Int) star (at_:Int) (from_:Int)).bind (zd z8w)=some (z9f r):=by
      unfold zjr;by_cases hst : star≥0
      ·obtain⟨q,rfl⟩:=y4e hst;rw[z8,if_pos (decide_eq_true hst),wf,show IntKind.i64.wrap ((q:Int)+1)=((q+1:Nat):Int) by rw[z1j (by omega)];omega];exact iha (s.size - (from_+1)) (by omega) _ _ (q+1) (from_+1) (from_+1) (q:Int) rfl rfl rfl (by omega) (by omega) (by omega) h7 h8
      ·have e:cndO (decide (star≥0)) (z53 (z2e s p (IntKind.i64.wrap (star+1)) star (IntKind.i64.wrap ((from_:Int)+1)) (IntKind.i64.wrap ((from_:Int)+1)))) (some (.ret,(z2e s p (k:Int) star (at_:Int) (from_:Int))))=some (.ret,(z2e s p (k:Int) star (at_:Int) (from_:Int))):=by rw[z8,if_neg (by simpa using hst)]
       rw[zg e,z1d0];exact⟨_,rfl⟩
     have t2:∃ r,(zjs s p (k:Int) star (at_:Int) (from_:Int)).bind (zd z8w)=some (z9f r):=by
      unfold zjs;rcases yj k (z1i p).length with hk | hk
      ·have ihm:∃ r,(z53 (z2e s p ((k+1:Nat):Int) star ((at_+1:Nat):Int) (from_:Int))).bind (zd z8w)=some (z9f r) :=
        ihb (s.size - (at_+1)) (by omega) _ (k+1) (at_+1) from_ star h1 rfl rfl (by omega) (by omega) (by omega) h7 h8
       rw[z8,if_pos (by simp;omega),z6 (by omega),z6 (by omega),z6 (by omega),wk hk,wa,z8,z8];split
       ·exact ihm
       ·split
        ·exact ihm
        ·exact t1
      ·rw[z8,if_neg (by simp;omega)];exact t1
     rw[z15f,z8,if_pos (by simp;omega),z8];rcases yj k (z1i p).length with hk | hk
     ·rw[if_pos (by simp;omega),z6 (by omega),z8];split
      ·rw[wk hk];rcases yj (s.size - at_) a with hlt | hge
       ·exact iha (s.size - at_) hlt _ _ (k+1) at_ at_ (k:Int) rfl rfl rfl (by omega) (by omega) (by omega) (by omega) (by omega)
       ·exact ihc ((z1i p).length - (k+1)) (by omega) (k+1) at_ at_ (k:Int) (by omega) h2 rfl (by omega) (by omega) (by omega) (by omega) (by omega)
      ·exact t2
     ·rw[if_neg (by simp;omega)];exact t2
    ·have e:z53 (z2e s p (k:Int) star (at_:Int) (from_:Int))=some (.exit 0,z2e s p (k:Int) star (at_:Int) (from_:Int)):=by rw[z15f,z8,if_neg (by simp;omega)]
     rw[zg e,z1iw];exact z2fq s p hp _ k rfl h6
theorem z2c4 (s p:ByteArray) (hs:s.size≤2000000) (hp:p.size≤2000000) : ∃ r,zjq s p=some (z9f r):=by
 have hl:(z1i p).length≤2000000:=by
  have:=z13v _ p.toList (y6 _);rw[z3f] at this;unfold z1i;omega
 rw[z1yk,z6 hp];exact z2fr s p hs hl _ _ _ 0 0 0 (-1) rfl rfl rfl (by omega) (by omega) (by omega) (by omega) (by omega)
noncomputable def znb (s p:ByteArray) : Bool:=@dite _ (∃ r,zjq s p=some (z9f r)) (Classical.propDecidable _) (fun h=>h.choose) (fun _=>false)
theorem z1o5 (s p:ByteArray) (_hs:WStr s) (_hp:WStr p) (h1:s.size≤2000000) (h2:p.size≤2000000) : zjq s p=some (z9f (znb s p)):=by
 have h:=z2c4 s p h1 h2;unfold znb;rw[dif_pos h];exact h.choose_spec
def z19n : FnC Un:=fnF2 dStr dStr fun s p=>([s.size≤2000000,p.size≤2000000],z9f (znb s p))
theorem z1yl : FnOK 167 z19n:=fnK2 z43 z43 (M:=zda) rfl ⟨z1yj,trivial⟩ trivial trivial trivial trivial Tryz.func167 fun s p=>GiF.r fun w o=>z1o5 s p (wfA_ w 0) (wfA_ w 1) (obA_ o 0) (obA_ o 1)
end
end Go.Proofs.YtjfpbchdcbhfgaaGreat.B
