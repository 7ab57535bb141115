/- Part 13 of the proof: Sagg1 Lown Lclone Linsert Sagg2. -/
import Derived.Shelf.SlicesE.Clone
import Derived.Shelf.Spec.SlicesInsertGrow
import Derived.Test.YtjfpbchdcbhfgaaGreatNgr12
set_option linter.unusedVariables false
set_option linter.unusedSimpArgs false
namespace Go.Proofs.YtjfpbchdcbhfgaaGreat
namespace B
open Go Go.RowKit
set_option maxRecDepth 100000
noncomputable section
attribute [local irreducible] awp ctxK zx z1f retQ z1l awf ctxF z1k
def z6a(r:Acc):RF Un:=([.agg (encC Ty.acc r)],[])
def z18h(a:Agg):Option (RF Un):=fnF_ z1bz z23b Tryz.f185 0 [.d] [.d (.agg (enc Ty.agg a))]
theorem z20z(a:Agg):z18h a=cndO (a.name.toList==(ByteArray.mk #[99,111,117,110,116]).toList) (cndO ((↑a.t.length:Int)==(0:Int)) (some (z6a ({name:=(ByteArray.mk #[114,111,119,115]),distinct:=false,n:=(0:Int),hi:=(0:Int),lo:=(0:Int),v:=z7,l:=[]}))) (some (z6a ({name:=a.name,distinct:=a.distinct,n:=(0:Int),hi:=(0:Int),lo:=(0:Int),v:=z7,l:=[]})))) (cndO (a.name.toList==(ByteArray.mk #[115,117,109]).toList) (cndO (a.name.toList==(ByteArray.mk #[115,117,109]).toList) (some (z6a ({name:=a.name,distinct:=a.distinct,n:=(0:Int),hi:=(0:Int),lo:=(0:Int),v:=z7,l:=[]}))) (some (z6a ({name:=(ByteArray.mk #[]),distinct:=a.distinct,n:=(0:Int),hi:=(0:Int),lo:=(0:Int),v:=z7,l:=[]})))) (cndO (a.name.toList==(ByteArray.mk #[109,105,110]).toList) (cndO (a.name.toList==(ByteArray.mk #[109,105,110]).toList) (some (z6a ({name:=a.name,distinct:=a.distinct,n:=(0:Int),hi:=(0:Int),lo:=(0:Int),v:=z7,l:=[]}))) (some (z6a ({name:=(ByteArray.mk #[]),distinct:=a.distinct,n:=(0:Int),hi:=(0:Int),lo:=(0:Int),v:=z7,l:=[]})))) (cndO (a.name.toList==(ByteArray.mk #[109,97,120]).toList) (some (z6a ({name:=a.name,distinct:=a.distinct,n:=(0:Int),hi:=(0:Int),lo:=(0:Int),v:=z7,l:=[]}))) (some (z6a ({name:=(ByteArray.mk #[]),distinct:=a.distinct,n:=(0:Int),hi:=(0:Int),lo:=(0:Int),v:=z7,l:=[]})))))):=by kernel_rfl
def zk0(a:Agg):Acc:=
  if(a.name.toList==(ByteArray.mk #[(99:UInt8),(111:UInt8),(117:UInt8),(110:UInt8),(116:UInt8)]).toList)=true then
   if((↑a.t.length:Int)==(0:Int))=true then
    ({name:=(ByteArray.mk #[(114:UInt8),(111:UInt8),(119:UInt8),(115:UInt8)]),distinct:=false,n:=(0:Int),hi:=(0:Int),lo:=(0:Int),v:=z7,l:=[]})
   else
    ({name:=a.name,distinct:=a.distinct,n:=(0:Int),hi:=(0:Int),lo:=(0:Int),v:=z7,l:=[]})
  else
   if(a.name.toList==(ByteArray.mk #[(115:UInt8),(117:UInt8),(109:UInt8)]).toList)=true then
    if(a.name.toList==(ByteArray.mk #[(115:UInt8),(117:UInt8),(109:UInt8)]).toList)=true then
     ({name:=a.name,distinct:=a.distinct,n:=(0:Int),hi:=(0:Int),lo:=(0:Int),v:=z7,l:=[]})
    else
     ({name:=(ByteArray.mk #[]),distinct:=a.distinct,n:=(0:Int),hi:=(0:Int),lo:=(0:Int),v:=z7,l:=[]})
   else
    if(a.name.toList==(ByteArray.mk #[(109:UInt8),(105:UInt8),(110:UInt8)]).toList)=true then
     if(a.name.toList==(ByteArray.mk #[(109:UInt8),(105:UInt8),(110:UInt8)]).toList)=true then
      ({name:=a.name,distinct:=a.distinct,n:=(0:Int),hi:=(0:Int),lo:=(0:Int),v:=z7,l:=[]})
     else
      ({name:=(ByteArray.mk #[]),distinct:=a.distinct,n:=(0:Int),hi:=(0:Int),lo:=(0:Int),v:=z7,l:=[]})
    else
     if(a.name.toList==(ByteArray.mk #[(109:UInt8),(97:UInt8),(120:UInt8)]).toList)=true then
      ({name:=a.name,distinct:=a.distinct,n:=(0:Int),hi:=(0:Int),lo:=(0:Int),v:=z7,l:=[]})
     else
      ({name:=(ByteArray.mk #[]),distinct:=a.distinct,n:=(0:Int),hi:=(0:Int),lo:=(0:Int),v:=z7,l:=[]})
theorem z210(a:Agg):z18h a=some (z6a (zk0 a)):=by grind[z20z,zk0,z8]
def z1e4:FnC Un:=fnF1 (dS .agg) fun a=>([],z6a (zk0 a))
theorem z211:FnOK 185 z1e4:=fnK1 zr (M:=z1bz) rfl trivial trivial trivial trivial trivial Tryz.func185 fun a=>GiF.r fun _ _=>z210 a
theorem len0{α:Type}(l:List α):((l.length:Int)==0)=true↔l=[]:=by simp
@[simp] theorem z1qp(a:Agg):zk0 a=zdw a:=by
 unfold zk0 zdw;simp only[z20w,z1ml,z20x,z20y,z1qo,z2i0,zzw,len0];by_cases h1:a.name=z78
 ·simp[h1]
 ·by_cases h2:a.name=nmSum
  ·simp[h1,h2]
  ·by_cases h3:a.name=zm0
   ·rw[h3]at h1 h2;simp[h1,h2,h3]
   ·simp[h1,h2,h3]
def z18i:Mc Un:=mcF_ [(240,z12w)] [] [] [] []
def z143(x:Acc)(v:Val):Option (RF Un):=fnF_ z18i z23b Tryz.f220 0 [.d] [.d (.agg (enc Ty.acc x)),.d (.agg (enc Ty.val v))]
theorem z1wb(x:Acc)(v:Val):z143 x v=cndO (x.name.toList==(ByteArray.mk #[114,111,119,115]).toList) (some (z8z (true))) (cndO (v.kind !=0) (cndO (zbk v) (cndO (!x.name.toList==(ByteArray.mk #[115,117,109]).toList) (some (z8z (true))) (some (z8z (v.kind==2)))) (some (z8z (false)))) (some (z8z (false)))):=by kernel_rfl
def zm2(x:Acc)(v:Val):Bool:=zjz x.name v
@[simp] theorem z1wc(x:Acc)(v:Val):zm2 x v=zjz x.name v:=by rfl
theorem z1mo(x:Acc)(v:Val)(_hx:WS .acc x)(_hv:WS .val v):z143 x v=some (z8z (zm2 x v)):=by
 rw[z1wb];unfold zm2 zjz cntV;simp only[z8,z1ml,z1qo,zzw,z1oz,y20];by_cases h1:x.name=zbb
 ·grind
 ·by_cases h2:v.kind=0
  ·grind
  ·by_cases h3:z7o v=true
   ·by_cases h4:x.name=nmSum
    ·grind
    ·have e:(x.name.toList==nmSum.toList)=false:=by
      grind[zzw]
     grind
   grind
def z18j:FnC Un:=fnF2 (dS .acc) (dS .val) fun x v=>([],z8z (zm2 x v))
theorem z1wd:FnOK 220 z18j:=fnK2 zr zr (M:=z18i) rfl ⟨z1p0,trivial⟩ trivial trivial trivial trivial Tryz.func220 fun x v=>GiF.r fun w _=>z1mo x v (wfA_ w 0) (wfA_ w 1)
def zzz(hi:Int)(lo:Int):Option (RF Un):=fnF_ z1bz z23b Tryz.f241 0 [.d,.d] [.d (.v (.s (.int .i64 hi))),.d (.v (.s (.int .i64 lo)))]
theorem z1qq(hi:Int)(lo:Int):zzz hi lo=obO (¬(1000000000000000:Int)=(0:Int)) (obO (¬(1000000000000000:Int)=(0:Int)) (some (z7r (IntKind.i64.wrap (hi+IntKind.i64.wrap (lo.tdiv (1000000000000000:Int))),lo.tmod (1000000000000000:Int))))):=by kernel_rfl
def zhx(hi lo:Int):Int×Int:=(hi+lo.tdiv bigM,lo.tmod bigM)
theorem z1h3(hi lo:Int)(_h1:WI hi)(_h2:WI lo)(h:(-1000000000≤hi∧hi≤1000000000)∧-2000000000000000≤lo∧lo≤2000000000000000):zzz hi lo=some (z7r (zhx hi lo)):=by
 grind[z1qq,zhx,bigM,z6,z1u]
def z145:FnC Un:=fnF2 (dI .i64) (dI .i64) fun hi lo=>([(-1000000000≤hi∧hi≤1000000000)∧-2000000000000000≤lo∧lo≤2000000000000000],z7r (zhx hi lo))
theorem z1qr:FnOK 241 z145:=fnK2 z1a z1a (M:=z1bz) rfl trivial trivial trivial trivial trivial Tryz.func241 fun hi lo=>GiF.r fun w o=>z1h3 hi lo (wfA_ w 0) (wfA_ w 1) (obA_ o 0)
def z1e5:Mc Un:=mcF_ [(241,z145),(147,zat)] [] [] [] []
def z18k(x:Acc)(v:Val):Option (RF Un):=fnF_ z1e5 z23b Tryz.f221 0 [.d] [.d (.agg (enc Ty.acc x)),.d (.agg (enc Ty.val v))]
theorem z213(x:Acc)(v:Val):z18k x v=cndO (x.name.toList==(ByteArray.mk #[115,117,109]).toList) (obO (((-1000000000:Int)≤x.hi∧x.hi≤1000000000)∧(-2000000000000000:Int)≤IntKind.i64.wrap (x.lo+v.n)∧IntKind.i64.wrap (x.lo+v.n)≤2000000000000000) (some (z6a ({name:=x.name,distinct:=x.distinct,n:=IntKind.i64.wrap (x.n+1),hi:=(zhx x.hi (IntKind.i64.wrap (x.lo+v.n))).fst,lo:=(zhx x.hi (IntKind.i64.wrap (x.lo+v.n))).snd,v:=x.v,l:=x.l})))) (cndO (x.name.toList==(ByteArray.mk #[109,105,110]).toList) (cndO (IntKind.i64.wrap (x.n+1)==1) (some (z6a ({name:=x.name,distinct:=x.distinct,n:=IntKind.i64.wrap (x.n+1),hi:=x.hi,lo:=x.lo,v:=v,l:=x.l}))) (cndO (decide (z3b v x.v<0)) (some (z6a ({name:=x.name,distinct:=x.distinct,n:=IntKind.i64.wrap (x.n+1),hi:=x.hi,lo:=x.lo,v:=v,l:=x.l}))) (some (z6a ({name:=x.name,distinct:=x.distinct,n:=IntKind.i64.wrap (x.n+1),hi:=x.hi,lo:=x.lo,v:=x.v,l:=x.l}))))) (cndO (x.name.toList==(ByteArray.mk #[109,97,120]).toList) (cndO (IntKind.i64.wrap (x.n+1)==1) (some (z6a ({name:=x.name,distinct:=x.distinct,n:=IntKind.i64.wrap (x.n+1),hi:=x.hi,lo:=x.lo,v:=v,l:=x.l}))) (cndO (decide (z3b v x.v>0)) (some (z6a ({name:=x.name,distinct:=x.distinct,n:=IntKind.i64.wrap (x.n+1),hi:=x.hi,lo:=x.lo,v:=v,l:=x.l}))) (some (z6a ({name:=x.name,distinct:=x.distinct,n:=IntKind.i64.wrap (x.n+1),hi:=x.hi,lo:=x.lo,v:=x.v,l:=x.l}))))) (some (z6a ({name:=x.name,distinct:=x.distinct,n:=IntKind.i64.wrap (x.n+1),hi:=x.hi,lo:=x.lo,v:=x.v,l:=x.l}))))):=by kernel_rfl
def zk1(x:Acc)(v:Val):Acc:=za4 x v
@[simp] theorem z18l(x:Acc)(v:Val):zk1 x v=za4 x v:=by rfl
def zs8(x:Acc):Prop:=(0≤x.n∧x.n≤1000000000)∧(-100000000≤x.hi∧x.hi≤100000000)∧-1000000000000000<x.lo∧x.lo<1000000000000000
theorem z1qs(x:Acc)(v:Val)(_hx:WS .acc x)(_hv:WS .val v)(h:zs8 x∧(x.name=nmSum→-1000000000000000≤v.n∧v.n≤1000000000000000)):z18k x v=some (z6a (zk1 x v)):=by
 obtain⟨⟨h1,h2,h3⟩,h4⟩:=h;rw[z213];unfold zk1 za4;simp only[z8,z1ml,z20x,z20y,zzw,z1qb];rw[z1u (n:=x.n+1) (by omega)];by_cases hs:x.name=nmSum
 ·have h4':=h4 hs;rw[if_pos hs,if_pos hs];have e:IntKind.i64.wrap (x.lo+v.n)=x.lo+v.n:=z1u (by omega);rw[e,z6 (by omega)];rfl
 grind
def zy1:FnC Un:=fnF2 (dS .acc) (dS .val) fun x v=>([zs8 x∧(x.name=nmSum→-1000000000000000≤v.n∧v.n≤1000000000000000)],z6a (zk1 x v))
theorem z18m:FnOK 221 zy1:=fnK2 zr zr (M:=z1e5) rfl ⟨z1qr,zmz,trivial⟩ trivial trivial trivial trivial Tryz.func221 fun x v=>GiF.r fun w o=>z1qs x v (wfA_ w 0) (wfA_ w 1) (obA_ o 0)
@[simp] theorem z100(n:Int):zd n=numV n:=rfl
def z1e6:Mc Un:=mcF_ [(211,zbj),(32,z8y)] [] [] [] []
def z18n(x:Acc):Option (RF Un):=fnF_ z1e6 z23b Tryz.f225 0 [.d] [.d (.agg (enc Ty.acc x))]
theorem z214(x:Acc):z18n x=cndO (x.n==0) (some (zx1 (z7))) (cndO (decide (x.hi<(-1:Int))) (some (zx1 (z7))) (cndO (decide (x.hi>1)) (some (zx1 (z7))) (cndO (!z1q (IntKind.i64.wrap (IntKind.i64.wrap (x.hi*1000000000000000)+x.lo))) (some (zx1 (z7))) (some (zx1 (zd (IntKind.i64.wrap (IntKind.i64.wrap (x.hi*1000000000000000)+x.lo)))))))):=by kernel_rfl
def zpy(x:Acc):Val:=z1mn x
theorem z1qt(x:Acc)(_hx:WS .acc x)(h:zs8 x):z18n x=some (zx1 (zpy x)):=by
 obtain⟨h1,h2,h3⟩:=h;rw[z214];unfold zpy z1mn;simp only[z8,zx2,z100,beq_iff_eq,decide_eq_true_eq,y20];grind[bigM,z1u,inN]
def z1e7:FnC Un:=fnF1 (dS .acc) fun x=>([zs8 x],zx1 (zpy x))
theorem z215:FnOK 225 z1e7:=fnK1 zr (M:=z1e6) rfl ⟨zb1,zc4,trivial⟩ trivial trivial trivial trivial Tryz.func225 fun x=>GiF.r fun w o=>z1qt x (wfA_ w 0) (obA_ o 0)
end
end B
namespace B
open Go Go.RowKit Go.Shelf
set_option maxRecDepth 1000000
def z73(n z:Nat)(cv:Nat→Nat→Value):List Value:=(List.range (n*z)).map fun q=>cv (q/z) (q % z)
theorem zs9(n z:Nat)(cv:Nat→Nat→Value):(z73 n z cv).length=n*z:=by simp[z73]
theorem z1mp{n z:Nat}{cv:Nat→Nat→Value}(hz:0<z){i j:Nat}(hi:i<n)(hj:j<z):(z73 n z cv)[i*z+j]?=some (cv i j):=by
 have h:i*z+j<n*z:=by
  have:(i+1)*z≤n*z:=y1e _ hi;rw[y1k]at this;omega
 unfold z73;rw[y13,y3j h];simp only[y1x];rw[show(i*z+j)/z=i by rw[y2a,Nat.mul_add_div hz,Nat.div_eq_of_lt hj];omega,show(i*z+j) % z=j by rw[y2a,y3z,y3k hj]]
theorem zsa {n z:Nat} {cv:Nat→Nat→Value} {q:Nat} {u:Value} (h:(z73 n z cv)[q]? = some u) : ∃ i j,i<n∧j<z∧q=i*z+j∧u=cv i j:=by
  have hq:q<n*z:=by have:=(yl.1 h).1;rwa [zs9] at this
  have hz : 0 < z := by rcases y3m z with e | e; · subst e; omega
                        · exact e
  refine⟨q / z,q % z,(y3x hz).2 hq,y2m _ hz,by rw[y2a];exact (y3y q z).symm,?_⟩;unfold z73 at h;rw[y13,y3j hq] at h;simpa using h.symm
open Classical in
theorem z1ai{St:Nat→Nat→Prop}{w w':World}{v:Value}{e:TypeId}{τ:Ty}{xs:List (Den τ)}{news:List Value}(hext:Ext w w')(hbd:∀b o,St b o→b<w.heap.size)(hlen:xs.length≤9223372036854775807)
  (hrow:w'.ownsRow w.heap.size e (sz τ) v xs.length news)(hrel:∀i(hi:i<xs.length) j d,(enc τ xs[i])[j]?=some d→∃u,news[i*sz τ+j]?=some u∧VRel En St w u d):
  Ret Tryz.prog En St w w' v [.c (.ob 0 0)] [⟨0,τ,xs,some 0,true⟩]:=by
 refine⟨hext,?_⟩;obtain⟨hnl,⟨rfl,hn0⟩|⟨gb,cap,cur,rfl,hge,hheap,hcap,hmax,hsz,htake⟩⟩:=hrow
 ·have hx:xs=[]:=y10 hn0;subst hx;refine⟨⟨fun _=>0,fun _=>False,fun b o=>if St b o then some .st else none,fun _=>(none,0)⟩,fun _ h=>h,?_,?_,?_,?_⟩
  ·intro b o x _ hx;have hx':(if St b o then some Own.st else none)=some x:=hx;split at hx'
   ·rename_i hs;simp at hx';exact⟨hx'.symm,hs⟩
   ·simp at hx'
  ·intro b o x hx;have hx':(if St b o then some Own.st else none)=some x:=hx;split at hx'
   ·rename_i hs;exact yn (hbd b o hs) hext.le
   ·simp at hx'
  ·exact⟨rfl,_,rfl,y6 _,fun _=>rfl⟩
  ·intro k o ho;cases k with
   |zero=>simp at ho;subst ho;exact⟨⟨⟨⟨y6 _,by simp⟩,fun f hf=>by simp at hf;subst hf;exact y6 _⟩,fun h=>absurd h (y4d 0)⟩,rfl⟩
   |succ k=>simp at ho
 ·have hcell:∀q,q<cap*sz τ→w'.cell? ⟨gb,q,none⟩=cur[q]?∧(∃u,w'.cell? ⟨gb,q,none⟩=some u)∧stuck w' ⟨gb,q,none⟩=false:=by
   intro q hq;have h1:w'.cell? ⟨gb,q,none⟩=cur[q]?:=by simp[World.cell?,hheap]
   refine⟨h1,⟨cur[q]'(by omega),by rw[h1];exact y2h _⟩,?_⟩;simp[stuck,World.shape?,World.frozen?,hheap]
  have hgb:gb<w'.heap.size:=(y2r.1 hheap).1;let g:G:=⟨fun _=>0,fun _=>False,fun b o=>if b<w.heap.size then(if St b o then some .st else none)else if b=gb∧o<cap*sz τ then some (.obj 0)else none,fun _=>(some ⟨gb,0,none⟩,cap)⟩;have hω:∀o,o<cap*sz τ→g.ω gb o=some (.obj 0):=fun o ho=>by
   show(if gb<w.heap.size then _ else _)=_;rw[if_neg (by omega),if_pos ⟨rfl,ho⟩]
  have hst:Keeps St w g.St w':=fun b o hs=>by
   refine⟨?_,hext.cell (p:=⟨b,o,none⟩) (hbd b o hs)⟩;show(if b<w.heap.size then _ else _)=_;rw[if_pos (hbd b o hs),if_pos hs]
  refine⟨g,fun _ h=>h,?_,?_,?_,?_⟩
  ·intro b o x hb hx;have hx':(if b<w.heap.size then(if St b o then some Own.st else none)else _)=some x:=hx;rw[if_pos hb]at hx';split at hx'
   ·rename_i hs;simp at hx';exact⟨hx'.symm,hs⟩
   ·simp at hx'
  ·intro b o x hx;have hx':(if b<w.heap.size then(if St b o then some Own.st else none)else if b=gb∧o<cap*sz τ then some (Own.obj 0)else none)=some x:=hx;split at hx'
   ·rename_i hb;exact yn hb hext.le
   ·split at hx'
    ·rename_i hh;rw[hh.1];exact hgb
    ·simp at hx'
  ·exact⟨rfl,_,rfl,y6 _,fun _=>rfl⟩
  ·intro k o ho;cases k with
   |succ k=>simp at ho
   |zero=>
    simp at ho;subst ho;refine⟨⟨⟨⟨hcap,hlen⟩,fun f hf=>by simp at hf;subst hf;exact ya _⟩,fun _=>⟨gb,0,fun i j=>cur.getD (i*sz τ+j) undef,rfl,⟨?_,?_,?_⟩⟩⟩,rfl⟩
    ·intro i j hi hj;have hlt:i*sz τ+j<cap*sz τ:=by
      have h1:(i+1)*sz τ≤cap*sz τ:=y1e _ (y1g hi hcap);have hj':j<sz τ:=hj;rw[y1k]at h1;omega
     obtain⟨c1,_,c3⟩:=hcell _ hlt;have e0:0+i*Un.sz τ+j=i*sz τ+j:=by show 0+i*sz τ+j=_;omega
     refine⟨?_,?_⟩
     ·show w'.cell? ⟨gb,0+i*Un.sz τ+j,none⟩=_;rw[e0,c1,y45,y2h (by omega)];rfl
     ·show Mode g w' 0 (some 0) i gb (0+i*Un.sz τ+j);rw[e0];exact⟨fun h=>absurd h (y18 _),fun _=>⟨hω _ hlt,c3⟩⟩
    ·intro i hi j d hd;obtain⟨u,hu,hr⟩:=hrel i hi j d hd;have hj:j<sz τ:=by have h0:j<(enc τ (xs[i]'hi)).length:=(yl.1 hd).1;rwa[zfz]at h0
     have hlt:i*sz τ+j<xs.length*sz τ:=by
      have h1:(i+1)*sz τ≤xs.length*sz τ:=y1e _ hi;rw[y1k]at h1;omega
     have hu2:cur.getD (i*sz τ+j) undef=u:=by
      rw[←htake,y2o hlt,y27]at hu;rw[y45,hu];rfl
     show VRel En g.St w' (cur.getD (i*sz τ+j) undef) d;rw[hu2];exact hr.mono hst
    ·intro _ x hx hx';have hx2:x<cap*sz τ:=hx';obtain⟨_,c2,c3⟩:=hcell x hx2;show g.ω gb (0+x)=_∧_;rw[y15];exact⟨hω x hx2,c2,c3⟩
set_option maxHeartbeats 2000000 in
theorem z29j{P:Program}{ρ:Ren}(L:SlLaysE0.n41 P ρ)(i0:TypeInfo)(z:Value)(size bytes:Nat)(hi:P.info? (ρ.t 23)=some i0)(hz0:i0.zero=some z)(hz1:i0.size=size)(hz2:i0.bytes=bytes)(hzs:z.cells.size=size)(hsz:0<size)
  (z23:∀w,(Go.sizeOf (ρ.t 23)).run P w=.ok size w)(a:Addr)(c:Nat)(w:World):
  Calls P (ρ.f 41) #[.slice (some a) 0 c] w fun e w'=>∃v',e=.returned v'∧w'.ownsRow w.heap.size (ρ.t 23) size v' 0 []∧Below w.heap.size w w':=by
 have mixed:=L.mixed;have t4:=L.t4;have a4:=L.a4;have z4:=L.z4;have v4:=L.v4;have t22:=L.t22;have a22:=L.a22;have z22:=L.z22;have v22:=L.v22;have q22:∀(w:World)(a:Option Addr)(n c n' c':Nat),(binOp .eql (ρ.t 22) (.slice a n c) (.slice none n' c')).run P w=.ok (.bool a.isNone) w:=fun w a n c n' c'=>Lib.run_eql_slice_nil w _ _ a n c n' c' L.t22;have u22:∀w,Sem.run P (underlying (ρ.t 22)) w=.ok (TypeDesc.slice (ρ.t 23)) w:=run_underlying t22;obtain⟨_,_,FG⟩:=L.f41
 go_enter FG,SlBodyN.n41_ntmps ρ
 go_wp2_with (at_builtin;refine wpList_append_own _ rfl _ _ (ρ.t 22) rfl w.heap.size (ρ.t 23) i0 z size bytes t22 hi hz0 hz1 hz2 hzs hsz _ _ _ rfl (World.ownsRow_made w #[] 0 (y6 _) (ya _) (by simp)) a 0 c [] rfl ?qc1 ?qc2 ?qc3 ?qc4 ?qc5 ?qc6 ?_)
 case qc1=>simp
 case qc2=>intro j u hj;simp at hj
 case qc3=>intro u hu;simp at hu
 case qc4=>unfold maxLen;omega
 case qc5=>omega
 case qc6=>simp
 intro v' w1 hown hgrow hnil
 go_wp2
 go_ret;exact⟨v',rfl,by simpa using hown,((Below.refl _ w).alloc (y6 _) _).grown hgrow (by simp) (by intro k hk;simp[Value.ownBlock]at hk;omega)⟩
theorem z18o{w w':World}(h:Below w.heap.size w w'):Ext w w':=⟨h.os,h.tape,h.output,h.size,h.block⟩
def zsq(τ:Ty):FnC Un:=fun args=>match args with
 |[x0]=>(dL τ x0).bind fun s=>some ([s.length≤1000000000],[.c (.ob 0 0)],[⟨0,τ,s,some 0,true⟩])
 |_=>none
theorem z2fn{ρ:Ren}(L:SlLaysE0.n41 Tryz.prog ρ)(τ:Ty)(i0:TypeInfo)(z:Value)(bytes:Nat)(hi:Tryz.prog.info? (ρ.t 23)=some i0)(hz0:i0.zero=some z)(hz1:i0.size=sz τ)(hz2:i0.bytes=bytes)(hzs:z.cells.size=sz τ)(hsz:0<sz τ)
    (hb:bytes≤100000)(z23:∀w,(Go.sizeOf (ρ.t 23)).run Tryz.prog w=.ok (sz τ) w)(hB:z32 Tryz.prog (ρ.f 41)):FnOK (ρ.f 41) (zsq τ):=by
  intro args ob rs os h hob;unfold zsq at h;split at h
  · simp only[y7,y8,ym]at h;obtain⟨s,e0,rfl,rfl,rfl⟩:=h;obtain rfl:=z11 e0;have hlen:s.length≤1000000000:=hob _ (by simp);refine⟨fun w St vs hbd hvs hld=>?_,hB⟩
    match vs,hvs with
    |[v0],⟨h0,_⟩=>
      have hV:VRel En St w v0 (.dat τ s):=h0;rcases hV.inv with⟨rfl,a,cap,rfl⟩|⟨b,o,cap,cv,rfl,hcap,hc,hr⟩
      · cases a with
        |none=>
          refine(AnyE.slices_Clone_nil L 0 cap w).mono ?_;rintro e w' ⟨rfl,rfl⟩;exact⟨_,rfl,z1ai (e:=ρ.t 23) (news:=[]) (Ext.refl _) hbd (by simp) ⟨by simp,.inl ⟨rfl,rfl⟩⟩ (fun i hi=>absurd hi (y18 _))⟩
        |some a=>
          refine(z29j L i0 z (sz τ) bytes hi hz0 hz1 hz2 hzs hsz z23 a cap w).mono ?_;rintro e w' ⟨v',rfl,hown,hbel⟩;exact⟨v',rfl,z1ai (z18o hbel) hbd (by simp) hown (fun i hi=>absurd hi (y18 _))⟩
      · have hcell:∀j u,(z73 s.length (sz τ) cv)[j]?=some u→w.cell? ⟨b,o+j,none⟩=some u∧∃i q,i<s.length∧q<sz τ∧j=i*sz τ+q∧u=cv i q:=by
          intro j u hj;obtain⟨i,q,hi,hq,rfl,rfl⟩:=zsa hj;refine⟨?_,i,q,hi,hq,rfl,rfl⟩;have:=(hc i q hi hq).2;rw[←y1d];exact this
        have hone:∀u∈z73 s.length (sz τ) cv,u.oneCell'=true:=by
          intro u hu;obtain⟨j,hj⟩:=y1r hu;obtain⟨_,i,q,hi,hq,_,rfl⟩:=hcell j u hj;have hq':q<(enc τ (s[i]'hi)).length:=by rw[zfz];exact hq
          have:=hr i hi q _ (y9 hq');exact z1og this.one
        refine(AnyE.slices_Clone L i0 z (sz τ) bytes hi hz0 hz1 hz2 hzs hsz z23 b o s.length cap (z73 s.length (sz τ) cv) w (zs9 _ _ _) (by unfold maxLen;omega)
          (by have:s.length*bytes≤1000000000*100000:=y26 hlen hb
              omega) (fun j u hj=>(hcell j u hj).1) hone).mono ?_
        rintro e w' ⟨v',rfl,hown,_,hbel⟩;refine⟨v',rfl,z1ai (z18o hbel) hbd (by omega) hown fun i hi j d hd=>?_⟩;have hj:j<sz τ:=by have h0:j<(enc τ (s[i]'hi)).length:=(yl.1 hd).1;rwa[zfz]at h0
        exact⟨cv i j,z1mp hsz hi hj,hr i hi j d hd⟩
  · simp at h
def mach0:Mc Un:=mach (fun _=>none) (fun _=>none) (fun _=>none) (fun _=>none) (fun _=>none)
def z1mq(t e:TypeId)(τ:Ty):Bool:=match mach0.ti t with| .sl e' τ' b=>e'==e&&decide (τ'=τ)&&decide (b≤100000)|_=>false
theorem slOf{t e:TypeId}{τ:Ty}(h:z1mq t e τ=true):∃bytes i z,bytes≤100000∧0<bytes∧0<sz τ∧Tryz.prog.underlying t=some (.slice e)∧Tryz.prog.info? e=some i∧i.size=sz τ∧i.bytes=bytes∧i.zero=some z∧z.cells.size=sz τ:=by
 unfold z1mq at h;split at h
 ·rename_i e' τ' b hti;simp only[yp,beq_iff_eq,decide_eq_true_eq]at h;obtain⟨⟨rfl,rfl⟩,hb⟩:=h;have h:=((z1x4 (fun _=>none) (fun _=>none) (fun _=>none) (fun _=>none) (fun _=>none)).ti t).2;rw[show(mach (fun _=>none) (fun _=>none) (fun _=>none) (fun _=>none) (fun _=>none)).ti t=.sl e' τ' b from hti]at h;obtain⟨h0,⟨h1,h1'⟩,i,z,h2,h3,h4,h5,h6⟩:=h;exact⟨b,i,z,hb,h1',h1,h0,h2,h3,h4,h5,h6⟩
 ·simp at h
theorem z12d{ρ:Ren}(L:SlLaysE0.n41 Tryz.prog ρ){τ:Ty}(hti:z1mq (ρ.t 22) (ρ.t 23) τ=true)(hB:z32 Tryz.prog (ρ.f 41)):FnOK (ρ.f 41) (zsq τ):=by
 obtain⟨bytes,i,z,hb,h1',h1,h0,h2,h3,h4,h5,h6⟩:=slOf hti;refine z2fn L τ i z bytes h2 h5 h3 h4 h6 h1 hb (fun w=>?_) hB;have:=Go.run_sizeOf w h2;rw[this];simp only[Program.cellsOf,h2];exact congrArg (fun n=>Result.ok n w) h3
end B
namespace B
open Go Go.RowKit Go.Shelf
set_option maxRecDepth 1000000
def z1qu:Ren:=⟨fun|41=>85|n=>n,fun|4=>4|22=>27|23=>57|n=>n,fun|n=>n⟩
theorem z1mr:SlLaysE0.n41 Tryz.prog z1qu:={
  mixed:=by kernel_rfl
  f41:=⟨Tryz.f85.name,by kernel_rfl,Tryz.func85.trans (congrArg some (by kernel_rfl))⟩
  t4:=Tryz.underlying4
  a4:=Tryz.isAgg4
  z4:=Tryz.sizeOf4
  v4:=Tryz.zeroValue4
  t22:=Tryz.underlying27
  a22:=Tryz.isAgg27
  z22:=Tryz.sizeOf27
  v22:=Tryz.zeroValue27}
def zm3:FnC Un:=zsq .row
theorem zqv:FnOK 85 zm3:=z12d z1mr (by kernel_rfl) (zj Tryz.func85 (by kernel_rfl) (by kernel_rfl))
def z1wf:Ren:=⟨fun|41=>224|n=>n,fun|4=>4|22=>56|23=>37|n=>n,fun|n=>n⟩
theorem z1qv:SlLaysE0.n41 Tryz.prog z1wf:={
  mixed:=by kernel_rfl
  f41:=⟨Tryz.f224.name,by kernel_rfl,Tryz.func224.trans (congrArg some (by kernel_rfl))⟩
  t4:=Tryz.underlying4
  a4:=Tryz.isAgg4
  z4:=Tryz.sizeOf4
  v4:=Tryz.zeroValue4
  t22:=Tryz.underlying56
  a22:=Tryz.isAgg56
  z22:=Tryz.sizeOf56
  v22:=Tryz.zeroValue56}
def z1e8:FnC Un:=zsq .val
theorem z216:FnOK 224 z1e8:=z12d z1qv (by kernel_rfl) (zj Tryz.func224 (by kernel_rfl) (by kernel_rfl))
def z1wg:Ren:=⟨fun|41=>140|n=>n,fun|4=>4|22=>57|23=>37|n=>n,fun|n=>n⟩
theorem z1qw:SlLaysE0.n41 Tryz.prog z1wg:={
  mixed:=by kernel_rfl
  f41:=⟨Tryz.f140.name,by kernel_rfl,Tryz.func140.trans (congrArg some (by kernel_rfl))⟩
  t4:=Tryz.underlying4
  a4:=Tryz.isAgg4
  z4:=Tryz.sizeOf4
  v4:=Tryz.zeroValue4
  t22:=Tryz.underlying57
  a22:=Tryz.isAgg57
  z22:=Tryz.sizeOf57
  v22:=Tryz.zeroValue57}
theorem z217:FnOK 140 z1e8:=z12d z1qw (by kernel_rfl) (zj Tryz.func140 (by kernel_rfl) (by kernel_rfl))
end B
namespace B
open Go Go.RowKit Go.Shelf Go.Lib
set_option maxRecDepth 1000000
set_option linter.unusedVariables false
set_option linter.unusedSimpArgs false
theorem z1ms{P:Program}(w:World)(tS tR e:TypeId)(ht:P.underlying tS=some (.slice e))(size:Nat)(hz:∀w,(Go.sizeOf e).run P w=.ok size w)
    (ab ao bb bo:Nat)(la ca lb cb:Nat)(tA tB:TypeId)(kA kB:Nat)
    (hsa:w.shape? ab=some (tA,kA))(hsb:w.shape? bb=some (tB,kB))(hkA:kA≠0)(hkB:kB≠0)
    (hst:stuck w ⟨bb,bo,none⟩=false)(hap:ab=bb→¬(ao<bo+lb*size∧bo<ao+la*size)):
    (Extern.SlicesOverlaps.overlaps #[tS,tS] #[tR] #[.slice (some ⟨ab,ao,none⟩) la ca,.slice (some ⟨bb,bo,none⟩) lb cb]).run P w=.ok (.bool false) w:=by
  have hfb:=zmm hst;have hmb:=z26u hst hsb
  change Sem.run P (α:=Value) (do
    let some t:=(#[tS,tS]:Array TypeId)[0]?|Go.stuck "slices.overlaps: no parameter types"
    let .slice elem ←underlying t|Go.stuck "slices.overlaps: slice type expected"
    let size ←sizeOf elem
    match(some (⟨ab,ao,none⟩:Addr):Option Addr),(some (⟨bb,bo,none⟩:Addr):Option Addr)with
    |some a,some b=>
      if la=0∨lb=0∨size=0 then pure (Value.bool false)
      else if a.block !=b.block&&(←frozen a)&&(←frozen b)then unsupported .addressObserved
      else do
        if a.block !=b.block then do
          noView a;noView b
          if ←mayBeOne a b then return Value.bool ((←choose (.extern "sameAddr.stringBytes" 2))==1)
        pure (Value.bool (a.block==b.block&&a.off<b.off+lb*size&&b.off<a.off+la*size))
    |_,_=>pure (Value.bool false)) w=_
  by_cases h0:la=0∨lb=0∨size=0
  · simp[run_underlying ht,hz,h0]
  · cases kB with
    |zero=>exact absurd rfl hkB
    |succ kB=>
      cases kA with
      |zero=>exact absurd rfl hkA
      |succ kA=>
        by_cases he:ab=bb
        · have hap':=hap he;subst he;simp[run_underlying ht,hz,h0];intro h1;omega
        · have hnb:(ab !=bb)=true:=by simpa using he
          have hnb':(ab==bb)=false:=by simpa using he
          cases hfa:w.frozen? ⟨ab,ao,none⟩<;>cases hma:w.frozen? ⟨ab,kA+1,none⟩<;>
          simp[run_underlying ht,hz,h0,hnb,hnb',frozen,noView,viewAt,mayBeOne,stringish,shape,Sem.run,hsa,hsb,hfb,hmb,hfa,hma]
theorem zem{P:Program}(w:World)(dT sT ty elem:TypeId)(b o dLen dCap:Nat)(a:Addr)(sLen sCap:Nat)(cs:List Value)(k:Nat)
  (hu:P.underlying dT=some (.slice elem))(hs:(P.info? elem).map (·.size)=some k)(hn:cs.length=Nat.min sLen dLen*k)
  (hsrc:∀j v,cs[j]?=some v→w.cell? (a.add j)=some v)(hc:∀j,j<cs.length→(w.cell? ⟨b,o+j,none⟩).isSome=true)(hf:∀j,j<cs.length→w.frozen? ⟨b,o+j,none⟩=false)(h1:∀v∈cs,v.oneCell'=true):
  (Builtin.copy_ #[dT,sT] ty #[.slice (some ⟨b,o,none⟩) dLen dCap,.slice (some a) sLen sCap]).run P w=.ok (goInt (Nat.min sLen dLen)) (w.setCells b o cs):=by
 have hl:=run_loadCells_list (P:=P) w a cs hsrc;have hst:=run_storeCells_cells (P:=P) b o cs 0 w (by simpa using hc) (by simpa using hf) h1;cases hq:P.info? elem with
 |none=>simp[hq]at hs
 |some i=>
  have hi:i.size=k:=by simpa[hq]using hs
  simp[Builtin.copy_,run_underlying hu,Builtin.lenOf,Builtin.firstCells,sizeOf,typeInfo,hq,hi,←hn,hl,hst]
  try rw[hn]
abbrev z1mt:FuncId:=223
theorem z12e:∃i z,Tryz.prog.info? 37=some i∧i.zero=some z∧i.size=3∧i.bytes≤100000∧0<i.bytes∧z.cells.size=3:=by
 obtain⟨bytes,i,z,hb,h1',h1,h0,h2,h3,h4,h5,h6⟩:=slOf (t:=56) (e:=37) (τ:=.val) (by kernel_rfl);exact⟨i,z,h2,h5,h3,by omega,by omega,h6⟩
theorem zbu:Tryz.prog.underlying 56=some (.slice 37):=by kernel_rfl
set_option maxHeartbeats 4000000 in
theorem z2d4(b off n c i vb voff vc:Nat)(cs vs:List Value)(w:World)(hi:i<n)(hroom:n+1≤c)(hbig:n≤1000000)
  (hcl:cs.length=n*3)(hvl:vs.length=3)
  (hcs:∀j v,cs[j]?=some v→w.cell? ⟨b,off+j,none⟩=some v)(hsp:∀j,j<(n+1)*3→(w.cell? ⟨b,off+j,none⟩).isSome=true)(hfz:∀j,j<(n+1)*3→w.frozen? ⟨b,off+j,none⟩=false)
  (hvs:∀j v,vs[j]?=some v→w.cell? ⟨vb,voff+j,none⟩=some v)(h1c:∀v∈cs,v.oneCell'=true)(h1v:∀v∈vs,v.oneCell'=true)
  (tA tB:TypeId)(kA kB:Nat)(hsa:w.shape? vb=some (tA,kA))(hsb:w.shape? b=some (tB,kB))(hkA:kA≠0)(hkB:kB≠0)(hst:stuck w ⟨b,off+(i+1)*3,none⟩=false)
  (hap:vb=b→∀j,j<(n+1)*3→∀q,q<3→off+j≠voff+q):
  Calls Tryz.prog z1mt #[.slice (some ⟨b,off,none⟩) n c,.int .i64 i,.slice (some ⟨vb,voff,none⟩) 1 vc] w fun e w'=>
   e=.returned (.slice (some ⟨b,off,none⟩) (n+1) c)∧w'=(w.drew.setCells b (off+(i+1)*3) (cs.drop (i*3))).setCells b (off+i*3) vs:=by
 have hsz:(Tryz.prog.info? 37).map (·.size)=some 3:=by
  obtain⟨i0,z0,h1,h2,h3,_⟩:=z12e;rw[h1];simp[h3]
 have hzz:∀w,(Go.sizeOf 37).run Tryz.prog w=.ok 3 w:=Tryz.sizeOf37;have hov0:∀lb cb,lb≤n- i→(callFunc 242 #[.slice (some ⟨vb,voff,none⟩) 1 vc,.slice (some ⟨b,off+(i+1)*3,none⟩) lb cb]).run Tryz.prog w=.ok (.value (.bool false)) w:=fun lb cb hlb=>by
  rw[run_callFunc_extern Tryz.func242 (by kernel_rfl) (by kernel_rfl) (by kernel_rfl) (e:=Extern.SlicesOverlaps.overlaps #[56,56] #[4]) (by kernel_rfl),
   z1ms w 56 4 37 zbu 3 hzz vb voff b (off+(i+1)*3) 1 vc lb cb tA tB kA kB hsa hsb hkA hkB hst (fun e=>?_)]
  ·rfl
  ·rintro⟨g1,g2⟩;by_cases g3:voff<off+(i+1)*3
   ·exact hap e ((i+1)*3) (by omega) (off+(i+1)*3- voff) (by omega) (by omega)
   ·exact hap e (voff- off) (by omega) 0 (by omega) (by omega)
 have hov1:=fun cb=>hov0 (n+1- (i+1)) cb (by omega);have hov2:=fun cb=>hov0 (n- i) cb (by omega);have hz2:¬((i:Int)=(n:Int)):=by omega
 have hdl:(cs.drop (i*3)).length=(n- i)*3:=by rw[yx,hcl];omega
 have mixed:Tryz.prog.follows .mixedOrders=true:=by kernel_rfl
 have hw1:IntKind.i64.wrap ((i:Int)+1)=(i:Int)+1:=by rw[IntKind.wrap_i64];omega
 have hw2:IntKind.i64.wrap ((n:Int)+1)=(n:Int)+1:=by rw[IntKind.wrap_i64];omega
 have hb1:(0:Int)≤(i:Int)+1:=by omega
 have hin:i≤n:=by omega
 have htn:((i:Int)+1).toNat=i+1:=by omega
 have htn2:((n:Int)+1).toNat=n+1:=by omega
 have hb2:¬(c=i+1):=by omega
 have hb3:(i:Int)≤(n:Int)+1:=by omega
 have hb4:¬(c=i):=by omega
 have hb5:(n:Int)+1≤c:=by omega
 have hb6:¬((c:Int)<(n:Int)+1):=by omega
 have hcp1:∀ty l dc sl sc,Nat.min sl l=n- i→(Builtin.copy_ #[56,56] ty #[.slice (some ⟨b,off+(i+1)*3,none⟩) l dc,.slice (some ⟨b,off+i*3,none⟩) sl sc]).run Tryz.prog w.drew=  .ok (goInt ((n- i:Nat):Int)) (w.drew.setCells b (off+(i+1)*3) (cs.drop (i*3))):=fun ty l dc sl sc hl=>by
  have:=zem w.drew 56 56 ty 37 b (off+(i+1)*3) l dc ⟨b,off+i*3,none⟩ sl sc (cs.drop (i*3)) 3 zbu hsz (by rw[hl,hdl])
   (fun j v hj=>by rw[Addr.add_lit,y1d];exact hcs (i*3+j) v (by rwa[y24]at hj))
   (fun j hj=>by rw[y1d];exact hsp _ (by omega)) (fun j hj=>by rw[y1d];exact hfz _ (by omega)) (fun v hv=>h1c v (y28 hv))
  rw[hl]at this;exact this
 obtain⟨W1,hW1⟩:∃W1,W1=w.drew.setCells b (off+(i+1)*3) (cs.drop (i*3)):=⟨_,rfl⟩;have hsp1:∀k,k<(n+1)*3→(W1.cell? ⟨b,off+k,none⟩).isSome=true:=fun k hk=>by
  rw[hW1];exact isSome_setCells b _ _ _ (fun j hj=>by rw[y1d];exact hsp _ (by omega)) _ (hsp k hk)
 have hcp2:∀(W:World),(∀x,W.cell? x=W1.cell? x)→(∀x,W.frozen? x=W1.frozen? x)→∀ty l dc,Nat.min 1 l=1→(Builtin.copy_ #[56,56] ty #[.slice (some ⟨b,off+i*3,none⟩) l dc,.slice (some ⟨vb,voff,none⟩) 1 vc]).run Tryz.prog W=.ok (goInt 1) (W.setCells b (off+i*3) vs):=fun W hWc hWf ty l dc hl=>by
  have:=zem W 56 56 ty 37 b (off+i*3) l dc ⟨vb,voff,none⟩ 1 vc vs 3 zbu hsz (by rw[hl,hvl])
   (fun j v hj=>by
    rw[Addr.add_lit,hWc,hW1,World.cell?_setCells_out b _ _ _ _ (fun h _=>?_)]
    ·exact hvs j v hj
    ·have hj3:j<3:=by have:=(yl.1 hj).1;omega
     rcases yj (voff+j) (off+(i+1)*3)with g|g
     ·exact .inl g
     ·refine .inr ?_;rcases yj (voff+j) (off+(i+1)*3+(cs.drop (i*3)).length)with g2|g2
      ·exact(hap h (voff+j- off) (by omega) j hj3 (by omega)).elim
      ·exact g2)
   (fun j hj=>by rw[hWc,y1d];exact hsp1 _ (by omega)) (fun j hj=>by rw[hWf,hW1,World.frozen?_setCells,y1d];exact hfz _ (by omega)) h1v
  rw[hl]at this;exact this
 have hcp2':=fun ty=>hcp2 (w.drew.setCells b (off+(i+1)*3) (cs.drop (i*3))) (fun x=>by rw[hW1]) (fun x=>by rw[hW1]) ty (n+1- i) (c- i) (by simp only[y3r];split<;>omega)
 go_enter Tryz.func223,Tryz.ntmps223
 go_wp2_with (simp only[hov1,hov2])
 go_region_law_o (refine step_copy_runI rfl _ _ 56 56 rfl _ _ (by simp[Act.eval,Act.put]) (by simp[Act.eval,Act.put]) (hcp1 _ (n- i) (c- (i+1)) (n+1- i) (c- i) (by simp only[y3r];split<;>omega)) ?_)
 go_wp2_with (simp only[hcp2'])
 go_ret
 first|exact⟨rfl,rfl⟩|exact⟨rfl,by rw[hW1]⟩
set_option maxHeartbeats 4000000 in
theorem z218(b off n c vb voff vc:Nat)(vs:List Value)(w:World)(hroom:n+1≤c)(hbig:n≤1000000)(hvl:vs.length=3)
  (hsp:∀j,j<3→(w.cell? ⟨b,off+n*3+j,none⟩).isSome=true)(hfz:∀j,j<3→w.frozen? ⟨b,off+n*3+j,none⟩=false)
  (hvs:∀j v,vs[j]?=some v→w.cell? ⟨vb,voff+j,none⟩=some v)(h1v:∀v∈vs,v.oneCell'=true):
  Calls Tryz.prog z1mt #[.slice (some ⟨b,off,none⟩) n c,.int .i64 n,.slice (some ⟨vb,voff,none⟩) 1 vc] w fun e w'=>
   e=.returned (.slice (some ⟨b,off,none⟩) (n+1) c)∧w'=w.setCells b (off+n*3) vs:=by
 have mixed:Tryz.prog.follows .mixedOrders=true:=by kernel_rfl
 obtain⟨i0,z0,hi0,hz0,h3,hb1,hb2,hz3⟩:=z12e;have hsrc:Src Tryz.prog i0.size 56 (.slice (some ⟨vb,voff,none⟩) 1 vc) 1 vs w:=by
  rw[h3];exact Src.ofSlice w zbu ⟨vb,voff,none⟩ 1 vc vs (by omega) (fun j u hj=>by rw[Addr.add_lit];exact hvs j u hj) h1v
 have hsp':∀j,j<vs.length→(w.cell? ⟨b,off+n*i0.size+j,none⟩).isSome=true:=by rw[h3,hvl];exact hsp
 have hfz':∀j,j<vs.length→w.frozen? ⟨b,off+n*i0.size+j,none⟩=false:=by rw[h3,hvl];exact hfz
 go_enter Tryz.func223,Tryz.ntmps223
 go_wp2_with (at_builtin;refine wpList_append_room_src _ rfl _ _ 56 56 rfl 37 i0 zbu hi0 b off n c rfl _ rfl 1 vs hsrc hroom hsp' hfz' ?_)
 go_ret
 first|exact⟨rfl,rfl⟩|exact⟨rfl,by rw[h3]⟩
def z1mu(w:World)(n:Nat)(us:List Value)(e:Ending)(w':World):Prop:=
 ∃(G:Nat)(ROW:Array Value),e=.returned (.slice (some ⟨w.heap.size,0,none⟩) (n+1) G)∧n+1≤G∧ROW.size=G*3∧(∀(j:Nat) v,us[j]?=some v→ROW[j]?=some v)∧Ext w w'∧w'.heap[w.heap.size]?=some (.cells ROW 37 (0,0))
theorem z1h4(w:World)(o:Obj):(w.drew.alloc o).heap[w.heap.size]?=some o:=by
 show(w.heap.push o)[w.heap.size]?=some o;simp
theorem zu9{w:World}{k:Nat}:∀(vs:List Value)(o:Nat){w1:World},Ext w w1→w.heap.size≤k→Ext w (w1.setCells k o vs)
 |[],_,_,h,_=>h
 |v::r,o,_,h,hk=>zu9 r (o+1) (h.setCell hk v) hk
theorem zua{k:Nat}{t:TypeId}{fr:Nat×Nat}:∀(vs:List Value)(o:Nat){w1:World}{ROW:Array Value},w1.heap[k]?=some (.cells ROW t fr)→∃ROW',(w1.setCells k o vs).heap[k]?=some (.cells ROW' t fr)∧ROW'.size=ROW.size
 |[],_,_,ROW,h=>⟨ROW,h,rfl⟩
 |v::r,o,w1,ROW,h=>by
  have h1:(w1.setCell ⟨k,o,none⟩ v).heap[k]?=some (.cells (ROW.setIfInBounds o v) t fr):=by
   unfold World.setCell;simp[y3s,h]
  obtain⟨ROW',h2,h3⟩:=zua r (o+1) h1;exact⟨ROW',h2,by rw[h3];simp⟩
set_option maxHeartbeats 4000000 in
theorem z18p(base:Option Addr)(n vb voff vc:Nat)(cs vs:List Value)(w:World)(hbig:n≤1000000)(hcl:cs.length=n*3)(hvl:vs.length=3)(hnil:base=none→n=0)
  (hcs:∀a,base=some a→∀j v,cs[j]?=some v→w.cell? (a.add j)=some v)
  (hvs:∀j v,vs[j]?=some v→w.cell? ⟨vb,voff+j,none⟩=some v)(h1v:∀v∈vs,v.oneCell'=true):
  Calls Tryz.prog z1mt #[.slice base n n,.int .i64 n,.slice (some ⟨vb,voff,none⟩) 1 vc] w fun e w'=>
   z1mu w n (cs++vs) e w':=by
 have mixed:Tryz.prog.follows .mixedOrders=true:=by kernel_rfl
 obtain⟨i0,z0,hi0,hz0,h3,hb1,hb2,hz3⟩:=z12e;have hsrc:Src Tryz.prog i0.size 56 (.slice (some ⟨vb,voff,none⟩) 1 vc) 1 vs w:=by
  rw[h3];exact Src.ofSlice w zbu ⟨vb,voff,none⟩ 1 vc vs (by omega) (fun j u hj=>by rw[Addr.add_lit];exact hvs j u hj) h1v
 have hold:(Builtin.firstCells i0.size n (.slice base n n)).run Tryz.prog w.drew=.ok cs.toArray w.drew:=by
  rw[h3];cases base with
  |none=>
   have h0:=hnil rfl;subst h0;rw[y10 (l:=cs) (by omega)];exact run_firstCells_none w.drew 3 0 0 0
  |some a=>exact run_firstCells_some w.drew 3 n a n n cs (by omega) (fun j v hj=>hcs a rfl j v hj)
 have hfit:Builtin.nextslicecap (n+1) n*i0.bytes≤281474976710656:=growslice_fits (by omega) (by
  have:(n+1)*i0.bytes≤1000001*100000:=y26 (by omega) hb1
  omega)
 have hrun:∀ty,(Builtin.append_ #[56,56] ty #[.slice base n n,.slice (some ⟨vb,voff,none⟩) 1 vc]).run Tryz.prog w=_:=fun ty=>
  run_append_grow_src w 56 56 ty 37 i0 _ zbu hi0 hz0 base n n cs hold _ 1 vs hsrc (by omega) (by omega) hfit
 obtain⟨G,hG⟩:∃G,G=grownCap w (n+1) n 37:=⟨_,rfl⟩;obtain⟨ROW,hROW⟩:∃ROW:Array Value,ROW=(cs++vs).toArray++Builtin.zeroCells z0.cells (G- (n+1)):=⟨_,rfl⟩;rw[←hG,←hROW]at hrun;have hGn:n+1≤G:=by rw[hG];exact grownCap_ge w _ _ _
 have hsize:ROW.size=G*3:=by
  rw[hROW];simp[Builtin.zeroCells,hcl,hvl,hz3];omega
 have hget:∀(j:Nat) v,(cs++vs)[j]?=some v→ROW[j]?=some v:=fun j v hj=>by
  rw[hROW,y3p (by have:=(yl.1 hj).1;simpa using this)];simpa using hj
 have hnn:(n:Int)<(n:Int)+1:=by omega
 clear hROW hG hfit hold hsrc
 go_enter Tryz.func223,Tryz.ntmps223
 cases base with
 |none=>
  have h0:=hnil rfl;subst h0
  go_wp2_with (at_builtin;refine Lib.wpList_append_run _ rfl _ _ _ _ rfl _ _ rfl rfl _ _ (hrun _) ?_)
  go_ret;exact⟨G,ROW,by simp,hGn,hsize,hget,(Ext.refl w).drew.alloc _,z1h4 w _⟩
 |some a=>
  obtain⟨ab,ao,asp⟩:=a
  go_wp2_with (at_builtin;refine Lib.wpList_append_run _ rfl _ _ _ _ rfl _ _ rfl rfl _ _ (hrun _) ?_)
  all_goals(go_ret;exact⟨G,ROW,by simp,hGn,hsize,hget,(Ext.refl w).drew.alloc _,z1h4 w _⟩)
theorem z18q(W:World)(k o:Nat)(vs:List Value):(W.drew.setCells k o vs).heap=(W.setCells k o vs).heap:=by rw[←drew_setCells];rfl
theorem z29k{w W1:World}{G n i:Nat}{ROW:Array Value}{cs vs:List Value}(hi:i<n)(hRl:ROW.size=G*3)(hRg:∀(j:Nat),j<i*3→ROW[j]?=cs[j]?)(hGn:n+1≤G)(hcl:cs.length=n*3)(hvl:vs.length=3)
  (hW:∀k:Nat,W1.heap[k]?=((((w.drew.alloc (.cells ROW 37)).setCells w.heap.size (i*3) vs)).setCells w.heap.size ((i+1)*3) (cs.drop (i*3))).heap[k]?)
  (hE:Ext w W1):z1mu w n (cs.take (i*3)++vs++cs.drop (i*3)) (.returned (.slice (some ⟨w.heap.size,0,none⟩) (n+1) G)) W1:=by
 obtain⟨R1,h1,h1s⟩:=zua vs (i*3) (z1h4 w (.cells ROW 37));obtain⟨R2,h2,h2s⟩:=zua (cs.drop (i*3)) ((i+1)*3) h1;have hdl:(cs.drop (i*3)).length=(n- i)*3:=by rw[yx,hcl];omega
 refine⟨G,R2,rfl,hGn,by omega,fun j v hj=>?_,hE,by rw[hW];exact h2⟩;have c0:∀j,(w.drew.alloc (.cells ROW 37)).cell? ⟨w.heap.size,j,none⟩=ROW[j]?:=fun j=>World.cell?_alloc_at (w:=w.drew) ROW _ w.heap.size j rfl;have c2:∀j,((((w.drew.alloc (.cells ROW 37)).setCells w.heap.size (i*3) vs)).setCells w.heap.size ((i+1)*3) (cs.drop (i*3))).cell? ⟨w.heap.size,j,none⟩=R2[j]?:=fun j=>by simp[World.cell?,h2]
 have is0:∀j,j<(n+1)*3→((w.drew.alloc (.cells ROW 37)).cell? ⟨w.heap.size,j,none⟩).isSome=true:=fun j hj=>by rw[c0,y2h (by omega)];rfl
 have is1:∀j,j<(n+1)*3→(((w.drew.alloc (.cells ROW 37)).setCells w.heap.size (i*3) vs).cell? ⟨w.heap.size,j,none⟩).isSome=true:=fun j hj=>isSome_setCells _ _ _ _ (fun t ht=>is0 _ (by omega)) _ (is0 _ hj);have hlt:j<(n+1)*3:=by have:=(yl.1 hj).1;simp only[yb,yw,hdl,hvl,hcl]at this;omega
 have htk:(cs.take (i*3)).length=i*3:=by rw[yw];omega
 rw[←c2];by_cases h3:j<(i+1)*3
 ·rw[World.cell?_setCells_out _ _ _ _ _ (fun _ _=>.inl h3)];by_cases h4:j<i*3
  ·rw[World.cell?_setCells_out _ _ _ _ _ (fun _ _=>.inl h4),c0,hRg j h4];rw[y12,y1b (by omega),y2o h4]at hj;exact hj
  ·have:=World.cell?_setCells_in w.heap.size vs (i*3) (w.drew.alloc (.cells ROW 37)) (fun q hq=>is0 _ (by omega)) (j- i*3) (by omega);rw[show i*3+(j- i*3)=j by omega]at this;rw[this,←hj,y12,y1h (by omega),htk,y1b (by omega),y9]
 ·have:=World.cell?_setCells_in w.heap.size (cs.drop (i*3)) ((i+1)*3) ((w.drew.alloc (.cells ROW 37)).setCells w.heap.size (i*3) vs) (fun q hq=>is1 _ (by omega)) (j- (i+1)*3) (by omega);rw[show(i+1)*3+(j- (i+1)*3)=j by omega]at this;rw[this,←hj,y1h (by rw[yb];omega),yb,htk,hvl,show i*3+3=(i+1)*3 by omega,y9]
set_option maxHeartbeats 4000000 in
theorem z2fo(b off n i vb voff vc:Nat)(cs vs:List Value)(w:World)(hi:i<n)(hbig:n≤1000000)
  (hcl:cs.length=n*3)(hvl:vs.length=3)
  (hcs:∀j v,cs[j]?=some v→w.cell? ⟨b,off+j,none⟩=some v) 
  (hvs:∀j v,vs[j]?=some v→w.cell? ⟨vb,voff+j,none⟩=some v)(h1c:∀v∈cs,v.oneCell'=true)(h1v:∀v∈vs,v.oneCell'=true):
  Calls Tryz.prog z1mt #[.slice (some ⟨b,off,none⟩) n n,.int .i64 i,.slice (some ⟨vb,voff,none⟩) 1 vc] w fun e w'=>
   z1mu w n (cs.take (i*3)++vs++cs.drop (i*3)) e w':=by
 have mixed:Tryz.prog.follows .mixedOrders=true:=by kernel_rfl
 obtain⟨i0,z0,hi0,hz0,h3,hbb1,hbb2,hz3⟩:=z12e;have hsz:(Tryz.prog.info? 37).map (·.size)=some 3:=by rw[hi0];simp[h3]
 have hz2:¬((i:Int)=(n:Int)):=by omega
 have hz4:(n:Int)<(n:Int)+1:=by omega
 have hbw:b<w.heap.size:=block_lt_of_cell (hcs 0 _ (y9 (by omega)));have hvw:vb<w.heap.size:=block_lt_of_cell (hvs 0 _ (y9 (by omega)));have hkk:(n:Int)+1- (i:Int)=((n+1- i:Nat):Int):=by omega
 have hik:i+(n+1- i)=n+1:=by omega
 have htk:(cs.take (i*3)).length=i*3:=by rw[yw];omega
 have hold:(Builtin.firstCells i0.size i (.slice (some ⟨b,off,none⟩) i n)).run Tryz.prog w.drew=.ok (cs.take (i*3)).toArray w.drew:=by
  rw[h3]
  exact run_firstCells_some w.drew 3 i ⟨b,off,none⟩ i n (cs.take (i*3)) htk (fun j v hj=>by
   rw[Addr.add_lit];rw[List.getElem?_take]at hj;split at hj
   ·exact hcs j v hj
   ·cases hj)
 have hfit:Builtin.nextslicecap (n+1) n*i0.bytes≤281474976710656:=growslice_fits (by omega) (by
  have:(n+1)*i0.bytes≤1000001*100000:=y26 (by omega) hbb1
  omega)
 have hfit2:(n+1- i)*i0.bytes≤281474976710656:=by
  have:(n+1- i)*i0.bytes≤1000001*100000:=y26 (by omega) hbb1;omega
 have hint:Tryz.prog.underlying 3=some (.int .i64):=by kernel_rfl
 obtain⟨G,hG⟩:∃G,G=grownCap w (n+1) n 37:=⟨_,rfl⟩;obtain⟨ROW,hROW⟩:∃ROW:Array Value,ROW=(cs.take (i*3)).toArray++Builtin.zeroCells z0.cells (n+1- i)++Builtin.zeroCells z0.cells (G- (n+1)):=⟨_,rfl⟩
 have hrz:∀ty,(Builtin.append_ #[56,3] ty #[.slice (some ⟨b,off,none⟩) i n,.int .i64 ((n:Int)+1- (i:Int))]).run Tryz.prog w=
   .ok (.slice (some ⟨w.heap.size,0,none⟩) (n+1) G) (w.drew.alloc (.cells ROW 37)):=fun ty=>by
  have h:=Lib.run_append_grow_zeros w 56 3 ty 37 i0 _ .i64 .i64 zbu hint hi0 hz0 (some ⟨b,off,none⟩) i n (cs.take (i*3)) hold (n+1- i) (by omega) (by omega) (by omega) (by omega) hfit2 (by rw[hik];exact hfit);rw[hik,←hG,←hROW]at h;rw[hkk];exact h
 have hGn:n+1≤G:=by rw[hG];exact grownCap_ge w _ _ _
 have hG63:G≤9223372036854775807:=by
  have:=grownCap_le_maxLen w (n+1) n 37 (by unfold maxLen;omega);rw[←hG]at this;unfold maxLen at this;omega
 have hRl:ROW.size=G*3:=by
  rw[hROW];simp[Builtin.zeroCells,htk,hz3];omega
 have hRg:∀(j:Nat),j<i*3→ROW[j]?=cs[j]?:=fun j hj=>by
  rw[hROW,Array.append_assoc,y3p (by simp[htk];omega)];simp[List.getElem?_take,hj]
 obtain⟨W1,hW1⟩:∃W1,W1=w.drew.alloc (.cells ROW 37):=⟨_,rfl⟩;rw[←hW1]at hrz;have hN:∀j,j<(n+1)*3→(W1.cell? ⟨w.heap.size,j,none⟩).isSome=true:=fun j hj=>by
  rw[hW1,World.cell?_alloc_at (w:=w.drew) ROW _ w.heap.size j rfl,y2h (by omega)];rfl
 have hNf:∀j,W1.frozen? ⟨w.heap.size,j,none⟩=false:=fun j=>by rw[hW1];exact World.frozen?_alloc_at (w:=w.drew) ROW _ w.heap.size j rfl
 have hOb:∀j v,w.cell? ⟨b,j,none⟩=some v→W1.cell? ⟨b,j,none⟩=some v:=fun j v h=>by rw[hW1,World.cell?_alloc_past (w:=w.drew) _ b j hbw];exact h
 have hOv:∀j v,w.cell? ⟨vb,j,none⟩=some v→W1.cell? ⟨vb,j,none⟩=some v:=fun j v h=>by rw[hW1,World.cell?_alloc_past (w:=w.drew) _ vb j hvw];exact h
 have hcpA:∀(W:World),(∀x,W.cell? x=W1.cell? x)→(∀x,W.frozen? x=W1.frozen? x)→∀ty dc,(Builtin.copy_ #[56,56] ty #[.slice (some ⟨w.heap.size,i*3,none⟩) (n+1- i) dc,.slice (some ⟨vb,voff,none⟩) 1 vc]).run Tryz.prog W=.ok (goInt 1) (W.setCells w.heap.size (i*3) vs):=fun W hWc hWf ty dc=>by
  have hm:Nat.min 1 (n+1- i)=1:=by simp only[y3r];split<;>omega
  have:=zem W 56 56 ty 37 w.heap.size (i*3) (n+1- i) dc ⟨vb,voff,none⟩ 1 vc vs 3 zbu hsz (by rw[hm,hvl])
   (fun j v hj=>by rw[Addr.add_lit,hWc];exact hOv _ v (hvs j v hj))
   (fun j hj=>by rw[hWc];exact hN _ (by omega)) (fun j hj=>by rw[hWf];exact hNf _) h1v
  rw[hm]at this;exact this
 have hGi:¬(G=i):=by omega
 have hGim:¬(G=i+1):=by omega
 have hci:¬(n=i):=by omega
 have hbN:b≠w.heap.size:=by omega
 have hdl:(cs.drop (i*3)).length=(n- i)*3:=by rw[yx,hcl];omega
 have hcpB:∀(W:World),(∀x,W.cell? x=(W1.setCells w.heap.size (i*3) vs).cell? x)→(∀x,W.frozen? x=(W1.setCells w.heap.size (i*3) vs).frozen? x)→∀ty dc sc,(Builtin.copy_ #[56,56] ty #[.slice (some ⟨w.heap.size,(i+1)*3,none⟩) (n- i) dc,.slice (some ⟨b,off+i*3,none⟩) (n- i) sc]).run Tryz.prog W=.ok (goInt ((n- i:Nat):Int)) (W.setCells w.heap.size ((i+1)*3) (cs.drop (i*3))):=fun W hWc hWf ty dc sc=>by
  have hm:Nat.min (n- i) (n- i)=n- i:=by simp only[y3r];split<;>rfl
  have:=zem W 56 56 ty 37 w.heap.size ((i+1)*3) (n- i) dc ⟨b,off+i*3,none⟩ (n- i) sc (cs.drop (i*3)) 3 zbu hsz (by rw[hm,hdl])
   (fun j v hj=>by
    rw[Addr.add_lit,hWc,World.cell?_setCells_out _ _ _ _ _ (fun h _=>absurd h hbN),y1d]
    exact hOb _ v (hcs (i*3+j) v (by rwa[y24]at hj)))
   (fun j hj=>by rw[hWc];exact isSome_setCells _ _ _ _ (fun t ht=>hN _ (by omega)) _ (hN _ (by omega)))
   (fun j hj=>by rw[hWf,World.frozen?_setCells];exact hNf _) (fun v hv=>h1c v (y28 hv))
  rw[hm]at this;exact this
 subst hW1;have hE1:∀x,((w.alloc (.cells ROW 37)).drew).cell? x=(w.drew.alloc (.cells ROW 37)).cell? x:=fun x=>rfl;have hE2:∀x,((w.alloc (.cells ROW 37)).drew).frozen? x=(w.drew.alloc (.cells ROW 37)).frozen? x:=fun x=>rfl;have hF1:∀x,(((w.alloc (.cells ROW 37)).drew.setCells w.heap.size (i*3) vs).drew).cell? x=((w.drew.alloc (.cells ROW 37)).setCells w.heap.size (i*3) vs).cell? x:=fun x=>rfl;have hF2:∀x,(((w.alloc (.cells ROW 37)).drew.setCells w.heap.size (i*3) vs).drew).frozen? x=((w.drew.alloc (.cells ROW 37)).setCells w.heap.size (i*3) vs).frozen? x:=fun x=>rfl;have hw1:IntKind.i64.wrap ((i:Int)+1)=(i:Int)+1:=by rw[IntKind.wrap_i64];omega
 have hw2:IntKind.i64.wrap ((n:Int)+1)=(n:Int)+1:=by rw[IntKind.wrap_i64];omega
 have hw3:IntKind.i64.wrap ((n:Int)+1- i)=(n:Int)+1- i:=by rw[IntKind.wrap_i64];omega
 have hb1:(0:Int)≤(i:Int)+1:=by omega
 have hin:i≤n:=by omega
 have htn:((i:Int)+1).toNat=i+1:=by omega
 have hb3:(i:Int)≤(n:Int):=by omega
 have hb7:(i:Int)+1≤(n:Int)+1:=by omega
 have hcpB':=fun ty dc sc=>hcpB _ hF1 hF2 ty dc sc;clear hkk hik hold hROW hG hfit hfit2
 go_enter Tryz.func223,Tryz.ntmps223
 go_wp2_with (first
  |(at_builtin;refine Lib.wpList_append_run _ rfl _ _ _ _ rfl _ _ rfl rfl _ _ (hrz _) ?_)
  |(at_builtin;refine wpList_copy_runI _ rfl _ _ 56 56 rfl _ _ rfl rfl (hcpA _ hE1 hE2 _ _) ?_))
 go_region_law_o (refine step_copy_runI rfl _ _ 56 56 rfl (.slice (some ⟨w.heap.size,(i+1)*3,none⟩) (n- i) (G- (i+1))) (.slice (some ⟨b,off+i*3,none⟩) (n- i) (n- i)) (by simp[Act.eval,Act.put]) (by simp[Act.eval,Act.put]) (hcpB _ hF1 hF2 3 (G- (i+1)) (n- i)) ?_)
 go_wp2
 go_ret;refine z29k hi hRl hRg hGn hcl hvl (fun k=>?_) ?_
 ·exact congrArg (fun h:Array Obj=>h[k]?) (z18q ((w.drew.alloc (.cells ROW 37)).setCells w.heap.size (i*3) vs) w.heap.size ((i+1)*3) (cs.drop (i*3)))
 ·exact(zu9 _ _ ((zu9 _ _ ((Ext.refl w).alloc _).drew (y6 _)).drew) (y6 _))
def RowRel(St:Nat→Nat→Prop)(w:World)(xs:List Val)(us:List Value):Prop:=
 us.length=xs.length*3∧∀e(he:e<xs.length) j d,(enc .val xs[e])[j]?=some d→∃u,us[e*3+j]?=some u∧VRel En St w u d
theorem enc3(x:Val){j:Nat}{d:V Un}(h:(enc .val x)[j]?=some d):j<3:=by
 have h0:=(yl.1 h).1;rw[zfz]at h0;exact h0
theorem RowRel.append{St:Nat→Nat→Prop}{w:World}{xs ys:List Val}{us vs:List Value}(h:RowRel St w xs us)(k:RowRel St w ys vs):RowRel St w (xs++ys) (us++vs):=by
 refine⟨by rw[yb,yb,h.1,k.1,y1k],fun e he j d hd=>?_⟩;rw[yb]at he;by_cases h1:e<xs.length
 ·rw[List.getElem_append_left h1]at hd;obtain⟨u,h2,h3⟩:=h.2 e h1 j d hd;exact⟨u,by rw[y1b (yl.1 h2).1];exact h2,h3⟩
 ·rw[List.getElem_append_right (by omega)]at hd;obtain⟨u,h2,h3⟩:=k.2 (e- xs.length) (by omega) j d hd;refine⟨u,?_,h3⟩;rw[y1h (by rw[h.1];have:=y1e 3 (show xs.length≤e by omega);omega),h.1];rw[show e*3+j- xs.length*3=(e- xs.length)*3+j by omega];exact h2
theorem RowRel.take{St:Nat→Nat→Prop}{w:World}{xs:List Val}{us:List Value}(h:RowRel St w xs us)(i:Nat):RowRel St w (xs.take i) (us.take (i*3)):=by
 refine⟨by rw[yw,yw,h.1];omega,fun e he j d hd=>?_⟩;rw[yw]at he;rw[List.getElem_take]at hd;have hj:=enc3 _ hd;obtain⟨u,h2,h3⟩:=h.2 e (by omega) j d hd;exact⟨u,by rw[y2o (by omega)];exact h2,h3⟩
theorem RowRel.drop{St:Nat→Nat→Prop}{w:World}{xs:List Val}{us:List Value}(h:RowRel St w xs us)(i:Nat):RowRel St w (xs.drop i) (us.drop (i*3)):=by
 refine⟨by rw[yx,yx,h.1];omega,fun e he j d hd=>?_⟩;rw[yx]at he;rw[List.getElem_drop]at hd;obtain⟨u,h2,h3⟩:=h.2 (i+e) (by omega) j d hd;exact⟨u,by rw[y24,show i*3+(e*3+j)=(i+e)*3+j by omega];exact h2,h3⟩
theorem RowRel.one{St:Nat→Nat→Prop}{w:World}{xs:List Val}{us:List Value}(h:RowRel St w xs us):∀u∈us,u.oneCell'=true:=by
 intro u hu;obtain⟨q,hq⟩:=y1r hu;have hlt:=(yl.1 hq).1;rw[h.1]at hlt;have he:q/3<xs.length:=by omega
 have hl:q % 3<(enc .val (xs[q/3]'he)).length:=by rw[zfz];exact y2m _ (by decide)
 obtain⟨u',h2,h3⟩:=h.2 (q/3) he (q % 3) _ (y9 hl);rw[show q/3*3+q % 3=q by omega,hq]at h2;cases h2;exact z1og h3.one
theorem RowRel.of{St:Nat→Nat→Prop}{w:World}{xs:List Val}{cv:Nat→Nat→Value}(h:∀i(hi:i<xs.length) j d,(enc .val xs[i])[j]?=some d→VRel En St w (cv i j) d):RowRel St w xs (z73 xs.length 3 cv):=
 ⟨zs9 _ _ _,fun e he j d hd=>⟨_,z1mp (by decide) he (enc3 _ hd),h e he j d hd⟩⟩
theorem zen(b:Nat):∀(vs:List Value)(o:Nat)(w:World),(∀j,j<vs.length→(w.cell? ⟨b,o+j,none⟩).isSome=true)→Stored w (w.setCells b o vs) b o vs
 |[],o,w,_=>⟨rfl,rfl,rfl,rfl,fun _ _=>rfl,fun i v h=>by simp at h,fun _ _=>rfl,fun _=>rfl,fun _=>rfl⟩
 |v::r,o,w,h=>by
  have hs:∀j,j<r.length→((w.setCell ⟨b,o,none⟩ v).cell? ⟨b,o+1+j,none⟩).isSome=true:=fun j hj=>by
   rw[World.cell?_setCell_other _ _ _ _ (by simp)];have:=h (j+1) (by simp;omega);rwa[show o+(j+1)=o+1+j by omega]at this
  have ih:=zen b r (o+1) (w.setCell ⟨b,o,none⟩ v) hs;refine⟨ih.os,ih.tape,ih.output,by rw[World.setCells,ih.size];simp,fun k hk=>by rw[World.setCells,ih.block k hk];exact Below.heap_setCell _ _ _ _ hk,fun i u hu=>?_,fun p hp=>?_,fun p=>?_,by simp⟩
  ·have:=World.cell?_setCells_in b (v::r) o w h i (yl.1 hu).1;rw[this];obtain⟨_,h2⟩:=yl.1 hu;exact congrArg some h2
  ·rw[World.setCells,ih.other p (by simp only[yt]at hp;omega)];exact World.cell?_setCell_other _ _ _ _ (by rintro rfl;simp only[yt]at hp;omega)
  ·rw[World.setCells,ih.frozen p];exact zqb _ _ _ _
theorem z29l{w w1 w2:World}{b off o1 o2:Nat}{us v1 v2:List Value}(h1:Stored w.drew w1 b o1 v1)(h2:Stored w1 w2 b o2 v2)(hne:us≠[])(hb1:off≤o1∧o1+v1.length≤off+us.length)(hb2:off≤o2∧o2+v2.length≤off+us.length)
  (hin:∀(j:Nat) v,us[j]?=some v→w2.cell? ⟨b,off+j,none⟩=some v):Stored w w2 b off us:=
 ⟨h2.os.trans h1.os,h2.tape.trans h1.tape,h2.output.trans h1.output,h2.size.trans h1.size,fun k hk=>(h2.block k hk).trans (h1.block k hk),hin,fun p hp=>(h2.other p (by omega)).trans (h1.other p (by omega)),fun p=>(h2.frozen p).trans (h1.frozen p),fun h=>(hne h).elim⟩
theorem z1h5{w:World}{b off n i:Nat}{cs vs:List Value}(hi:i≤n)(hcl:cs.length=n*3)(hvl:vs.length=3)(hcs:∀j v,cs[j]?=some v→w.cell? ⟨b,off+j,none⟩=some v)(hsp:∀j,j<(n+1)*3→(w.cell? ⟨b,off+j,none⟩).isSome=true):
  Stored w ((w.drew.setCells b (off+(i+1)*3) (cs.drop (i*3))).setCells b (off+i*3) vs) b off (cs.take (i*3)++vs++cs.drop (i*3)):=by
 have hdl:(cs.drop (i*3)).length=(n- i)*3:=by rw[yx,hcl];omega
 have htk:(cs.take (i*3)).length=i*3:=by rw[yw];omega
 have h1:=zen b (cs.drop (i*3)) (off+(i+1)*3) w.drew (fun j hj=>by rw[y1d];exact hsp _ (by omega));have hs1:∀j,j<(n+1)*3→((w.drew.setCells b (off+(i+1)*3) (cs.drop (i*3))).cell? ⟨b,off+j,none⟩).isSome=true:=fun j hj=>isSome_setCells _ _ _ _ (fun t ht=>by rw[y1d];exact hsp _ (by omega)) _ (hsp _ hj);have h2:=zen b vs (off+i*3) _ (fun j hj=>by rw[y1d];exact hs1 (i*3+j) (by omega));have hul:(cs.take (i*3)++vs++cs.drop (i*3)).length=(n+1)*3:=by simp only[yb];omega
 refine z29l h1 h2 (fun h=>by rw[h]at hul;simp at hul) (by omega) (by omega) (fun j v hj=>?_);have hlt:j<(n+1)*3:=by have:=(yl.1 hj).1;omega
 by_cases h3:j<i*3
 ·rw[h2.other ⟨b,off+j,none⟩ (.inl (by show off+j<_;omega)),h1.other ⟨b,off+j,none⟩ (.inl (by show off+j<_;omega))];rw[y12,y1b (by omega),y2o h3]at hj;exact hcs j v hj
 ·by_cases h4:j<(i+1)*3
  ·have:=h2.cell (j- i*3) v (by rw[←hj,y12,y1h (by omega),htk,y1b (by omega)]);rw[show off+i*3+(j- i*3)=off+j by omega]at this;exact this
  ·rw[h2.other ⟨b,off+j,none⟩ (.inr (.inl (by show _≤off+j;omega)))];have:=h1.cell (j- (i+1)*3) v (by rw[←hj,y1h (by rw[yb];omega),yb,htk,hvl,show i*3+3=(i+1)*3 by omega]);rw[show off+(i+1)*3+(j- (i+1)*3)=off+j by omega]at this;exact this
theorem z1qx{w:World}{b off n:Nat}{cs vs:List Value}(hcl:cs.length=n*3)(hvl:vs.length=3)(hcs:∀j v,cs[j]?=some v→w.cell? ⟨b,off+j,none⟩=some v)(hsp:∀j,j<(n+1)*3→(w.cell? ⟨b,off+j,none⟩).isSome=true):
  Stored w (w.setCells b (off+n*3) vs) b off (cs++vs):=by
 have h2:=zen b vs (off+n*3) w (fun j hj=>by rw[y1d];exact hsp (n*3+j) (by omega));have hul:(cs++vs).length=(n+1)*3:=by simp only[yb];omega
 refine⟨h2.os,h2.tape,h2.output,h2.size,h2.block,fun j v hj=>?_,fun p hp=>h2.other p (by omega),h2.frozen,fun h=>by rw[h]at hul;simp at hul⟩;by_cases h3:j<n*3
 ·rw[h2.other ⟨b,off+j,none⟩ (.inl (by show off+j<_;omega))];rw[y1b (by omega)]at hj;exact hcs j v hj
 ·have:=h2.cell (j- n*3) v (by rw[←hj,y1h (by omega),hcl]);rw[show off+n*3+(j- n*3)=off+j by omega]at this;exact this
theorem z2fp{g:G}{w w':World}{xs ys:List Val}{b off cap:Nat}{us:List Value}(hp:Part Tryz.prog En g w [] [⟨0,.val,xs,some 0,true⟩])(htk:g.tk 0=(some ⟨b,off,none⟩,cap))(hst:Stored w w' b off us)(hcap:ys.length≤cap)(hxy:xs.length≤ys.length)(hbig:ys.length≤9223372036854775807)
  (hA:∀x,x<cap*3→g.ω b (off+x)=some (.obj 0)∧(∃v,w.cell? ⟨b,off+x,none⟩=some v)∧stuck w ⟨b,off+x,none⟩=false)(hrel:RowRel g.St w ys us):
  RetG Tryz.prog En g w w' (.slice (some ⟨b,off,none⟩) ys.length cap) [.c (.ob 0 0)] [] [⟨0,.val,ys,some 0,true⟩]:=by
 have hul:=hrel.1;have hcap3:ys.length*3≤cap*3:=y1e 3 hcap;have hmine:∀x,x<cap*3→g.mine b (off+x):=fun x hx=>⟨.obj 0,by simp,(hA x hx).1⟩
 have hk:Keeps g.St w g.St w':=fun b' o hs=>⟨hs,hst.other ⟨b',o,none⟩ (by
  by_cases e:b'=b
  ·subst e;by_cases h1:o<off
   ·exact .inl h1
   ·by_cases h2:off+us.length≤o
    ·exact .inr (.inl h2)
    ·have:=(hA (o- off) (by omega)).1;rw[show off+(o- off)=o by omega]at this;have hs':g.ω b' o=some .st:=hs;rw[this]at hs';simp at hs'
  ·exact .inr (.inr e))⟩
 have hobj:ObRel En g w' 0 ⟨0,.val,ys,some 0,true⟩:=by
  refine⟨⟨⟨by rw[htk];exact hcap,hbig⟩,fun f hf=>by simp at hf;subst hf;exact ya _⟩,fun _=>⟨b,off,fun i j=>us.getD (i*3+j) undef,by rw[htk],⟨?_,?_,?_⟩⟩⟩
  ·intro i j hi hj;have hi':i<ys.length:=hi;have hj':j<3:=hj;have hlt:i*3+j<ys.length*3:=by omega
   have e0:off+i*Un.sz .val+j=off+(i*3+j):=by show off+i*3+j=_;omega
   show w'.cell? ⟨b,off+i*Un.sz .val+j,none⟩=_∧Mode g w' 0 (some 0) i b (off+i*Un.sz .val+j);rw[e0];refine⟨?_,fun h=>absurd h (y18 _),fun _=>⟨(hA _ (by omega)).1,by rw[hst.frozen];exact(hA _ (by omega)).2.2⟩⟩;rw[yd,y9 (by omega)];exact hst.cell _ _ (y9 (by omega))
  ·intro i hi j d hd;obtain⟨u,h1,h2⟩:=hrel.2 i hi j d hd;show VRel En g.St w' (us.getD (i*3+j) undef) d;rw[yd,h1];exact h2.mono hk
  ·intro _ x hx hx';have hx1:ys.length*3≤x:=hx;have hx2:x<cap*3:=by rw[htk]at hx';exact hx'
   obtain⟨h1,⟨v,h2⟩,h3⟩:=hA x hx2;exact⟨h1,⟨v,by rw[hst.other ⟨b,off+x,none⟩ (.inr (.inl (by show _≤off+x;omega)))];exact h2⟩,by rw[hst.frozen];exact h3⟩
 have hnb:∀b o,LB b=true→¬g.mine b o:=fun b o hl hm=>by obtain⟨y,hy,hx⟩:=hm;exact hy (hp.nlb b o y hl hx)
 have hfe:=FExt.stored (fr:=⟨w,g.mine,g.St,0,g.β⟩) (w:=w) ⟨rfl,rfl,rfl,y6 _,fun _ _ _=>rfl,fun _ _ _ _=>rfl,fun _ _ _ _=>rfl,hp.laid,fun b hl=>hp.laid.lt b hl,hnb⟩ hst (fun i hi=>.inr (hmine i (by omega)));refine⟨g,hfe,⟨fun k fz cells hk'=>by simp at hk',hp.lbs,fun k o ho=>?_,fun b' o x hx=>by rw[hst.size];exact hp.own b' o x hx,hfe.laid,hp.nlb⟩,fun _ _=>rfl,fun b' o x _ hx=>?_,?_⟩
 ·cases k with
  |zero=>simp at ho;subst ho;exact⟨hobj,rfl⟩
  |succ k=>simp at ho
 ·cases x with
  |st=>exact .inr ⟨rfl,hx⟩
  |box k=>exact .inl ⟨_,by simp,hx⟩
  |obj k=>exact .inl ⟨_,by simp,hx⟩
 ·exact⟨rfl,_,rfl,y6 _,fun _=>by rw[htk]⟩
open Classical in
theorem z1h6{g:G}{w w':World}{ys:List Val}{n:Nat}{us:List Value}{e:Ending}(hld:Laid w)(hnl:∀b o x,LB b=true→g.ω b o=some x→x=.st)(hlb:∀k,¬g.lb k)(hown:∀b o x,g.ω b o=some x→b<w.heap.size)(hI:z1mu w n us e w')(hn:ys.length=n+1)(hbig:ys.length≤9223372036854775807)(hrel:RowRel g.St w ys us):
  ∃v,e=.returned v∧RetG Tryz.prog En g w w' v [.c (.ob 0 0)] [] [⟨0,.val,ys,some 0,true⟩]:=by
 obtain⟨cap,ROW,rfl,hcap,hsz,hget,hext,hheap⟩:=hI;refine⟨_,rfl,?_⟩;have hul:=hrel.1;have hcap3:ys.length*3≤cap*3:=y1e 3 (by omega);have hgb:w.heap.size<w'.heap.size:=(y2r.1 hheap).1;have hcell:∀q,q<cap*3→w'.cell? ⟨w.heap.size,q,none⟩=ROW[q]?∧(∃u,w'.cell? ⟨w.heap.size,q,none⟩=some u)∧stuck w' ⟨w.heap.size,q,none⟩=false:=by
  intro q hq;have h1:w'.cell? ⟨w.heap.size,q,none⟩=ROW[q]?:=by simp[World.cell?,hheap]
  refine⟨h1,⟨ROW[q]'(by omega),by rw[h1];exact y2h _⟩,?_⟩;simp[stuck,World.shape?,World.frozen?,hheap]
 let g':G:=⟨g.β,fun _=>False,fun b o=>if b<w.heap.size then(if g.St b o then some .st else none)else if b=w.heap.size∧o<cap*3 then some (.obj 0)else none,fun _=>(some ⟨w.heap.size,0,none⟩,cap)⟩;have hω:∀o,o<cap*3→g'.ω w.heap.size o=some (.obj 0):=fun o ho=>by
  show(if w.heap.size<w.heap.size then _ else _)=_;rw[if_neg (by omega),if_pos ⟨rfl,ho⟩]
 have hk:Keeps g.St w g'.St w':=fun b o hs=>by
  have hb:=hown b o _ hs;refine⟨?_,hext.cell (p:=⟨b,o,none⟩) hb⟩;show(if b<w.heap.size then _ else _)=_;rw[if_pos hb,if_pos hs]
 have hnb:∀b o,LB b=true→¬g.mine b o:=fun b o hl hm=>by obtain⟨y,hy,hx⟩:=hm;exact hy (hnl b o y hl hx)
 refine⟨g',FExt.later ⟨rfl,rfl,rfl,y6 _,fun _ _ _=>rfl,fun _ _ _ _=>rfl,fun _ _ _ _=>rfl,hld,fun b hl=>hld.lt b hl,hnb⟩ hext,⟨fun k fz cells hk'=>by simp at hk',fun k hk'=>hk'.elim,fun k o ho=>?_,fun b o x hx=>?_,hld.ext hext,fun b o x hl hx=>?_⟩,fun _ _=>rfl,fun b o x hb hx=>?_,?_⟩
 ·cases k with
  |succ k=>simp at ho
  |zero=>
   simp at ho;subst ho;refine⟨⟨⟨⟨by show ys.length≤cap;omega,hbig⟩,fun f hf=>by simp at hf;subst hf;exact ya _⟩,fun _=>⟨w.heap.size,0,fun i j=>us.getD (i*3+j) undef,rfl,⟨?_,?_,?_⟩⟩⟩,rfl⟩
   ·intro i j hi hj;have hi':i<ys.length:=hi;have hj':j<3:=hj;have hlt:i*3+j<ys.length*3:=by omega
    have e0:0+i*Un.sz .val+j=i*3+j:=by show 0+i*3+j=_;omega
    show w'.cell? ⟨w.heap.size,0+i*Un.sz .val+j,none⟩=_∧Mode g' w' 0 (some 0) i w.heap.size (0+i*Un.sz .val+j);rw[e0];obtain⟨c1,_,c3⟩:=hcell (i*3+j) (by omega);refine⟨?_,fun h=>absurd h (y18 _),fun _=>⟨hω _ (by omega),c3⟩⟩;rw[c1,yd,y9 (by omega)];exact hget _ _ (y9 (by omega))
   ·intro i hi j d hd;obtain⟨u,h1,h2⟩:=hrel.2 i hi j d hd;show VRel En g'.St w' (us.getD (i*3+j) undef) d;rw[yd,h1];exact h2.mono hk
   ·intro _ x hx hx';have hx2:x<cap*3:=hx';obtain⟨_,c2,c3⟩:=hcell x hx2;show g'.ω w.heap.size (0+x)=_∧_;rw[y15];exact⟨hω x hx2,c2,c3⟩
 ·have hx':(if b<w.heap.size then(if g.St b o then some Own.st else none)else if b=w.heap.size∧o<cap*3 then some (Own.obj 0)else none)=some x:=hx;split at hx'
  ·omega
  ·split at hx'
   ·rename_i hh;omega
   ·simp at hx'
 ·have hx':(if b<w.heap.size then(if g.St b o then some Own.st else none)else _)=some x:=hx;rw[if_pos (hld.lt b hl)]at hx';split at hx'
  ·simp at hx';exact hx'.symm
  ·simp at hx'
 ·have hx':(if b<w.heap.size then(if g.St b o then some Own.st else none)else _)=some x:=hx;rw[if_pos hb]at hx';split at hx'
  ·rename_i hs;simp at hx';exact .inr ⟨hx'.symm,hs⟩
  ·simp at hx'
 ·exact⟨rfl,_,rfl,y6 _,fun _=>by rw[hn]⟩
def zub:List Bool×FnG Un:=([true],fun args bxs os=>match args,bxs,os with
 |[.c (.ob 0 0),x1,x2],[],[o]=>(oM .val o).bind fun xs=>(aI .i64 x1).bind fun i=>(aL .val x2).bind fun vs=>some ([(0≤i∧i≤(xs.length:Int))∧xs.length≤1000000∧vs.length=1],[.c (.ob 0 0)],[],[⟨0,.val,xs.take i.toNat++vs++xs.drop i.toNat,some 0,true⟩])
 |_,_,_=>none)
theorem z1qy:GnOK z1mt zub:=by
 intro args bxs obs ob rs bxs' obs' h hob;unfold zub at h;dsimp only at h;split at h
 ·rename_i x1 x2 o;simp only[y7,y8,ym]at h;obtain⟨xs,e0,i,e1,vs,e2,rfl,rfl,rfl,rfl⟩:=h;obtain rfl:=z1x5 e0;obtain rfl:=z1ix e1;obtain rfl:=z2h0 e2;obtain⟨⟨hi0,hi1⟩,hbig,hv1⟩:=hob _ (yi.2 rfl);refine⟨?_,zj Tryz.func223 (by kernel_rfl) (by kernel_rfl)⟩;obtain⟨i,rfl⟩:∃k:Nat,i=k:=⟨i.toNat,(y3t hi0).symm⟩;rw[y5];have hin:i≤xs.length:=by omega
  intro w g vals hp hvals
  match vals,hvals with
  |[v0,v1,v2],⟨h0,h1,h2,_⟩=>
   obtain⟨_,o',ho',_,hv⟩:=h0;simp at ho';subst ho';have hv:=hv rfl;obtain rfl:v1=.int .i64 i:=h1.1;have hV:VRel En g.St w v2 (.dat .val vs):=h2.1;obtain⟨hob0,_⟩:=hp.obs 0 _ rfl;obtain⟨⟨⟨hcap,hmax⟩,_⟩,hrow⟩:=hob0;rcases hV.inv with⟨rfl,_⟩|⟨vb,voff,vc,cv,rfl,_,hvc,hvr⟩
   ·simp at hv1
   ·have hvR:RowRel g.St w vs (z73 vs.length 3 cv):=RowRel.of hvr;have hvl:(z73 vs.length 3 cv).length=3:=by rw[zs9,hv1]
    have hvcell:∀j u,(z73 vs.length 3 cv)[j]?=some u→w.cell? ⟨vb,voff+j,none⟩=some u∧g.St vb (voff+j):=by
     intro j u hj;obtain⟨e,q,he,hq,rfl,rfl⟩:=zsa hj;have:=hvc e q he hq;have e3:Un.sz .val=3:=rfl;rw[e3,y1d]at this;exact⟨this.2,this.1⟩
    obtain⟨us,hus⟩:∃us,us=z73 vs.length 3 cv:=⟨_,rfl⟩;rw[←hus]at hvR hvl hvcell;have hys:∀cs,RowRel g.St w xs cs→RowRel g.St w (xs.take i++vs++xs.drop i) (cs.take (i*3)++us++cs.drop (i*3)):=fun cs hc=>((hc.take i).append hvR).append (hc.drop i);have hyl:(xs.take i++vs++xs.drop i).length=xs.length+1:=by simp only[yb,yw,yx];omega
    have hone:=hvR.one;have hv2:vs.length=1:=hv1;rw[hv,hv1];rcases yj xs.length (g.tk 0).2 with hroom|hfull
    ·obtain⟨b,off,cs0,hbase,hA⟩:=hrow (by show 0<_;omega);have hcR:RowRel g.St w xs (z73 xs.length 3 cs0):=RowRel.of hA.rel;obtain⟨cs,hcs⟩:∃cs,cs=z73 xs.length 3 cs0:=⟨_,rfl⟩;rw[←hcs]at hcR;have hccell:∀j u,cs[j]?=some u→w.cell? ⟨b,off+j,none⟩=some u:=by
      intro j u hj;rw[hcs]at hj;obtain⟨e,q,he,hq,rfl,rfl⟩:=zsa hj;have:=(hA.cell e q he hq).1;have e3:Un.sz .val=3:=rfl;rw[e3,y1d]at this;exact this
     have hall:∀x,x<(g.tk 0).2*3→g.ω b (off+x)=some (.obj 0)∧(∃v,w.cell? ⟨b,off+x,none⟩=some v)∧stuck w ⟨b,off+x,none⟩=false:=by
      intro x hx;rcases yj x (xs.length*3)with g1|g1
      ·have he:x/3<xs.length:=by omega
       have hm:=hA.cell (x/3) (x % 3) he (y2m _ (by decide));have e3:off+x/3*Un.sz .val+x % 3=off+x:=by show off+x/3*3+x % 3=_;omega
       rw[e3]at hm;obtain⟨m1,m2⟩:=hm.2.2 (ya _);exact⟨m1,⟨_,hm.1⟩,m2⟩
      ·exact hA.spare rfl x g1 hx
     have htk:g.tk 0=(some ⟨b,off,none⟩,(g.tk 0).2):=by rw[←hbase]
     have hcap3:(xs.length+1)*3≤(g.tk 0).2*3:=y1e 3 hroom;have hsp:∀j,j<(xs.length+1)*3→(w.cell? ⟨b,off+j,none⟩).isSome=true:=fun j hj=>by
      obtain⟨_,⟨v,hv⟩,_⟩:=hall j (by omega);rw[hv];rfl
     have hnf:∀j,j<(xs.length+1)*3→w.frozen? ⟨b,off+j,none⟩=false:=fun j hj=>zmm (hall j (by omega)).2.2
     have fin:∀(e:Ending)(w':World),e=.returned (.slice (some ⟨b,off,none⟩) (xs.length+1) (g.tk 0).2)→Stored w w' b off (cs.take (i*3)++us++cs.drop (i*3))→
       ∃v,e=.returned v∧RetG Tryz.prog En g w w' v [.c (.ob 0 0)] [] [⟨0,.val,xs.take i++vs++xs.drop i,some 0,true⟩]:=fun e w' he hst=>by
      refine⟨_,he,?_⟩;rw[←hyl];exact z2fp hp htk hst (by omega) (by omega) (by omega) hall (hys cs hcR)
     rw[hbase];by_cases hie:i=xs.length
     ·subst hie;refine(z218 b off xs.length (g.tk 0).2 vb voff vc us w hroom hbig hvl (fun j hj=>by rw[y1d];exact hsp _ (by omega)) (fun j hj=>by rw[y1d];exact hnf _ (by omega)) (fun j u hj=>(hvcell j u hj).1) hone).mono ?_;rintro e w' ⟨he,rfl⟩;refine fin e _ he ?_;have:=z1qx (vs:=us) hcR.1 hvl hccell hsp;rw[y32 (by have:=hcR.1;omega),y22 (by have:=hcR.1;omega),y14];exact this
     ·obtain⟨_,⟨z1,hz1⟩,hz2⟩:=hall ((i+1)*3) (by omega);have hshape:∀{k o:Nat}{u:Value},w.cell? ⟨k,o,none⟩=some u→∃t n,w.shape? k=some (t,n)∧n≠0:=by
       intro k o u hu;unfold World.cell? at hu;unfold World.shape?;split at hu
       ·rename_i c t fr hk;simp only[hk];refine⟨_,_,rfl,fun h0=>?_⟩;simp at hu;have:=(y2r.1 hu).1;omega
       ·simp at hu
      obtain⟨u0,hu0⟩:∃u0,us[0]?=some u0:=⟨us[0]'(by omega),y9 _⟩;obtain⟨tA,kA,hsa,hkA⟩:=hshape (hvcell 0 u0 hu0).1;obtain⟨tB,kB,hsb,hkB⟩:=hshape hz1;refine(z2d4 b off xs.length (g.tk 0).2 i vb voff vc cs us w (by omega) hroom hbig hcR.1 hvl hccell hsp hnf (fun j u hj=>(hvcell j u hj).1) hcR.one hone tA tB kA kB hsa hsb hkA hkB hz2 ?_).mono ?_
      ·intro he j hj q hq hjq;subst he;obtain⟨u,hu⟩:∃u,us[q]?=some u:=⟨us[q]'(by omega),y9 _⟩;have h1:=(hvcell q u hu).2;have h2:=(hall j (by omega)).1;have h1':g.ω vb (voff+q)=some .st:=h1;rw[←hjq,h2]at h1';simp at h1'
      ·rintro e w' ⟨he,rfl⟩;exact fin e _ he (z1h5 hin hcR.1 hvl hccell hsp)
    ·have hcn:(g.tk 0).2=xs.length:=by have h1:xs.length≤(g.tk 0).2:=hcap;omega
     have hlb:∀k,¬g.lb k:=fun k hk=>by have:=hp.lbs k hk;simp at this
     rw[hcn];by_cases hx0:xs.length=0
     ·have hx:xs=[]:=y10 hx0;subst hx;obtain rfl:i=0:=by simpa using hin
      refine(z18p (g.tk 0).1 0 vb voff vc [] us w (by omega) rfl hvl (fun _=>rfl) (fun a _ j v hj=>by simp at hj) (fun j u hj=>(hvcell j u hj).1) hone).mono ?_;intro e w' hI;have hz:=hys [] ⟨rfl,fun e he=>absurd he (y18 _)⟩;simp only[List.take_nil,List.drop_nil,yz,y14]at hz ⊢;exact z1h6 hp.laid hp.nlb hlb hp.own hI (by simpa using hv2) (by omega) hz
     ·obtain⟨b,off,cs0,hbase,hA⟩:=hrow (by show 0<_;omega);have hcR:RowRel g.St w xs (z73 xs.length 3 cs0):=RowRel.of hA.rel;obtain⟨cs,hcs⟩:∃cs,cs=z73 xs.length 3 cs0:=⟨_,rfl⟩;rw[←hcs]at hcR;have hccell:∀j u,cs[j]?=some u→w.cell? ⟨b,off+j,none⟩=some u:=by
       intro j u hj;rw[hcs]at hj;obtain⟨e,q,he,hq,rfl,rfl⟩:=zsa hj;have:=(hA.cell e q he hq).1;have e3:Un.sz .val=3:=rfl;rw[e3,y1d]at this;exact this
      rw[hbase];by_cases hie:i=xs.length
      ·subst hie;refine(z18p (some ⟨b,off,none⟩) xs.length vb voff vc cs us w hbig hcR.1 hvl (fun h=>by simp at h) (fun a ha j v hj=>by cases ha;rw[Addr.add_lit];exact hccell j v hj) (fun j u hj=>(hvcell j u hj).1) hone).mono ?_;intro e w' hI;have hz:=hys cs hcR;rw[y32 (l:=cs) (by have:=hcR.1;omega),y22 (l:=cs) (by have:=hcR.1;omega),y14]at hz;exact z1h6 hp.laid hp.nlb hlb hp.own hI hyl (by omega) hz
      ·refine(z2fo b off xs.length i vb voff vc cs us w (by omega) hbig hcR.1 hvl hccell (fun j u hj=>(hvcell j u hj).1) hcR.one hone).mono ?_;intro e w' hI;exact z1h6 hp.laid hp.nlb hlb hp.own hI hyl (by omega) (hys cs hcR)
 ·simp at h
end B
namespace B
open Go Go.RowKit
set_option maxRecDepth 100000
noncomputable section
attribute [local irreducible] awp ctxK zx z1f retQ z1l awf ctxF z1k
def zqw(r:Int×Bool):RF Un:=(z4h r,z4i r)
def zit:Nat→NS:=nsF_ [(3,{ts:=bl 49 1813,bs:=bl 49 16,nm:=[]})] false
def z62(x:List Val)(t:Val)(p:Val→Val→Int)(v0:Int)(v1:Int):S Un:=(st 49 49 196 0 [(0,al .val x),(2,AV.one (A.c (C.fv (z1g p)))),(4,ax 4),(8,ai (↑x.length:Int)),(9,ai v0),(10,ai v1)] [(4,bg .val t)] [])
def zcr:S Un→Option (EX Un):=lpF_ z1bz zit Tryz.f222 [1,1,1,0,2,2] 3
def z101:Exit→S Un→Option (RF Un):=cxF_ z1bz zit Tryz.f222 [1,1,1,0,2] [.d,.d]
def z102(x:List Val)(t:Val)(p:Val→Val→Int):Option (RF Un):=fnF_ z1bz zit Tryz.f222 0 [.d,.d] [.d (.v (.dat (U:=Un) Ty.val x)),.d (.agg (enc Ty.val t)),.fn (z1g p)]
theorem z1qz(x:List Val)(t:Val)(p:Val→Val→Int):z102 x t p=(zcr (z62 x t p (0:Int) (↑x.length:Int))).bind (ze z101):=by kernel_rfl
theorem z1r0(x:List Val)(t:Val)(p:Val→Val→Int)(v0:Int)(v1:Int):zcr (z62 x t p v0 v1)=cndO (decide (v0<v1)) (obO (¬(1:Int)<(0:Int)) (obO (0≤IntKind.i64.wrap ((IntKind.u64.wrap (IntKind.i64.wrap (v0+v1))).fdiv ((2:Int) ^min 1 IntKind.u64.bits))∧IntKind.i64.wrap ((IntKind.u64.wrap (IntKind.i64.wrap (v0+v1))).fdiv ((2:Int) ^min 1 IntKind.u64.bits))<(↑x.length:Int)) (cndO (decide (p (x.getD (IntKind.i64.wrap ((IntKind.u64.wrap (IntKind.i64.wrap (v0+v1))).fdiv ((2:Int) ^min 1 IntKind.u64.bits))).toNat z7) t<0)) (zcr (z62 x t p (IntKind.i64.wrap (IntKind.i64.wrap ((IntKind.u64.wrap (IntKind.i64.wrap (v0+v1))).fdiv ((2:Int) ^min 1 IntKind.u64.bits))+1)) v1)) (zcr (z62 x t p v0 (IntKind.i64.wrap ((IntKind.u64.wrap (IntKind.i64.wrap (v0+v1))).fdiv ((2:Int) ^min 1 IntKind.u64.bits)))))))) (some (.exit 0,(z62 x t p v0 v1))):=lpQ_ (by kernel_rfl)
theorem z1bc(x:List Val)(t:Val)(p:Val→Val→Int)(v0:Int)(v1:Int):z101 (.exit 0) (z62 x t p v0 v1)=cndO (decide (v0<(↑x.length:Int))) (obO (0≤v0∧v0<(↑x.length:Int)) (some (zqw (v0,p (x.getD v0.toNat z7) t==0)))) (some (zqw (v0,false))):=by kernel_rfl
def posP(p:Val→Val→Int)(x:List Val)(t:Val):Nat:=(x.takeWhile fun y=>decide (p y t<0)).length
def z1mv(p:Val→Val→Int)(x:List Val)(t:Val):Prop:=x.length≤1000000000∧∀i,posP p x t≤i→i<x.length→¬p (x.getD i z7) t<0
def z6c(x:List Val)(t:Val)(p:Val→Val→Int):Int×Bool:=(posP p x t,decide (posP p x t<x.length)&&p (x.getD (posP p x t) z7) t==0)
theorem z148{p:Val→Bool}:∀(l:List Val)(i:Nat),i<(l.takeWhile p).length→p (l.getD i z7)=true
 |[],i,h=>by simp at h
 |y::l,i,h=>by
  rw[y3q]at h;split at h
  ·cases i with
   |zero=>grind
   |succ i=>simp at h;simpa using z148 l i (by omega)
  grind
theorem z2i1(p:Val→Val→Int)(x:List Val)(t:Val):posP p x t≤x.length:=(y4s _).length_le
theorem z2i2{a b:Int}(ha:0≤a)(hb:0≤b)(h:a+b≤4000000000):IntKind.i64.wrap ((IntKind.u64.wrap (IntKind.i64.wrap (a+b))).fdiv ((2:Int) ^min 1 IntKind.u64.bits))=(a+b)/2:=by
 have e2:IntKind.u64.wrap (a+b)=a+b:=by
  have hb:IntKind.u64.bits=64:=rfl;unfold IntKind.wrap;grind
 have e3:((2:Int) ^min 1 IntKind.u64.bits)=2:=by rfl
 grind[Int.fdiv_eq_ediv_of_nonneg,z1u]
theorem z219(x:List Val)(t:Val)(p:Val→Val→Int)(h:z1mv p x t):∀(k a b:Nat),b- a=k→a≤posP p x t→posP p x t≤b→b≤x.length→
  zcr (z62 x t p a b)=some (.exit 0,z62 x t p (posP p x t:Nat) (posP p x t:Nat)):=by
 intro k
 induction k using Nat.strongRecOn with
 |_ k ih=>
  intro a b hk h1 h2 h3;have hl:=h.1;rw[z1r0];simp only[z8,z2b1,z2i2 (a:=(a:Int)) (b:=(b:Int)) (by omega) (by omega) (by omega)];by_cases hab:(a:Int)<b
  ·obtain⟨c,hc⟩:∃c:Nat,((a:Int)+b)/2=c:=⟨(a+b)/2,by rfl⟩;rw[hc];have hcl:(c:Int)<x.length:=by omega
   rw[if_pos (by grind),if_pos (by simp),if_pos ⟨by omega,hcl⟩,y5];by_cases hp:p (x.getD c z7) t<0
   ·have:c<posP p x t:=by
     rcases yj c (posP p x t)with g|g
     ·omega
     ·exact(h.2 c g (by omega) hp).elim
    rw[if_pos (by grind),z1u (by omega)];exact ih (b- (c+1)) (by omega) (c+1) b rfl (by omega) h2 h3
   ·have:posP p x t≤c:=by
     rcases yj c (posP p x t)with g|g
     ·have:=z148 (p:=fun y=>decide (p y t<0)) x c g;grind
     omega
    grind
  grind
theorem z1h7(x:List Val)(t:Val)(p:Val→Val→Int)(_hx:WL .val x)(_ht:WS .val t)(h:z1mv p x t):z102 x t p=some (zqw (z6c x t p)):=by
 rw[z1qz];have hl:=z219 x t p h x.length 0 x.length rfl (ya _) (z2i1 p x t) (y6 _)
 erw[hl]
 simp only[yh,ze,z1bc,z8,z2b1,y5];grind[z6c,posP]
def zqx:FnC Un:=fun args=>match args with
 |[x0,x1,x2]=>(dL .val x0).bind fun x=>(dS .val x1).bind fun t=>(dF x2).bind fun p=>some ([p=(z1g (zl p)),z1mv (zl p) x t],z4h (z6c x t (zl p)),z4i (z6c x t (zl p)))
 |_=>none
theorem z1r1:FnOK 222 zqx:=by
 intro args ob rs os h hob;unfold zqx at h;split at h
 ·simp only[y7,y8,ym]at h;obtain⟨x,e0,t,e1,p,e2,rfl,rfl,rfl⟩:=h;obtain rfl:=z11 e0;obtain rfl:=zr e1;obtain rfl:=znm e2;have hfv0:=hob _ (ye (i:=0) rfl);generalize zl p=pp0 at*;subst hfv0;exact⟨z2f (M:=z1bz) rfl (z4o (l1:=[]) (l2:=[]) (l3:=[]) (l4:=[]) (l5:=[]) trivial trivial trivial trivial trivial) Tryz.func222 (by rfl) zit 0 [.d,.d] (fun hwf=>(z1h7 x t pp0 (z42 hwf (a:=.d (.v (.dat (U:=Un) Ty.val x))) (ye (i:=0) rfl)) (z42 hwf (a:=.d (.agg (enc Ty.val t))) (ye (i:=1) rfl)) (hob _ (ye (i:=1) rfl)))),zj Tryz.func222 (by rfl) (by rfl)⟩
 grind
def z1mw:Mc Un:=mcF_ [(220,z18j),(221,zy1),(222,zqx),(224,z1e8)] [(147,z2h)] [] [(223,zub)] []
def z1ea(x:Acc)(v:Val):Option (RF Un):=fnF_ z1mw z23b Tryz.f186 0 [.d] [.d (.agg (enc Ty.acc x)),.d (.agg (enc Ty.val v))]
theorem z256(x:Acc)(v:Val):z1ea x v=cndO (!zm2 x v) (some (z6a (x))) (cndO (!x.distinct) (obO (zs8 x∧(x.name=nmSum→(-1000000000000000:Int)≤v.n∧v.n≤1000000000000000)) (some (z6a (zk1 x v)))) (obO (z2h=z1g (zl z2h)) (obO (z1mv (zl z2h) x.l v) (cndO (!(z6c x.l v (zl z2h)).snd) (obO (x.l.length≤(1000000000:Nat)) (obO (((0:Int)≤(z6c x.l v (zl z2h)).fst∧(z6c x.l v (zl z2h)).fst≤(↑x.l.length:Int))∧x.l.length≤(1000000:Nat)∧[v].length=(1:Nat)) (some (z6a ({name:=x.name,distinct:=x.distinct,n:=x.n,hi:=x.hi,lo:=x.lo,v:=x.v,l:=List.take (z6c x.l v (zl z2h)).fst.toNat x.l++[v]++List.drop (z6c x.l v (zl z2h)).fst.toNat x.l}))))) (some (z6a (x))))))):=by kernel_rfl
def accV(k:Nat)(x:Acc):Prop:=((0≤x.n∧x.n≤k)∧(-(k:Int)≤x.hi∧x.hi≤k)∧-bigM<x.lo∧x.lo<bigM)∧x.l.length≤k∧(x.l.Pairwise fun a b=>ordV a b<0)∧(x.name=nmSum→∀v∈x.l,-bigM≤v.n∧v.n≤bigM)
theorem accV.mono{k k':Nat}{x:Acc}(h:accV k x)(hk:k≤k'):accV k' x:=⟨⟨⟨h.1.1.1,by have:=h.1.1.2;omega⟩,⟨by have:=h.1.2.1.1;omega,by have:=h.1.2.1.2;omega⟩,h.1.2.2⟩,by have:=h.2.1;omega,h.2.2⟩
theorem accV.ok{k:Nat}{x:Acc}(h:accV k x)(hk:k≤1000000):zs8 x:=by
 obtain⟨⟨h1,h2,h3⟩,_⟩:=h;grind[bigM,zs8]
theorem accV.start(a:Agg):accV 0 (zdw a):=by
 unfold zdw;split
 ·split<;>exact⟨⟨by simp,by simp,by simp[bigM]⟩,by simp,by simp,by simp⟩
 ·split<;>exact⟨⟨by simp,by simp,by simp[bigM]⟩,by simp,by simp,by simp⟩
theorem accV.taken{k:Nat}{x:Acc}(h:accV k x){v:Val}(hv:x.name=nmSum→-bigM≤v.n∧v.n≤bigM):accV (k+1) (za4 x v):=by
 obtain⟨t1,t2,t3⟩:=z1e2 x v;obtain⟨⟨h1,h2,h3⟩,h4,h5,h6⟩:=h;refine⟨?_,by grind,by grind,by grind⟩;unfold za4;by_cases hs:x.name=nmSum
 ·have hv':=hv hs;have a1:=z2fl (n:=x.lo+v.n) (by omega) (by omega);have a2:=z2fk (x.lo+v.n);grind
 grind
theorem accV.step{k:Nat}{x:Acc}(h:accV k x)(v:Val):accV (k+1) (zgo x v):=by
 unfold zgo;split
 ·rename_i hc;split
  ·obtain⟨⟨h1,h2,h3⟩,h4,h5,h6⟩:=h;refine⟨⟨by grind,by grind,h3⟩,?_,z251 h5 v,fun hs u hu=>?_⟩
   all_goals grind[z252,z2fm,z12c]
  ·exact h.taken (fun hs=>z12c hc hs)
 ·exact h.mono (by omega)
def zpz(x:Acc):Prop:=accV 500000 x
def zuc(x:Acc)(v:Val):Acc:=zgo x v
@[simp] theorem z257(x:Acc)(v:Val):zuc x v=zgo x v:=by rfl
theorem z1ud(l:List Val)(v:Val):posP ordV l v=posV l v:=rfl
theorem z2fq{l:List Val}(h:l.Pairwise fun a b=>ordV a b<0)(hl:l.length≤1000000000)(v:Val):z1mv ordV l v:=by
 refine⟨hl,fun i hi hil=>?_⟩;rw[z1ud]at hi;refine z12b h (v:=v) _ ?_;rw[List.mem_iff_getElem?];refine⟨i- posV l v,?_⟩;grind
theorem z2d5{l:List Val}(h:l.Pairwise fun a b=>ordV a b<0)(v:Val):(decide (posV l v<l.length)&&ordV (l.getD (posV l v) z7) v==0)=true↔v∈l:=by
 rw[yp,decide_eq_true_eq,beq_iff_eq];constructor
 ·rintro⟨h1,h2⟩;have:=ordV_zero.1 h2;rw[←this,yd,y9 h1];exact y21 h1
 ·intro hm;have hd:v∈l.drop (posV l v):=by
   have:=hm;rw[←y1o (posV l v) l,yc]at this;rcases this with g|g
   ·have:=z12a (l:=l) (v:=v) v g;simp_all[z1uc]
   omega
  have hlt:posV l v<l.length:=by
   grind[Nat.lt_or_ge,posV,List.drop_of_length_le]
  have hdl:l.drop (posV l v)=l[posV l v]'hlt::l.drop (posV l v+1):=y1u hlt;have hnot:¬ordV (l.getD (posV l v) z7) v<0:=z12b h (v:=v) _ (by grind);rw[hdl]at hd;rcases yf.1 hd with g|g
  ·grind[z1uc]
  ·have hp:(l.drop (posV l v)).Pairwise fun a b=>ordV a b<0:=h.drop;grind[List.pairwise_cons]
theorem z1wh(x:Acc)(v:Val)(_hx:WS .acc x)(_hv:WS .val v)(h:zpz x):z1ea x v=some (z6a (zuc x v)):=by
 have hok:=h.ok (by omega);obtain⟨_,h4,h5,h6⟩:=h;rw[z256,ztw,zeu];unfold zuc zgo;simp only[z8,z1wc,z18l];by_cases hc:zjz x.name v=true
 ·rw[if_neg (by grind),if_pos hc];by_cases hd:x.distinct=true
  ·rw[if_neg (by grind),if_pos hd,z6 trivial,z6 (z2fq h5 (by omega) v)];unfold z6c insV;rw[z1ud];have hf:=z2d5 h5 v;by_cases hm:v∈x.l
   ·rw[if_neg (by grind),if_pos hm]
   ·have hle:=z26h x.l v;rw[if_pos (by grind),if_neg hm,z6 (by omega),z6 ⟨⟨by simp,by omega⟩,by omega,rfl⟩];simp
  ·rw[if_pos (by grind),if_neg hd,z6 ⟨hok,fun hs=>z12c hc hs⟩]
 grind
def z1mx:FnC Un:=fnF2 (dS .acc) (dS .val) fun x v=>([zpz x],z6a (zuc x v))
theorem z258:FnOK 186 z1mx:=fnK2 zr zr (M:=z1mw) rfl ⟨z1wd,z18m,z1r1,z216,trivial⟩ ⟨zvn,trivial⟩ trivial ⟨z1qy,trivial⟩ trivial Tryz.func186 fun x v=>GiF.r fun w o=>z1wh x v (wfA_ w 0) (wfA_ w 1) (obA_ o 0)
def zov:Mc Un:=mcF_ [(221,zy1),(32,z8y),(225,z1e7)] [] [] [] []
def zy2:Nat→NS:=nsF_ [(2,{ts:=bl 34 454,bs:=bl 34 6,nm:=[],gb:=[1]})] false
def zcs(x:Acc)(b1:Acc)(v0:Int):S Un:=(st 34 34 136 0 [(1,ax 1),(2,ax 2),(6,al .val x.l),(7,ai (↑x.l.length:Int)),(8,ai v0)] [(1,bg .acc b1),(2,bg .val z7)] [])
def zm4:S Un→Option (EX Un):=lpF_ zov zy2 Tryz.f187 [1,0,1,2,2] 2
def z18r:Exit→S Un→Option (RF Un):=cxF_ zov zy2 Tryz.f187 [1,0,1,2] [.d]
def z18s(x:Acc):Option (RF Un):=fnF_ zov zy2 Tryz.f187 0 [.d] [.d (.agg (enc Ty.acc x))]
theorem z21a(x:Acc):z18s x=(zm4 (zcs x x (0:Int))).bind (ze z18r):=by kernel_rfl
theorem z18t(x:Acc)(b1:Acc)(v0:Int):zm4 (zcs x b1 v0)=cndO (decide (v0<(↑x.l.length:Int))) (obO (0≤v0∧v0<(↑x.l.length:Int)) (obO (zs8 b1∧(b1.name=nmSum→(-1000000000000000:Int)≤(x.l.getD v0.toNat z7).n∧(x.l.getD v0.toNat z7).n≤1000000000000000)) (zm4 (zcs x (zk1 b1 (x.l.getD v0.toNat z7)) (IntKind.i64.wrap (v0+1)))))) (some (.exit 0,(zcs x b1 v0))):=lpQ_ (by kernel_rfl)
def zud(b1:Acc):Option (RF Un):=cndO (b1.name.toList==(ByteArray.mk #[115,117,109]).toList) (obO (zs8 b1) (some (zx1 (zpy b1)))) (cndO (b1.name.toList==(ByteArray.mk #[109,105,110]).toList) (cndO (b1.name.toList==(ByteArray.mk #[109,105,110]).toList) (some (zx1 (b1.v))) (some (zx1 (z7)))) (cndO (b1.name.toList==(ByteArray.mk #[109,97,120]).toList) (some (zx1 (b1.v))) (some (zx1 (z7)))))
theorem z1my(x:Acc)(b1:Acc)(v0:Int):z18r (.exit 0) (zcs x b1 v0)=cndO (b1.name.toList==(ByteArray.mk #[99,111,117,110,116]).toList) (cndO (b1.name.toList==(ByteArray.mk #[99,111,117,110,116]).toList) (some (zx1 (zd b1.n))) (zud b1)) (cndO (b1.name.toList==(ByteArray.mk #[114,111,119,115]).toList) (some (zx1 (zd b1.n))) (zud b1)):=by kernel_rfl
def zq0(x:Acc):Val:=zzx x
@[simp] theorem z21b(x:Acc):zq0 x=zzx x:=by rfl
theorem z1r2(x:Acc)(_hx:WS .acc x)(h:zpz x):z18s x=some (zx1 (zq0 x)):=by
 have hxl:=h.2.1;have hxb:=h.2.2.2
 obtain⟨hl,hI⟩:=z1p (e:=.exit 0) (L:=zm4) (st:=fun a i=>zcs x a i) (l:=x.l) (d:=z7) (g:=za4) (fun i a=>accV (500000+i) a∧a.name=x.name) (by omega)
  (fun a i v hi hv hI=>⟨⟨hI.1.taken (fun hs=>hxb (hI.2.symm.trans hs) v (by
    grind)),(z1e2 a v).2.2.trans hI.2⟩,by
   rw[z18t];simp only[z8,hi,decide_true,if_true,and_true,y5,hv,z18l]
   rw[z6 (by omega),z6 ⟨hI.1.ok (by omega),fun hs=>hxb (hI.2.symm.trans hs) v (by
    grind)⟩]⟩)
  (fun a _=>by rw[z18t];simp[z8]) x ⟨h,rfl⟩
 rw[z21a,zg hl];have hok:=hI.1.ok (by omega);unfold zq0 zzx endA;simp only[z1my,zud,z8,z20w,z1ml,z20x,z20y,z1qo,z2fi,z100,z6 hok,zpy,decide_eq_true_eq];grind
def z1eb:FnC Un:=fnF1 (dS .acc) fun x=>([zpz x],zx1 (zq0 x))
theorem z21c:FnOK 187 z1eb:=fnK1 zr (M:=zov) rfl ⟨z18m,zc4,z215,trivial⟩ trivial trivial trivial trivial Tryz.func187 fun x=>GiF.r fun w o=>z1r2 x (wfA_ w 0) (obA_ o 0)
def zwc:Mc Un:=mcF_ [(185,z1e4),(186,z1mx),(187,z1eb)] [] [] [] []
def z18v:Nat→NS:=nsF_ [(3,{ts:=bl 22 7216,bs:=bl 22 48,nm:=[],gb:=[5]})] false
def zgq(l:List Val)(b5:Acc)(v0:Int):S Un:=(st 22 22 88 0 [(4,ax 4),(5,ax 5),(10,al .val l),(11,ai (↑l.length:Int)),(12,ai v0)] [(4,bg .val z7),(5,bg .acc b5)] [])
def zsb:S Un→Option (EX Un):=lpF_ zwc z18v Tryz.f141 [1,1,0,1,2,2] 3
def z1mz:Exit→S Un→Option (RF Un):=cxF_ zwc z18v Tryz.f141 [1,1,0,1,2] [.d]
def z1n0(a:Agg)(l:List Val):Option (RF Un):=fnF_ zwc z18v Tryz.f141 0 [.d] [.d (.agg (enc Ty.agg a)),.d (.v (.dat (U:=Un) Ty.val l))]
theorem z29n(a:Agg)(l:List Val):z1n0 a l=(zsb (zgq l (zk0 (Agg.ids a)) (0:Int))).bind (ze z1mz):=by kernel_rfl
theorem z1n1(l:List Val)(b5:Acc)(v0:Int):zsb (zgq l b5 v0)=cndO (decide (v0<(↑l.length:Int))) (obO (0≤v0∧v0<(↑l.length:Int)) (obO (zpz b5) (zsb (zgq l (zuc b5 (l.getD v0.toNat z7)) (IntKind.i64.wrap (v0+1)))))) (some (.exit 0,(zgq l b5 v0))):=lpQ_ (by kernel_rfl)
theorem z1wi(l:List Val)(b5:Acc)(v0:Int):z1mz (.exit 0) (zgq l b5 v0)=obO (zpz b5) (some (zx1 (zq0 b5))):=by kernel_rfl
def zct(a:Agg)(l:List Val):Val:=runA a l
@[simp] theorem z1n2(a:Agg)(l:List Val):zct a l=runA a l:=by rfl
theorem z21d(a:Agg)(l:List Val)(_ha:WS .agg a)(_hl:WL .val l)(h:l.length≤400000):z1n0 a l=some (zx1 (zct a l)):=by
 obtain⟨hl,hI⟩:=z1p (e:=.exit 0) (L:=zsb) (st:=fun b i=>zgq l b i) (l:=l) (d:=z7) (g:=zgo) (fun i b=>accV i b) (by omega)
  (fun b i v hi hv hI=>⟨hI.step v,by
   rw[z1n1];simp only[z8,hi,decide_true,if_true,and_true,y5,hv,z257]
   rw[z6 (by omega),z6 (show zpz b from hI.mono (by omega))]⟩)
  (fun b _=>by rw[z1n1];simp[z8]) (zdw a) (accV.start a)
 rw[z29n,Agg.ids_eq,z1qp,zg hl];unfold zct runA;simp only[z1wi,z21b];rw[z6 (show zpz _ from hI.mono (by omega))]
def z1ue:FnC Un:=fnF2 (dS .agg) (dL .val) fun a l=>([l.length≤400000],zx1 (zct a l))
theorem z29o:FnOK 141 z1ue:=fnK2 zr z11 (M:=zwc) rfl ⟨z211,z258,z21c,trivial⟩ trivial trivial trivial trivial Tryz.func141 fun a l=>GiF.r fun w o=>z21d a l (wfA_ w 0) (wfA_ w 1) (obA_ o 0)
end
end B
end Go.Proofs.YtjfpbchdcbhfgaaGreat
